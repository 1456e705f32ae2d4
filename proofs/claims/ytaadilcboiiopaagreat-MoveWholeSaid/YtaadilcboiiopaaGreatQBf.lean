/-
  Contracts and plain laws that the last text leans on.
-/
import Derived.Test.YtaadilcboiiopaaGreatQBe
import Derived.Test.YtaadilcboiiopaaGreatQBb
import Derived.Test.YtaadilcboiiopaaGreatQBd
set_option maxRecDepth 100000
set_option maxHeartbeats 8000000
set_option linter.unusedVariables false
set_option linter.unusedSimpArgs false
namespace Go.Proofs
open Go.Sh Go.RowKit
section
section
variable {u:UnD} {fn q:Int} {g:GrD} {ps:List PlD} {bx b3 b5 b7 bm B:Nat} {q0 r:Gh} {x:PlD} {c:List Value} {X:Nat→Prop} {w0 w:World} {L0:List Asr} {K:Value→World→Prop} {laid:Bool} {Mv:z1} {m:Nat→Bool} {t:Nat} {ft:Fn} {at' ct:Array Value}
abbrev adK:=Nat→AgA→List Asr→Prop
structure TelF(R:adK)(n:Nat)(r:Gh)(X:Nat→Prop)(w0:World)(bm:Nat)(tell:Value):Prop where
 alike:∀{t a a' L},R t a L→(∀i,i<n→a.1 i=a'.1 i∧a.2 i=a'.2 i)→R t a' L
 more:∀{t t' a L},R t a L→t≤t'→R t' a L
 tell:∀{i t:Nat}{a:AgA}{L:List Asr}{Mv:z1}{m:Nat→Bool}{B:Nat}{r':Gh}{w:World}{K:Value→World→Prop},i<n→t≤1000000→Le r r'→R t a L→SetF n B Mv m→StX X w0 r' w (.obj bm (zE Mv)::L)→(∀L' w',R (t+1) (adJ a i (m i)) L'→StX X w0 r' w' (.obj bm (zE Mv)::L')→K (.tuple #[]) w')→zx Tryz.prog tell #[.int .i64 (i:Nat),.map (some bm)] w K
theorem TelF.up{R:adK}{n:Nat}{r s:Gh}{tell:Value}(h:TelF R n r X w0 bm tell)(l:Le r s):TelF R n s X w0 bm tell:=
 ⟨h.alike,h.more,λhi ht lr hR hM S hK=>h.tell hi ht ⟨λb o ho=>lr.le b o (l.le b o ho)⟩ hR hM S hK⟩
theorem Vm{R:adK}{a:AgA}{tell:Value}(S:StX X w0 r w (.obj bm (zE Mv)::L0))(hL:LkM q0 bx u g ps)[Le q0 r](F:FnM u fn g)(hp:PlG r c x)(hok:OkP u g x)(hf:ps.length≤256)(hT:TelF R ps.length r X w0 bm tell)
  (h3:Ob r λw=>w.cell? ⟨b3,0,none⟩=some (.pointer (some ⟨bx,0,none⟩))) (h5:Ob r λw=>w.cell? ⟨b5,0,none⟩=some tell) (h7:Ob r λw=>w.cell? ⟨b7,0,none⟩=some (.map (some bm))) (ht:t≤999000) (hR:R t a L0) (hM:SetF ps.length B Mv m)
  (h:∀L' w',R (t+ps.length) (λi=>a.1 i||useF u g ps x laid i,λi=>a.2 i||(useF u g ps x laid i&&m i)) L'→StX X w0 r w' (.obj bm (zE Mv)::L')→K (.tuple #[]) w'):zx Tryz.prog (afP b3 b5 b7) #[.agg c.toArray,.bool laid] w K:=by
 refine ahH (J:=λi L'=>∃L1,L'=.obj bm (zE Mv)::L1∧R (t+i) (usT (useF u g ps x laid) m i a) L1) S hL F hp hok (by omega) h3 h5 h7 ⟨L0,rfl,hT.alike hR λi _=>by simp[usT]⟩ ?_ ?_ ?_
 ·rintro i L' r' w K hi hu lr ⟨L1,rfl,hR⟩ S hK
  refine hT.tell hi (by omega) lr hR hM S λL2 w' hR S=>?_
  exact hK _ w' ⟨L2,rfl,hT.alike hR λj _=>agi hu j⟩ S
 ·rintro i L' hi hu ⟨L1,rfl,hR⟩
  exact⟨L1,rfl,hT.more (hT.alike hR λj _=>ag7 hu j) (by omega)⟩
 ·rintro L' w' ⟨L1,rfl,hR⟩ S
  exact h L1 w' (hT.alike hR λi hi=>by simp[usT,hi]) S
theorem aeQ{R:adK}{p:PtD}(S:StX X w0 r w L0)(hL:LkM q0 bx u g ps)[Le q0 r](F:FnM u fn g)(hq0:0≤q)(hq:q.toNat<g.pts.length)(hpe:g.pts[q.toNat]=p)(hf:ps.length≤256)(hT:∀bm,TelF R ps.length r X w0 bm (.func ft at' ct))(hR:R 0 (zy,zy) L0)
  (h:∀t L' w',R t ((kF u g ps p).all,(kF u g ps p).again) L'→StX X w0 r w' L'→K (.tuple #[]) w'):zc Tryz.prog Tryz.x8 #[.pointer (some ⟨bx,0,none⟩),.int .i64 q,.func ft at' ct] w K:=by
 refine Tryz.QE ?_
 unfold Tryz.ZD
 have hpm:p∈g.pts:=by rw[← hpe];exact gem hq
 have hargs:=Y4 F.may (F.pts p hpm)
 have hto:=F.to hpm
 have hpls:=F.pls hpm
 obtain⟨pq,capq,hpts,hpl⟩:=hL.pts
 obtain⟨bq,oq,cq,hqE,hcq,hpc,hpo⟩:=hpl.sl.get (by decide) hq
 cases hqE
 rw[hpe]at hpc
 obtain⟨x1,x2,x3,x4,x5,y1,y2,y3,y4,y5,rfl,hp0⟩:=YB hpc
 refine S.box λb3 w1 S=>?_
 have S:StX X w0 r w1 (.cell b3 [.pointer (some ⟨bx,0,none⟩)] 78::L0):=S
 have S:=S.frzAt b3
 refine S.box λb5 w2 S=>?_
 have S:StX X w0 _ w2 (.cell b5 [.func ft at' ct] 88::L0):=S
 have S:=S.frzAt b5
 refine zg (S.at (q:=r.or (Go.Sh.one b3 [.pointer (some ⟨bx,0,none⟩)] 78)) (yy (b:=b3) (i:=0) (c:=[.pointer (some ⟨bx,0,none⟩)]) (T:=78) rfl)) ?_
 refine gg_ ?_
 refine zg (S.at hpts) ?_
 refine gp_ ?_
 refine zu (n:=21) hcq (λj v hj=>by simpa using S.at (hpo j v hj)) ?_
 refine S.al λb6 w3 S=>?_
 refine S.stB (b:=b6) λw4 S=>?_
 have S:StX X w0 _ w4 (.cell b6 (ptL p x1 x2 x3 x4 x5 y1 y2 y3 y4 y5) 94::L0):=S
 have S:=S.frzAt b6
 refine S.mkMapJ λbm w5 S=>?_
 refine S.al λb7 w6 S=>?_
 refine S.st (b:=b7) (λw7 S=>?_) (by simp)
 have S:StX X w0 _ w7 (.cell b7 [.map (some bm)] 82::.obj bm (zE [])::L0):=S
 have S:=S.frzAt b7
 refine gp_ ?_
 refine zu (n:=21) (c:=ptL p x1 x2 x3 x4 x5 y1 y2 y3 y4 y5) rfl (λj v hj=>by simpa using S.at (yy (q:=Go.Sh.one b6 (ptL p x1 x2 x3 x4 x5 y1 y2 y3 y4 y5) 94) (b:=b6) (T:=94) hj)) ?_
 refine qK S.holds (PtG.up hp0) hargs λv9 s2 w9 e9 n9 h9=>?_
 obtain⟨S,_,a9⟩:=S.tell e9 n9
 obtain⟨ρ,lr,l0,h3,h5,h6,h7,h9,hp0,S⟩:∃ρ,Le r ρ∧Le q0 ρ∧(Ob ρ λw=>w.cell? ⟨b3,0,none⟩=some (.pointer (some ⟨bx,0,none⟩)))∧(Ob ρ λw=>w.cell? ⟨b5,0,none⟩=some (.func ft at' ct))∧(∀j v,(ptL p x1 x2 x3 x4 x5 y1 y2 y3 y4 y5)[j]? = some v→Ob ρ λw=>w.cell? ⟨b6,j,none⟩=some v)∧(Ob ρ λw=>w.cell? ⟨b7,0,none⟩=some (.map (some bm)))∧
  SlG 4 ρ (OpG ρ) v9 (zm p)∧PtG ρ (ptL p x1 x2 x3 x4 x5 y1 y2 y3 y4 y5) p∧StX X w0 ρ w9 (.obj bm (zE [])::L0):=
  ⟨_,inferInstance,inferInstance,yy (b:=b3) (i:=0) (c:=[.pointer (some ⟨bx,0,none⟩)]) (T:=78) rfl,yy (b:=b5) (i:=0) (c:=[.func ft at' ct]) (T:=88) rfl,λj v hj=>yy (b:=b6) (c:=ptL p x1 x2 x3 x4 x5 y1 y2 y3 y4 y5) (T:=94) hj,yy (b:=b7) (i:=0) (c:=[.map (some bm)]) (T:=82) rfl,h9.up' inferInstance λ_ _ h=>OpG.up h,PtG.up hp0,S⟩
 clear e9 n9 a9 hpo hpc hcq
 have hTb:=(hT bm).up lr
 clear hT
 obtain⟨_,_,_,_,_,hE,k1,k2,k3,k4,k5⟩:=id hp0
 cases hE
 obtain⟨q9,c9,rfl,_,_⟩:=h9.shape
 have hol:(zm p).length≤1002:=by
  have h1:=List.length_filter_le qE (p.a::p.b::p.args)
  change (zm p).length≤_ at h1
  simp only[List.length_cons]at h1
  omega
 refine gp_ ?_
 refine zj (ι:=Nat) (λj=>[.int .i64 (j:Nat)]) (λj w'=>j≤(zm p).length∧∃a L Mv,a=(((zm p).take j).map λo=>(o.pl,false,decide (o.k=4))).foldl (usF u g ps) ⟨zy,zy,zy⟩∧R (j*256) (a.all,a.again) L∧SetF ps.length (j*256) Mv a.lost∧StX X w0 ρ w' (.obj bm (zE Mv)::L)) (λj=>(zm p).length-j) 0 rfl ⟨gzl _,⟨zy,zy,zy⟩,L0,[],rfl,by rw[Nat.zero_mul];exact hR,by rw[Nat.zero_mul];exact SetF.none,S⟩ ?_
 clear S hR
 rintro j d5 w10 ⟨hj,a,L,Mv,ha,hR,hM,S⟩ K9 hK9
 rw[gdz]
 refine gp_ ?_
 refine zi (λhlt=>?_) (λhge=>?_)
 ·have hlt:j<(zm p).length:=by omega
  refine zs (λy w'=>y=[]∧∃L Mv,R ((j+1)*256) ((usF u g ps a ((zm p)[j].pl,false,decide ((zm p)[j].k=4))).all,(usF u g ps a ((zm p)[j].pl,false,decide ((zm p)[j].k=4))).again) L∧SetF ps.length ((j+1)*256) Mv (usF u g ps a ((zm p)[j].pl,false,decide ((zm p)[j].k=4))).lost∧StX X w0 ρ w' (.obj bm (zE Mv)::L)) (λK13 hK13=>?_) ?_
  ·obtain⟨bo,oo,co,hoE,hco,hoc,hoo⟩:=h9.get (by decide) hlt
   cases hoE
   have hok:=hpls _ (List.mem_append_left _ (List.mem_map_of_mem (gem hlt)))
   clear hK9 ha
   generalize (zm p)[j]=o at *
   refine gp_ ?_
   refine zu (n:=4) hco (λj v hj=>by simpa using S.at (hoo j v hj)) ?_
   obtain⟨qo,ko,rfl⟩:=Zc hoc
   refine S.al λb14 w11 S=>?_
   refine S.stB (b:=b14) λw12 S=>?_
   have S:StX X w0 ρ w12 (.cell b14 [.int .u8 o.k,.int .i64 o.n,.int .i64 o.pl.l,.slice qo o.pl.ps.length ko] 61::.obj bm (zE Mv)::L):=S
   obtain⟨_,hoE,hopl⟩:=id hoc
   cases hoE
   have S:=S.frzAt b14
   have lo:∀j v,[Value.int .u8 o.k,.int .i64 o.n,.int .i64 o.pl.l,.slice qo o.pl.ps.length ko][j]? = some v→Ob (ρ.or (Go.Sh.one b14 [.int .u8 o.k,.int .i64 o.n,.int .i64 o.pl.l,.slice qo o.pl.ps.length ko] 61)) λw=>w.cell? ⟨b14,j,none⟩=some v:=λj v hj=>yy (b:=b14) (c:=[.int .u8 o.k,.int .i64 o.n,.int .i64 o.pl.l,.slice qo o.pl.ps.length ko]) (T:=61) hj
   have lo2:∀j v,[Value.int .i64 o.pl.l,.slice qo o.pl.ps.length ko][j]? = some v→Ob (ρ.or (Go.Sh.one b14 [.int .u8 o.k,.int .i64 o.n,.int .i64 o.pl.l,.slice qo o.pl.ps.length ko] 61)) λw=>w.cell? ⟨b14,2+j,none⟩=some v:=λj v hj=>lo (2+j) v (by rw[Nat.add_comm,← hj];rfl)
   have hpl:PlG (ρ.or (Go.Sh.one b14 [.int .u8 o.k,.int .i64 o.n,.int .i64 o.pl.l,.slice qo o.pl.ps.length ko] 61)) [.int .i64 o.pl.l,.slice qo o.pl.ps.length ko] o.pl:=PlG.up (⟨_,rfl,hopl⟩:PlG ρ _ o.pl)
   obtain⟨σ,hσ⟩:∃σ,σ=ρ.or (Go.Sh.one b14 [.int .u8 o.k,.int .i64 o.n,.int .i64 o.pl.l,.slice qo o.pl.ps.length ko] 61):=⟨_,rfl⟩
   have lσ:Le ρ σ:=by rw[hσ];exact inferInstance
   rw[← hσ]at S lo lo2 hpl
   haveI:Le q0 σ:=⟨λb o ho=>lσ.le b o (l0.le b o ho)⟩
   refine gp_ ?_
   refine zu (n:=2) rfl (λj v hj=>S.at (lo2 j v hj)) ?_
   refine Vm (laid:=false) S hL F hpl hok hf (hTb.up lσ) h3.up h5.up h7.up (by omega) hR hM λL' w13 hR S=>?_
   have hR:R ((j+1)*256) ((usF u g ps a (o.pl,false,decide (o.k=4))).all,(usF u g ps a (o.pl,false,decide (o.k=4))).again) L':=hTb.more hR (by omega)
   refine gp_ ?_
   refine zg (S.at (lo 0 _ rfl)) ?_
   refine gp_ ?_
   refine zi (λhk=>?_) (λhk=>?_)
   ·refine zg (S.at h3) ?_
    refine gp_ ?_
    refine zu (n:=2) rfl (λj v hj=>S.at (lo2 j v hj)) ?_
    refine zg (S.at h7) ?_
    refine gp_ ?_
    refine qz (b:=bm) S hL hpl (by omega) hM (by omega) λM' w14 hM' S=>?_
    refine hK13 _ _ ⟨rfl,L',M',hR,?_,S.to ρ⟩
    have e:(usF u g ps a (o.pl,false,decide (o.k=4))).lost=yq ps o.pl true a.lost:=if_pos (by simpa using hk)
    rw[e]
    exact hM'.mono (by omega)
   ·refine hK13 _ _ ⟨rfl,L',Mv,hR,?_,S.to ρ⟩
    have e:(usF u g ps a (o.pl,false,decide (o.k=4))).lost=a.lost:=if_neg (by simpa using hk)
    rw[e]
    exact hM.mono (by omega)
  ·clear S hR hM
   rintro _ w13 ⟨rfl,L,Mv,hR,hM,S⟩ d13
   refine gp_ ?_
   rw[show ((j:Int)+1)=((j+1:Nat):Int)by omega]
   refine hK9 (j+1) _ ⟨hlt,_,L,Mv,?_,hR,hM,S⟩ (by omega)
   rw[List.take_succ_eq_append_getElem hlt,List.map_append,List.foldl_append,← ha];rfl
 obtain rfl:j=(zm p).length:=by omega
 rw[List.take_length]at ha
 clear hK9 K9 hge hj
 have hfin:kF u g ps p=((if p.op=4 then [(p.fr,false,false)]else if p.op=14 then [(aa6,false,false)]else [])++(if(decide (1≤p.op)&&decide (p.op≤8))=true then [(p.to,true,false)]else [])).foldl (usF u g ps) a:=by
  rw[kF,aa7,List.foldl_append,ha]
 rw[List.foldl_append]at hfin
 have lp:∀(n:Nat)(c:List Value),c.length=2→(∀j v,c[j]? = some v→(ptL p x1 x2 x3 x4 x5 y1 y2 y3 y4 y5)[n+j]? = some v)→∀j v,c[j]? = some v→Ob ρ λw=>w.cell? ⟨b6,n+j,none⟩=some v:=λn c _ hc j v hj=>h6 _ v (hc j v hj)
 have hfr:=lp 13 [.int .i64 p.fr.l,.slice x5 p.fr.ps.length y5] rfl (λj v hj=>by
  have hj2:j<2:=(List.getElem?_eq_some_iff.1 hj).1
  rw[← hj];rcases(show j=0∨j=1 by omega)with rfl|rfl<;>rfl)
 have hpt:=lp 1 [.int .i64 p.to.l,.slice x1 p.to.ps.length y1] rfl (λj v hj=>by
  have hj2:j<2:=(List.getElem?_eq_some_iff.1 hj).1
  rw[← hj];rcases(show j=0∨j=1 by omega)with rfl|rfl<;>rfl)
 refine zs (λy w'=>y=[]∧∃a2 L,kF u g ps p=(if(decide (1≤p.op)&&decide (p.op≤8))=true then [(p.to,true,false)]else []).foldl (usF u g ps) a2∧R 300000 (a2.all,a2.again) L∧(∃B,SetF ps.length B Mv a2.lost)∧StX X w0 ρ w' (.obj bm (zE Mv)::L)) (λK21 hK21=>?_) ?_
 ·refine gp_ ?_
  refine zg (S.at (h6 0 _ rfl)) ?_
  refine gp_ ?_
  refine zi (λho=>?_) (λho=>?_)
  ·rw[if_pos ho]at hfin
   refine gp_ ?_
   refine zu (n:=2) rfl (λj v hj=>S.at (hfr j v hj)) ?_
   refine Vm (laid:=false) S hL F (⟨_,rfl,k5⟩:PlG ρ _ p.fr) (hpls _ (by rw[xF,if_pos (.inl (.inl ho))];simp)) hf hTb h3 h5 h7 (by omega) hR hM λL' w13 hR S=>?_
   exact hK21 _ _ ⟨rfl,_,L',hfin,hTb.more hR (by omega),⟨_,hM⟩,S⟩
  ·rw[if_neg ho]at hfin
   refine gp_ ?_
   refine zg (S.at (h6 0 _ rfl)) ?_
   refine gp_ ?_
   refine zi (λho=>?_) (λho=>?_)
   ·rw[if_pos ho]at hfin
    refine zw (cs:=#[.int .i64 0,.slice none 0 0]) (by kernel_rfl) ?_
    refine Vm (laid:=false) S hL F (x:=aa6) (c:=[.int .i64 0,.slice none 0 0]) ⟨_,rfl,jK⟩ (.inl rfl) hf hTb h3 h5 h7 (by omega) hR hM λL' w13 hR S=>?_
    exact hK21 _ _ ⟨rfl,_,L',hfin,hTb.more hR (by omega),⟨_,hM⟩,S⟩
   ·rw[if_neg ho]at hfin
    exact hK21 _ _ ⟨rfl,a,L,hfin,hTb.more hR (by omega),⟨_,hM⟩,S⟩
 clear S hR hM hfin ha
 rintro _ w13 ⟨rfl,a2,L,hfin,hR,⟨B,hM⟩,S⟩ d13
 refine zu (n:=21) (c:=ptL p x1 x2 x3 x4 x5 y1 y2 y3 y4 y5) rfl (λj v hj=>by simpa using S.at (h6 j v hj)) ?_
 refine jO S.holds hp0 λw14 e14=>?_
 have S:=S.go e14
 refine c_b (λho=>?_) (λho=>?_)
 ·rw[if_pos ho]at hfin
  refine gp_ ?_
  refine zu (n:=2) rfl (λj v hj=>S.at (hpt j v hj)) ?_
  refine Vm (laid:=true) S hL F (⟨_,rfl,k1⟩:PlG ρ _ p.to) hto hf hTb h3 h5 h7 (by omega) hR hM λL' w15 hR S=>?_
  rw[hfin]at h
  exact h _ L' _ hR (S.tl.to r)
 ·rw[if_neg (by rw[ho];decide)]at hfin
  rw[hfin]at h
  exact h _ L _ hR (S.tl.to r)
end
section
variable {n bs b10:Nat} {r:Gh} {X:Nat→Prop} {w0:World} {L:List Asr}
theorem afC{bm:Nat}(h10:Ob r λw=>w.cell? ⟨b10,0,none⟩=some (.map (some bs))):TelF (λt a L'=>∃M,L'=.obj bs (zE M)::L∧SetF n t M a.1) n r X w0 bm (.func (.func Tryz.vx) #[] #[.pointer (some ⟨b10,0,none⟩)]) where
 alike:=λ⟨M,e,h⟩ ha=>⟨M,e,h.congr λi hi=>(ha i hi).1⟩
 more:=λ⟨M,e,h⟩ ht=>⟨M,e,h.mono ht⟩
 tell:=by
  rintro i t a L' Mv m B r' w K hi ht lr ⟨M,rfl,hM⟩ hMv S hK
  refine adm (by kernel_rfl) ?_
  refine Tryz.V0 ?_
  unfold Tryz.Xo
  refine zg (S.at (h10.up (l:=lr))) ?_
  have hc:=hM.cnt i
  refine vi (b:=bs) S (by omega) λw' S=>?_
  exact hK _ w' ⟨_,rfl,hM.put hi⟩ S
theorem aeR{bm:Nat}(h10:Ob r λw=>w.cell? ⟨b10,0,none⟩=some (.map (some bs))):TelF (λt a L'=>∃M,L'=.obj bs (zE M)::L∧SetF n t M a.2) n r X w0 bm (.func (.func Tryz.jE) #[] #[.pointer (some ⟨b10,0,none⟩)]) where
 alike:=λ⟨M,e,h⟩ ha=>⟨M,e,h.congr λi hi=>(ha i hi).2⟩
 more:=λ⟨M,e,h⟩ ht=>⟨M,e,h.mono ht⟩
 tell:=by
  rintro i t a L' Mv m B r' w K hi ht lr ⟨M,rfl,hM⟩ hMv S hK
  refine adm (by kernel_rfl) ?_
  refine Tryz.Ve ?_
  unfold Tryz.YH
  refine S.mapGetJ (b:=bm) mpS agW ?_
  rw[V2]
  refine gp_ ?_
  rw[hMv.has hi]
  refine c_b (λhm=>?_) (λhm=>?_)
  ·refine zg (S.at (h10.up (l:=lr))) ?_
   have hc:=hM.cnt i
   refine vi (b:=bs) S (by omega) λw' S=>?_
   refine hK _ w' ⟨_,rfl,?_⟩ S
   have e:(adJ a i (m i)).2=xS a.2 i true:=by show xS a.2 i (a.2 i||m i)=_;rw[hm,Bool.or_true]
   rw[e]
   exact hM.put hi
  ·refine hK _ w ⟨M,rfl,(hM.mono (Nat.le_succ t)).congr λj _=>?_⟩ S
   show a.2 j=xS a.2 i (a.2 i||m i) j
   rw[hm,Bool.or_false,xS]
   split
   ·rename_i e;rw[e]
   ·rfl
end
section
variable {u:UnD} {fn q:Int} {v:Value} {w:World} {r:Gh} {K:Value→World→Prop}
theorem acw(hr:Holds r w)(hu:UnG r v u)
  (h0:∀e w',e≠0→mvE u fn q=e→Ext w w'→K (.tuple #[.slice none 0 0,.int .i64 e]) w')
  (h1:∀g v1 s w',mvE u fn q=0→FnM u fn g→0≤q→(hq:q.toNat<g.pts.length)→(zf u g).length≤256→Ext w w'→New w s w'→SlG 1 s ye v1 (risI (zf u g).length (kF u g (zf u g) g.pts[q.toNat]).all)→K (.tuple #[v1,.int .i64 0]) w'):
  zc Tryz.prog Tryz.Z7 #[v,.int .i64 fn,.int .i64 q] w K:=by
 refine Tryz.abO ?_
 unfold Tryz.QZ
 have hu0:=hu
 obtain⟨p0,cap0,vf,rfl,_,_,hst,hsl,hfn⟩:=hu
 obtain⟨qf,capf,rfl,_,_⟩:=hfn.sl.shape
 have S:=St.start hr
 refine S.box λb3 w1 S=>?_
 have S:StX noX w r w1 [.cell b3 [.slice p0 u.ss.length cap0,.slice qf u.fs.length capf,.int .i64 u.mn] 25]:=S
 refine S.ldB (b:=b3) ?_ rfl
 refine Z2 S.holds hu0 (λe w2 he hof e2=>?_) λg s bx w2 hof hq0 F hq hb e2 n2 hL=>?_
 ·refine gg_ ?_
  refine c_t (by simp[he]) ?_
  exact h0 e w2 he hof (S.go e2).ext
 obtain⟨S,_,a2⟩:=S.tell e2 n2
 refine gg_ ?_
 refine c_f (by decide) ?_
 refine S.mkMapJ λbs w3 S=>?_
 refine S.al λb10 w4 S=>?_
 refine S.st (b:=b10) (λw5 S=>?_) (by simp)
 have S:StX noX w (r.or s) w5 (.cell b10 [.map (some bs)] 82::.obj bs (zE [])::[.cell b3 [.slice p0 u.ss.length cap0,.slice qf u.fs.length capf,.int .i64 u.mn] 25]):=S
 obtain⟨S,a10⟩:=StX.frzNew S b10
 have h10:Ob ((r.or s).or (Go.Sh.one b10 [.map (some bs)] 82)) λw=>w.cell? ⟨b10,0,none⟩=some (.map (some bs)):=yy (b:=b10) (i:=0) (c:=[.map (some bs)]) (T:=82) rfl
 refine gp_ ?_
 refine aeQ (ft:=.func Tryz.vx) S hL F hq0 hq rfl hb (λbm=>afC h10) ⟨[],rfl,SetF.none⟩ λt L' w6 hR S=>?_
 obtain⟨M,rfl,hM⟩:=hR
 refine zg (S.at h10) ?_
 refine jR (b:=bs) S hM (by omega) λv1 s1 w7 S h1' a1=>?_
 have S:=S.reGh.reGh
 exact h1 g v1 _ _ hof F hq0 hq hb S.ext (S.newOf (a2.or' (Above.or' a10 λb o ho=>(a1 b o ho).resolve_right id))) (h1'.up' inferInstance λ_ _ h=>h)
theorem ab4(hr:Holds r w)(hu:UnG r v u)
  (h0:∀e w',e≠0→mvE u fn q=e→Ext w w'→K (.tuple #[.int .i64 0,.bool false,.int .i64 e]) w')
  (h1:∀g w',mvE u fn q=0→FnM u fn g→0≤q→(hq:q.toNat<g.pts.length)→(zf u g).length≤256→Ext w w'→K (.tuple #[.int .i64 ((Vl (zf u g).length (kF u g (zf u g) g.pts[q.toNat]).again).getD 0),.bool (Vl (zf u g).length (kF u g (zf u g) g.pts[q.toNat]).again).isSome,.int .i64 0]) w'):
  zc Tryz.prog Tryz.Zm #[v,.int .i64 fn,.int .i64 q] w K:=by
 refine Tryz.aaY ?_
 unfold Tryz.Qa
 have hu0:=hu
 obtain⟨p0,cap0,vf,rfl,_,_,hst,hsl,hfn⟩:=hu
 obtain⟨qf,capf,rfl,_,_⟩:=hfn.sl.shape
 have S:=St.start hr
 refine S.box λb3 w1 S=>?_
 have S:StX noX w r w1 [.cell b3 [.slice p0 u.ss.length cap0,.slice qf u.fs.length capf,.int .i64 u.mn] 25]:=S
 refine S.ldB (b:=b3) ?_ rfl
 refine Z2 S.holds hu0 (λe w2 he hof e2=>?_) λg s bx w2 hof hq0 F hq hb e2 n2 hL=>?_
 ·refine gg_ ?_
  refine c_t (by simp[he]) ?_
  exact h0 e w2 he hof (S.go e2).ext
 obtain⟨S,_,a2⟩:=S.tell e2 n2
 refine gg_ ?_
 refine c_f (by decide) ?_
 refine S.mkMapJ λbs w3 S=>?_
 refine S.al λb10 w4 S=>?_
 refine S.st (b:=b10) (λw5 S=>?_) (by simp)
 have S:StX noX w (r.or s) w5 (.cell b10 [.map (some bs)] 82::.obj bs (zE [])::[.cell b3 [.slice p0 u.ss.length cap0,.slice qf u.fs.length capf,.int .i64 u.mn] 25]):=S
 obtain⟨S,a10⟩:=StX.frzNew S b10
 have h10:Ob ((r.or s).or (Go.Sh.one b10 [.map (some bs)] 82)) λw=>w.cell? ⟨b10,0,none⟩=some (.map (some bs)):=yy (b:=b10) (i:=0) (c:=[.map (some bs)]) (T:=82) rfl
 refine gp_ ?_
 refine aeQ (ft:=.func Tryz.jE) S hL F hq0 hq rfl hb (λbm=>aeR h10) ⟨[],rfl,SetF.none⟩ λt L' w6 hR S=>?_
 obtain⟨M,rfl,hM⟩:=hR
 refine zg (S.at h10) ?_
 have h1:=λw'=>h1 g w' hof F hq0 hq hb
 rw[Vl]at h1
 refine jR (b:=bs) S hM (by omega) λv1 s1 w7 S h1' a1=>?_
 generalize risI (zf u g).length (kF u g (zf u g) g.pts[q.toNat]).again=l at *
 obtain⟨ql,cl,rfl,_,_⟩:=h1'.shape
 refine gp_ ?_
 refine gp_ ?_
 refine zi (λhp=>?_) (λhp=>?_)
 ·obtain⟨bo,oo,rfl,_,hc⟩:=yg h1' (show 0<l.length by omega)
  refine gp_ ?_
  refine zg (S.at hc) ?_
  cases l with
  |nil=>simp at hp
  |cons x l=>exact h1 _ S.ext
 ·cases l with
  |nil=>exact h1 _ S.ext
  |cons x l=>simp at hp
end
theorem YN{p q:PlD}{c d:List Value}{w:World}{r:Gh}{K:Value→World→Prop}(hr:Holds r w)(hp:PlG r c p)(hq:PlG r d q)
  (h:∀w',Ext w w'→K (.int .i64 (z2 p q)) w'):zc Tryz.prog Tryz.yi #[.agg c.toArray,.agg d.toArray] w K:=
 YK hr hp hq λos=>h _ ⟨rfl,rfl,rfl,by simp[Sort.grow],λk hk=>by
  show(w.heap++os)[k]? = w.heap[k]?
  exact Array.getElem?_append_left hk⟩
noncomputable def qA(ps:List PlD)(p:PlD):Option Nat:=(List.range ps.length).find? λi=>eqb (pthAt ps i) p
theorem Xd{ps:List PlD}{p:PlD}{i:Nat}(h:qA ps p=some i):∃hi:i<ps.length,ps[i]=p:=by
 have h1:=List.mem_of_find?_eq_some h
 have h2:=List.find?_some h
 have hi:=List.mem_range.1 h1
 refine⟨hi,?_⟩
 rw[← YM hi];exact Zd.1 h2
theorem aaE{ps:List PlD}{p:PlD}{i:Nat}(ha:jQ ps)(hi:i<ps.length)(he:ps[i]=p):qA ps p=some i:=by
 cases h:qA ps p with
 |none=>
  have:=List.find?_eq_none.1 h i (List.mem_range.2 hi)
  rw[YM hi,he,Zd.2 rfl]at this
  exact absurd rfl this
 |some j=>
  obtain⟨hj,hje⟩:=Xd h
  have hp:=List.pairwise_iff_getElem.1 ha
  rcases Nat.lt_trichotomy i j with hl|rfl|hl
  ·have:=hp i j hi hj hl
   rw[he,hje,vj]at this;omega
  ·rfl
  ·have:=hp j i hj hi hl
   rw[he,hje,vj]at this;omega
theorem adL{ps:List PlD}{p:PlD}(h:∀i (hi:i<ps.length),ps[i]≠p):qA ps p=none:=by
 cases h':qA ps p with
 |none=>rfl
 |some j=>obtain ⟨hj,hje⟩:=Xd h';exact absurd hje (h j hj)
section
variable {ps:List PlD} {p:PlD} {c:List Value} {v:Value} {w:World} {r:Gh} {K:Value→World→Prop}
theorem afD(hr:Holds r w)(hps:SlG 2 r (PlG r) v ps)(ha:jQ ps)(hf:ps.length≤1000000)(hp:PlG r c p)
  (h:∀w' x,Ext w w'→(∀i,qA ps p=some i→x=i)→K (.tuple #[.int .i64 x,.bool (qA ps p).isSome]) w'):zc Tryz.prog Tryz.zD #[v,.agg c.toArray,.func (.func Tryz.yi) #[] #[]] w K:=by
 refine Tryz.yP ?_
 unfold Tryz.zX
 have hp0:=hp
 obtain⟨vv,rfl,hl⟩:=hp
 obtain⟨qs,caps,rfl,_,_⟩:=hl.sl.shape
 obtain⟨qp,capp,rfl,_,_⟩:=hps.shape
 have S:=St.start hr
 refine S.box λb1 w1 S=>?_
 have S:StX noX w r w1 [.cell b1 [.int .i64 p.l,.slice qs p.ps.length caps] 59]:=S
 refine gp_ ?_
 have hpw:=List.pairwise_iff_getElem.1 ha
 refine zj (ι:=Nat×Nat) (λi=>[.int .i64 (i.1:Nat),.int .i64 (i.2:Nat)]) (λi w'=>i.1≤i.2∧i.2≤ps.length∧(∀k (hk:k<ps.length),k<i.1→z2 ps[k] p<0)∧(∀k (hk:k<ps.length),i.2≤k→¬z2 ps[k] p<0)∧StX noX w r w' [.cell b1 [.int .i64 p.l,.slice qs p.ps.length caps] 59]) (λi=>i.2-i.1) (0,ps.length) rfl ⟨gzl _,Nat.le_refl _,λk _ h=>by omega,λk h1 h2=>by omega,S⟩ ?_
 clear S
 rintro⟨i,j⟩ d w5 ⟨hij,hj,hlo,hhi,S⟩ K2 hK2
 simp only at hij hj hlo hhi S⊢
 simp only[gdz,gds]
 refine gp_ ?_
 have S:=S.go (Ext.drew _)
 refine zi (λhlt=>?_) (λhge=>?_)
 ·have hlt:i<j:=by omega
  obtain⟨m,hm⟩:∃m:Nat,m=(i+j)/2:=⟨_,rfl⟩
  have hmj:m<ps.length:=by omega
  refine ada (by omega) ?_
  refine afJ (k1:=.i64) (k2:=.u64) (by kernel_rfl) (by kernel_rfl) ?_
  rw[IntKind.wrap_u64,Int.emod_eq_of_lt (by omega) (by omega)]
  refine agD 1 rfl (by decide) ?_
  refine afT (k1:=.u64) (by kernel_rfl) (by kernel_rfl) (by omega) ?_
  rw[show ((i:Int)+(j:Int))/2 ^ 1=((m:Nat):Int)by omega]
  obtain⟨bo,oo,co,hE,hco,hoc,hoo⟩:=hps.get (by decide) hmj
  cases hE
  refine gp_ ?_
  refine zu (n:=2) hco (λj v hj=>by simpa using S.at (hoo j v hj)) ?_
  refine S.ldB (b:=b1) ?_ rfl
  refine aa4 (by kernel_rfl) ?_
  refine YN S.holds hoc hp0 λw6 e6=>?_
  have S:=S.go e6
  refine gp_ ?_
  refine zi (λhneg=>?_) (λhpos=>?_)
  ·refine gp_ ?_
   rw[show ((m:Int)+1)=((m+1:Nat):Int)by omega]
   refine hK2 (m+1,j) _ ⟨by show m+1≤j;omega,hj,λk hk hkm=>?_,hhi,S⟩ (by show j-(m+1)<j-i;omega)
   rcases Nat.lt_or_ge k m with hl|hg
   ·exact kY (hpw k m hk hmj hl) hneg
   ·obtain rfl:k=m:=by change k<m+1 at hkm;omega
    exact hneg
  ·refine hK2 (i,m) _ ⟨by show i≤m;omega,by show m≤ps.length;omega,hlo,λk hk hkm=>?_,S⟩ (by show m-i<j-i;omega)
   rcases Nat.lt_or_ge m k with hl|hg
   ·intro hn
    exact hpos (kY (hpw m k hmj hk hl) hn)
   ·obtain rfl:k=m:=by change m≤k at hkm;omega
    exact hpos
 ·obtain rfl:i=j:=by omega
  refine gp_ ?_
  have fin:∀w' (b:Bool),Ext w w'→(b=true↔∃hi:i<ps.length,ps[i]=p)→K (.tuple #[.int .i64 (i:Nat),.bool b]) w':=λw' b e hb=>by
   have hk:∀k (hk:k<ps.length),ps[k]=p→k=i:=λk hk hke=>by
    rcases Nat.lt_trichotomy k i with hl|rfl|hl
    ·have:=hlo k hk hl;rw[hke,vj]at this;omega
    ·rfl
    ·have h2:=hhi i (by omega) (Nat.le_refl _)
     have h3:=hpw i k (by omega) hk hl
     rw[hke]at h3
     exact absurd h3 h2
   have hw:b=(qA ps p).isSome:=by
    cases b with
    |true=>obtain ⟨hi,he⟩:=hb.1 rfl;rw[aaE ha hi he];rfl
    |false=>
     rw[adL λk hk' he=>?_];rfl
     obtain rfl:=hk k hk' he
     have:=hb.2 ⟨hk',he⟩
     cases this
   rw[hw]
   refine h w' _ e λk hk'=>?_
   obtain⟨h1,h2⟩:=Xd hk'
   rw[hk k h1 h2]
  by_cases hi:i<ps.length
  ·rw[gde (show((i:Nat):Int)<((ps.length:Nat):Int)by omega)]
   intro K9 hK9
   refine gd_ ?_
   obtain⟨bo,oo,co,hE,hco,hoc,hoo⟩:=hps.get (by decide) hi
   cases hE
   refine gp_ ?_
   refine zu (n:=2) hco (λj v hj=>by simpa using S.at (hoo j v hj)) ?_
   refine S.ldB (b:=b1) ?_ rfl
   refine aa4 (by kernel_rfl) ?_
   refine YN S.holds hoc hp0 λw6 e6=>?_
   have S:=S.go e6
   refine gp_ ?_
   refine hK9 _ _ λ_=>?_
   refine gd_ ?_
   exact fin _ _ S.ext (by rw[gdt,xZ];exact⟨λh=>⟨hi,h⟩,λh=>h.2⟩)
  ·rw[decide_eq_false (show¬((i:Nat):Int)<((ps.length:Nat):Int)by omega)]
   (intro K9 hK9;refine gd_ ?_;refine hK9 _ _ λ_=>?_;clear hK9 K9)
   refine gd_ ?_
   exact fin _ _ S.ext ⟨λh=>(by cases h),λ⟨h,_⟩=>absurd h hi⟩
end
noncomputable def Vn(u:UnD)(g:GrD)(p:PlD):Option Nat:=if (zN u.ss g.tys p).isSome=true then qA (zf u g) (heldW u.ss g.tys p)else none
theorem ac1{u:UnD}{g:GrD}:jQ (zf u g):=acS
section
variable {u:UnD} {fn q:Int} {v:Value} {w:World} {r:Gh} {K:Value→World→Prop}
theorem ab5(hr:Holds r w)(hu:UnG r v u)
  (h0:∀e w',e≠0→ofE u fn (-1)=e→Ext w w'→K (.tuple #[.slice none 0 0,.int .i64 e]) w')
  (h1:∀g v1 s w',ofE u fn (-1)=0→FnM u fn g→(zf u g).length≤256→Ext w w'→New w s w'→SlG 2 (r.or s) (PlG (r.or s)) v1 (zf u g)→K (.tuple #[v1,.int .i64 0]) w'):
  zc Tryz.prog Tryz.Zk #[v,.int .i64 fn] w K:=by
 refine Tryz.aaV ?_
 unfold Tryz.X6
 have hu0:=hu
 obtain⟨p0,cap0,vf,rfl,_,_,hst,hsl,hfn⟩:=hu
 obtain⟨qf,capf,rfl,_,_⟩:=hfn.sl.shape
 have S:=St.start hr
 refine S.box λb3 w1 S=>?_
 have S:StX noX w r w1 [.cell b3 [.slice p0 u.ss.length cap0,.slice qf u.fs.length capf,.int .i64 u.mn] 25]:=S
 refine S.ldB (b:=b3) ?_ rfl
 refine vk S.holds hu0 (λe w2 he hof e2=>?_) λg s bx w2 hof F hi hb e2 n2 hL=>?_
 ·refine gg_ ?_
  refine c_t (by simp[he]) ?_
  exact h0 e w2 he hof (S.go e2).ext
 obtain⟨S,_,a2⟩:=S.tell e2 n2
 obtain⟨pp,cap,hpc,hps⟩:=hL.pth
 refine gg_ ?_
 refine c_f (by decide) ?_
 refine gg_ ?_
 refine zg (S.at hpc) ?_
 exact h1 g _ s w2 hof F hb S.ext (S.newOf a2) hps
theorem acx{p:PlD}{c:List Value}(hr:Holds r w)(hu:UnG r v u)(hp:PlG r c p)(hpf:p.ps.length≤1000000)
  (h0:∀e w',e≠0→ofE u fn (-1)=e→Ext w w'→K (.tuple #[.int .i64 0,.int .i64 e]) w')
  (h1:∀g w',ofE u fn (-1)=0→FnM u fn g→(zf u g).length≤256→Ext w w'→K (.tuple #[.int .i64 (((Vn u g p).getD 0:Nat):Int),.int .i64 (if(Vn u g p).isSome=true then 0 else 2)]) w'):
  zc Tryz.prog Tryz.Z6 #[v,.int .i64 fn,.agg c.toArray] w K:=by
 refine Tryz.abM ?_
 unfold Tryz.QX
 have hu0:=hu
 obtain⟨p0,cap0,vf,rfl,_,_,hst,hsl,hfn⟩:=hu
 obtain⟨qf,capf,rfl,_,_⟩:=hfn.sl.shape
 have hp0:=hp
 obtain⟨vv,rfl,hl⟩:=hp
 obtain⟨qs,caps,rfl,_,_⟩:=hl.sl.shape
 have S:=St.start hr
 refine S.box λb3 w1 S=>?_
 refine S.box λb4 w2 S=>?_
 have S:StX noX w r w2 [.cell b4 [.int .i64 p.l,.slice qs p.ps.length caps] 59,.cell b3 [.slice p0 u.ss.length cap0,.slice qf u.fs.length capf,.int .i64 u.mn] 25]:=S
 refine S.ldB (b:=b3) ?_ rfl
 refine vk S.holds hu0 (λe w3 he hof e2=>?_) λg s bx w3 hof F hi hb e2 n2 hL=>?_
 ·refine gg_ ?_
  refine c_t (by simp[he]) ?_
  exact h0 e w3 he hof (S.go e2).ext
 obtain⟨S,_,a2⟩:=S.tell e2 n2
 have h1:=λw'=>h1 g w' hof F hb
 rw[Vn]at h1
 have htl:g.tys.length≤maxLen:=by have:=F.head.ty512;simp only[maxLen];omega
 obtain⟨pp,cap,hpc,hps⟩:=hL.pth
 obtain⟨qt,capt,hc7,hty⟩:=hL.tys
 obtain⟨pa,capa,hc0,hst0⟩:=hL.ss
 refine gg_ ?_
 refine c_f (by decide) ?_
 have S:=S.go (Ext.drew _)
 refine gg_ ?_
 refine zg (S.at hc7) ?_
 refine gg_ ?_
 refine aco S.holds (RepS.up hst) (Qr hty.sl) htl (PlG.up hp0) λw4 e4=>?_
 have S:=S.go e4
 refine gp_ ?_
 refine c_b (λhno=>?_) (λhyes=>?_)
 ·have :¬(zN u.ss g.tys p).isSome=true:=by simpa using hno
  rw[if_neg this]at h1
  exact h1 _ S.ext
 have hsome:(zN u.ss g.tys p).isSome=true:=by simpa using hyes
 rw[if_pos hsome]at h1
 refine S.ldB (b:=b4) ?_ rfl
 refine j2 S.holds (λw' e=>⟨(S.go e).at hc0,(S.go e).at hc7⟩) (RepS.up hst0) (hty.up' inferInstance λ_ _ h=>TyG.up h) F.may.ok F.fine (PlG.up hp0) (.inr hsome) λv3 s3 w5 e3 n3 h3=>?_
 obtain⟨S,_,_⟩:=S.tell e3 n3
 have hhl:=V3 (ss:=u.ss) (tys:=g.tys) (p:=p)
 obtain⟨q3,c3,rfl,_,_⟩:=h3.sl.shape
 refine gS_ ?_
 refine S.al λb5 w6 S=>?_
 refine S.stB (b:=b5) λw7 S=>?_
 have S:StX noX w ((r.or s).or s3) w7 [.cell b5 [.int .i64 p.l,.slice q3 (heldW u.ss g.tys p).ps.length c3] 59,.cell b4 [.int .i64 p.l,.slice qs p.ps.length caps] 59,.cell b3 [.slice p0 u.ss.length cap0,.slice qf u.fs.length capf,.int .i64 u.mn] 25]:=S
 have S:=S.go (Ext.drew _)
 have hph:PlG ((r.or s).or s3) [.int .i64 p.l,.slice q3 (heldW u.ss g.tys p).ps.length c3] (heldW u.ss g.tys p):=⟨_,by rw[hhl],h3⟩
 refine gg_ ?_
 refine zg (S.at hpc) ?_
 refine S.ldB (b:=b5) ?_ rfl
 refine afD S.holds (hps.up' inferInstance λ_ _ h=>PlG.up h) ac1 (by omega) hph λw8 x e8 hx=>?_
 have S:=S.go e8
 refine gg_ ?_
 cases hw:qA (zf u g) (heldW u.ss g.tys p)with
 |none=>
  rw[hw]at h1
  refine c_t rfl ?_
  exact h1 _ S.ext
 |some i=>
  rw[hw]at h1 hx
  refine c_f rfl ?_
  obtain rfl:=hx i rfl
  exact h1 _ S.ext
end
section
variable {X:Nat→Prop} {w0 w:World} {r:Gh} {L:List Asr} {n Ba B bi bs b c:Nat} {G Ms:z1} {a f:Nat→Bool} {bv:Bool} {es:Array MapEntry} {fid:FuncId} {ty:TypeId} {Z:World→Prop}
theorem ab6(S:StX X w0 r w (.obj bi (· = .mapIter (some b) c #[] c)::.obj bs (zE Ms)::.obj b (· = .map es c)::L))(hE:EntsI es.toList (cnV G))(hB:Born es.toList c)(hG:SetF n Ba G a)(hM:SetF n B Ms f)(hn:n≤256)(hBB:B≤1000000000)
  (hcall:∀{f:Nat→Bool}{B i:Nat}{Ms:z1}{x:Asr}{w:World}{K:Value→World→Prop},i<n→SetF n B Ms f→B≤1000001000→StX X w0 r w (x::.obj bs (zE Ms)::.obj b (· = .map es c)::L)→(∀Ms' w',SetF n (B+1) Ms' (xS f i bv)→StX X w0 r w' (x::.obj bs (zE Ms')::.obj b (· = .map es c)::L)→K (.tuple #[]) w')→zc Tryz.prog fid #[.map (some bs),.int .i64 (i:Nat)] w K)
  (h:∀Ms' w',SetF n (B+n) Ms' (λi=>if a i=true then bv else f i)→StX X w0 r w' (.obj bs (zE Ms')::.obj b (· = .map es c)::L)→Z w'):
  zt [] w λ_ _ w30 K27=>Tryz.pw w30 (Instr.next (.pointer (some ⟨bi,0,none⟩)) false ty) λt73 w31=>Tryz.pe t73 0 λt74=>zb t74 (Tryz.pw w31 (Instr.entry (.pointer (some ⟨bi,0,none⟩))) λt75 w32=>Tryz.pe t75 0 λt76=>Tryz.ca fid #[.map (some bs),t76] w32 λ_ w33=>K27 [] w33) (Z w31):=by
 obtain⟨hk1,hk2⟩:=abU hE
 have hlen:es.toList.length=G.length:=by
  have:=congrArg List.length hk1
  simpa using this
 have hGl:G.length≤n:=hG.len
 refine zj (ι:=List MapEntry×Array Nat×Nat×z1) (λi=>[]) (λi w'=>(∀m∈i.1,m∈es.toList)∧(i.1.map yC).Nodup∧c≤i.2.2.1∧(∀n,i.2.1.contains n=true↔n∈i.1.map (·.born))∧SetF n (B+i.1.length) i.2.2.2 (λj=>if (j:Int)∈i.1.map yC then bv else f j)∧StX X w0 r w' (.obj bi (· = .mapIter (some b) c i.2.1 i.2.2.1)::.obj bs (zE i.2.2.2)::.obj b (· = .map es c)::L)) (λi=>G.length-i.1.length) ([],#[],c,Ms) rfl ⟨λm hm=>(by cases hm),List.nodup_nil,Nat.le_refl _,λn=>(by simp),hM.congr λj _=>by simp,S⟩ ?_
 clear S hM
 rintro⟨H,seen,c0,M⟩ d w5 ⟨hm,hnd,hc,hs,hM,S⟩ K2 hK2
 simp only at hm hnd hc hs hM S⊢
 have hmk:∀x∈H.map yC,x∈G.map (·.1):=λx hx=>by
  obtain⟨m,hmH,rfl⟩:=List.mem_map.1 hx
  rw[← hk1];exact List.mem_map_of_mem (hm m hmH)
 have hHl:H.length≤G.length:=by
  have:=Qc hnd hmk
  simpa using this
 refine S.nextJ (b:=b) hB hc (λhall=>?_) λm hme hns w6 S=>?_
 ·refine YS (v:=.bool false) rfl ?_
  refine c_f rfl ?_
  refine h M _ ((hM.mono (by omega)).congr λj hj=>?_) S.tl
  have hiff:(j:Int)∈H.map yC↔(j:Int)∈G.map (·.1):=⟨hmk _,λhx=>by
   rw[← hk1]at hx
   obtain⟨m,hme,he0⟩:=List.mem_map.1 hx
   have hb:=(hs m.born).1 (hall m hme)
   obtain⟨m',hm',he⟩:=List.mem_map.1 hb
   have hinj:(es.toList.map (·.born)).Nodup:=List.pairwise_map.2 (hB.1.imp λh=>Nat.ne_of_lt h)
   have:=YJ hinj (hm m' hm') hme he
   rw[← he0,← this];exact List.mem_map_of_mem hm'⟩
  have h2:(j:Int)∈G.map (·.1)↔a j=true:=by
   rw[hG.mem]
   exact⟨λ⟨i,e,_,h⟩=>by obtain rfl:j=i:=by omega
                        exact h,λh=>⟨j,rfl,hj,h⟩⟩
  by_cases ha:a j=true
  ·rw[if_pos ha,if_pos (hiff.2 (h2.2 ha))]
  ·rw[if_neg ha,if_neg λh=>ha (h2.1 (hiff.1 h))]
 ·refine gp_ ?_
  refine c_t rfl ?_
  refine S.entryJ (b:=b) hB hme ?_
  rw[hk2 m hme]
  refine gp_ ?_
  have hkm:yC m∈G.map (·.1):=by rw[← hk1];exact List.mem_map_of_mem hme
  obtain⟨i,hi,hin,hai⟩:=(hG.mem _).1 hkm
  have hkn:yC m∉H.map yC:=λhx=>by
   obtain⟨m',hm',he⟩:=List.mem_map.1 hx
   have hj:(es.toList.map yC).Nodup:=by rw[hk1];exact hG.nodup
   have:=YJ hj (hm m' hm') hme he
   subst this
   have:=(hs m'.born).2 (List.mem_map_of_mem hm')
   rw[hns]at this;cases this
  have hnd2:((H++[m]).map yC).Nodup:=by
   rw[List.map_append,List.nodup_append]
   exact⟨hnd,by simp,λa ha b hb=>by rw[List.map_singleton,List.mem_singleton]at hb;rintro rfl;exact hkn (hb▸ha)⟩
  have hmem2:∀z∈H++[m],z∈es.toList:=λz hz=>by
   rcases List.mem_append.1 hz with hz|hz
   ·exact hm z hz
   ·rw[List.mem_singleton]at hz;rw[hz];exact hme
  have hl2:(H++[m]).length≤G.length:=by
   have:=Qc hnd2 (b:=G.map (·.1)) λx hx=>by
    obtain⟨z,hz,rfl⟩:=List.mem_map.1 hx
    rw[← hk1];exact List.mem_map_of_mem (hmem2 z hz)
   simpa using this
  rw[gla,gls]at hl2
  rw[hi]
  refine hcall hin hM (by omega) S λM' w7 hM' S=>?_
  refine hK2 (H++[m],seen.push m.born,c,M') _ ⟨hmem2,hnd2,Nat.le_refl _,λn=>?_,?_,S⟩ (by show G.length-(H++[m]).length<G.length-H.length;rw[gla,gls];omega)
  ·show(seen.push m.born).contains n=true↔n∈(H++[m]).map (·.born)
   rw[List.map_append,List.mem_append,← hs n]
   simp only[Array.contains_push,Bool.or_eq_true,beq_iff_eq,List.map_singleton,List.mem_singleton]
  ·show SetF n (B+(H++[m]).length) M' _
   rw[gla,gls]
   refine hM'.congr λj hj=>?_
   have hq:(j:Int)∈(H++[m]).map yC↔j=i∨(j:Int)∈H.map yC:=by
    rw[List.map_append,List.mem_append,List.map_singleton,List.mem_singleton,hi]
    exact⟨λh=>h.elim .inr λh=>.inl (by omega),λh=>h.elim (λh=>.inr (by rw[h])) .inl⟩
   show(if j=i then bv else if(j:Int)∈H.map yC then bv else f j)=if (j:Int)∈(H++[m]).map yC then bv else f j
   by_cases e:j=i
   ·rw[if_pos e,if_pos (hq.2 (.inl e))]
   ·rw[if_neg e]
    by_cases e2:(j:Int)∈H.map yC
    ·rw[if_pos e2,if_pos (hq.2 (.inr e2))]
    ·rw[if_neg e2,if_neg λhh=>(hq.1 hh).elim e e2]
end
structure OkBh(n:Nat)(l:List Int):Prop where
 low:∀k∈l,0≤k∧k<n
 asc:l.Pairwise (· < ·)
theorem OkBh.snoc{n i:Nat}{l:List Int}(h:OkBh n (l.take i))(hi:i<l.length)(hl:0≤l[i]∧l[i]<n)(ha:∀h0:0<i,l[i-1]<l[i]):OkBh n (l.take (i+1)):=by
 rw[List.take_succ_eq_append_getElem hi]
 refine⟨λk hk=>?_,List.pairwise_append.2 ⟨h.asc,List.pairwise_singleton _ _,λx hx y hy=>?_⟩⟩
 ·rcases List.mem_append.1 hk with hk|hk
  ·exact h.low k hk
  ·rw[List.mem_singleton.1 hk];exact hl
 ·rw[List.mem_singleton.1 hy]
  obtain⟨j,hj,rfl⟩:=List.mem_take_iff_getElem.1 hx
  have hji:j<i:=by omega
  have h0:=ha (by omega)
  rcases Nat.lt_or_ge j (i-1)with hl|hl
  ·have:=List.pairwise_iff_getElem.1 h.asc j (i-1) (by rw[List.length_take];omega) (by rw[List.length_take];omega) hl
   rw[List.getElem_take,List.getElem_take]at this
   omega
  ·have e:j=i-1:=by omega
   subst e;exact h0
theorem OkBh.last{n i:Nat}{l:List Int}(h:OkBh n l)(hi:i<l.length):(0≤l[i]∧l[i]<n)∧∀h0:0<i,l[i-1]<l[i]:=
 ⟨h.low _ (gem hi),λh0=>List.pairwise_iff_getElem.1 h.asc (i-1) i (by omega) hi (by omega)⟩
section
variable {u:UnD} {fn q:Int} {v vl:Value} {l:List Int} {w:World} {r:Gh} {K:Value→World→Prop}
theorem Xr(hr:Holds r w)(hu:UnG r v u)(hl:SlG 1 r ye vl l)(hlf:l.length≤1000000)
  (h0:∀e w',e≠0→mvE u fn q=e→Ext w w'→K (.tuple #[.slice none 0 0,.int .i64 e]) w')
  (h2:∀g w',mvE u fn q=0→FnM u fn g→¬OkBh (zf u g).length l→Ext w w'→K (.tuple #[.slice none 0 0,.int .i64 2]) w')
  (h1:∀g v1 s w',mvE u fn q=0→FnM u fn g→0≤q→(hq:q.toNat<g.pts.length)→(zf u g).length≤256→OkBh (zf u g).length l→Ext w w'→New w s w'→SlG 1 s ye v1 (risI (zf u g).length (V7 u g (zf u g) g.pts[q.toNat] (vD l)))→K (.tuple #[v1,.int .i64 0]) w'):
  zc Tryz.prog Tryz.y7 #[v,.int .i64 fn,.int .i64 q,vl] w K:=by
 refine Tryz.V1 ?_
 unfold Tryz.Xp
 have hu0:=hu
 obtain⟨p0,cap0,vf,rfl,_,_,hst,hsl,hfn⟩:=hu
 obtain⟨qf,capf,rfl,_,_⟩:=hfn.sl.shape
 obtain⟨ql,cl,rfl,_,_⟩:=hl.shape
 have S:=St.start hr
 refine S.box λb3 w1 S=>?_
 have S:StX noX w r w1 [.cell b3 [.slice p0 u.ss.length cap0,.slice qf u.fs.length capf,.int .i64 u.mn] 25]:=S
 refine S.ldB (b:=b3) ?_ rfl
 refine Z2 S.holds hu0 (λe w2 he hof e2=>?_) λg s bx w2 hof hq0 F hq hb e2 n2 hL=>?_
 ·refine gg_ ?_
  refine c_t (by simp[he]) ?_
  exact h0 e w2 he hof (S.go e2).ext
 obtain⟨S,_,a2⟩:=S.tell e2 n2
 obtain⟨pp,cap,hpc,hps⟩:=hL.pth
 refine gg_ ?_
 refine c_f (by decide) ?_
 refine S.mkMapJ λbs w3 S=>?_
 have S:StX noX w (r.or s) w3 [.obj bs (zE []),.cell b3 [.slice p0 u.ss.length cap0,.slice qf u.fs.length capf,.int .i64 u.mn] 25]:=S
 refine gp_ ?_
 generalize hps':zf u g=ps at *
 refine zj (ι:=Nat) (λi=>[.int .i64 (i:Nat)]) (λi w'=>i≤l.length∧OkBh ps.length (l.take i)∧∃M,SetF ps.length i M (vD (l.take i))∧StX noX w (r.or s) w' [.obj bs (zE M),.cell b3 [.slice p0 u.ss.length cap0,.slice qf u.fs.length capf,.int .i64 u.mn] 25]) (λi=>l.length-i) 0 rfl ⟨gzl _,⟨λk hk=>(by simp at hk),by simp⟩,[],SetF.none.congr λi _=>by simp[vD,zy],S⟩ ?_
 clear S
 rintro i d w5 ⟨hi,hok,M,hM,S⟩ K4 hK4
 rw[gdz]
 refine gp_ ?_
 refine zi (λhlt=>?_) (λhge=>?_)
 ·have hlt:i<l.length:=by omega
  obtain⟨bo,oo,rfl,_,hc⟩:=yg hl hlt
  refine gp_ ?_
  refine zg (v:=.int .i64 l[i]) (S.at hc) ?_
  refine gp_ ?_
  refine zq (c:=decide (l[i]≥(ps.length:Int))) (λ_ K2 hK2=>by
   refine gg_ ?_
   refine zg (S.at hpc) ?_
   refine gg_ ?_
   exact hK2) ?_
  have bad:∀w',StX noX w (r.or s) w' [.obj bs (zE M),.cell b3 [.slice p0 u.ss.length cap0,.slice qf u.fs.length capf,.int .i64 u.mn] 25]→¬((0≤l[i]∧l[i]<ps.length)∧∀h0:0<i,l[i-1]<l[i])→K (.tuple #[.slice none 0 0,.int .i64 2]) w':=λw' S hn=>h2 g w' hof F (λhh=>hn (by rw[hps']at hh;exact hh.last hlt)) S.ext
  have good:∀w',StX noX w (r.or s) w' [.obj bs (zE M),.cell b3 [.slice p0 u.ss.length cap0,.slice qf u.fs.length capf,.int .i64 u.mn] 25]→(0≤l[i]∧l[i]<ps.length)→(∀h0:0<i,l[i-1]<l[i])→Tryz.ca Tryz.yu #[.map (some bs),.int .i64 l[i]] w' λ_ w24=>Tryz.bt .add 3 (.int .i64 (i:Nat)) (Tryz.i6 1) λt64=>K4 [t64] w24:=λw' S hr hasc=>by
   have hc:=hM.cnt l[i]
   refine vi (b:=bs) S (by omega) λw6 S=>?_
   refine gp_ ?_
   rw[show ((i:Int)+1)=((i+1:Nat):Int)by omega]
   refine hK4 (i+1) _ ⟨hlt,hok.snoc hlt hr hasc,_,?_,S⟩ (by omega)
   obtain⟨k,hk⟩:∃k:Nat,l[i]=(k:Int):=⟨l[i].toNat,by omega⟩
   rw[hk]at S hr⊢
   refine(hM.put (i:=k) (by omega)).congr λj hj=>?_
   rw[xS,vD,vD,List.take_succ_eq_append_getElem hlt,hk]
   by_cases e:j=k
   ·rw[if_pos e,e];simp
   ·have e2:¬(j:Int)=(k:Int):=by omega
    rw[if_neg e];simp[e2]
  clear hK4 h2 h1 h0
  have S:=S
  cases hbd:(decide (l[i]<0)||decide (l[i]≥(ps.length:Int)))with
  |true=>
   (intro K9 hK9;refine gd_ ?_;refine hK9 _ _ λ_=>?_;clear hK9 K9)
   refine gd_ ?_
   (intro K9 hK9;refine gd_ ?_;refine hK9 _ _ λ_=>?_;clear hK9 K9)
   refine gd_ ?_
   (intro K9 hK9;refine gd_ ?_;refine hK9 _ _ λ_=>?_;clear hK9 K9)
   refine gd_ ?_
   refine c_t rfl ?_
   refine bad _ S λhh=>?_
   simp only[Bool.or_eq_true,gdt]at hbd
   omega
  |false=>
   simp only[Bool.or_eq_false_iff,decide_eq_false_iff_not]at hbd
   by_cases hi0:0<i
   ·obtain⟨bo',oo',hE,_,hc'⟩:=yg hl (show i-1<l.length by omega)
    cases hE
    intro K9 hK9
    refine gd_ ?_
    rw[gde (show(0:Int)<((i:Nat):Int)by omega)]
    refine hK9 _ _ λ_=>?_
    clear hK9 K9
    intro K9 hK9
    refine gd_ ?_
    refine zg (v:=.int .i64 l[i-1]) (by rw[show (((i:Nat):Int)-1).toNat=i-1 by omega];exact S.at hc') ?_
    refine gp_ ?_
    refine hK9 _ _ λ_=>?_
    clear hK9 K9
    (intro K9 hK9;refine gd_ ?_;refine hK9 _ _ λ_=>?_;clear hK9 K9)
    refine gd_ ?_
    refine zi (λhh=>?_) (λhh=>?_)
    ·exact bad _ S λh3=>by have:=h3.2 hi0;omega
    ·exact good _ S ⟨by omega,by omega⟩ λ_=>by omega
   ·intro K9 hK9
    refine gd_ ?_
    rw[decide_eq_false (show¬(0:Int)<((i:Nat):Int)by omega)]
    refine hK9 _ _ λ_=>?_
    clear hK9 K9
    (intro K9 hK9;refine gd_ ?_;refine hK9 _ _ λ_=>?_;clear hK9 K9)
    refine gd_ ?_
    (intro K9 hK9;refine gd_ ?_;refine hK9 _ _ λ_=>?_;clear hK9 K9)
    refine gd_ ?_
    refine c_f rfl ?_
    exact good _ S ⟨by omega,by omega⟩ λh=>absurd h hi0
 ·obtain rfl:i=l.length:=by omega
  rw[List.take_length]at hok hM
  clear hK4 K4
  refine aeP S hL F hq0 hq rfl (by omega) λG H bg bh w6 hG hH S=>?_
  refine gp_ ?_
  refine gp_ ?_
  obtain⟨o,hQ,S⟩:=S.objK bg
  obtain⟨es,c,rfl,hE,hB⟩:=hQ
  have S:StX noX w (r.or s) w6 [.obj bg (· = .map es c),.obj bh (zE H),.obj bs (zE M),.cell b3 [.slice p0 u.ss.length cap0,.slice qf u.fs.length capf,.int .i64 u.mn] 25]:=S
  refine S.rangeJ (b:=bg) mpS λbi w7 S=>?_
  have S:StX noX w (r.or s) w7 [.obj bi (· = .mapIter (some bg) c #[] c),.obj bs (zE M),.obj bg (· = .map es c),.obj bh (zE H),.cell b3 [.slice p0 u.ss.length cap0,.slice qf u.fs.length capf,.int .i64 u.mn] 25]:=S.permO (.cons _ (List.perm_middle (a:=Asr.obj bs (zE M)) (l₁:=[.obj bg (· = .map es c),.obj bh (zE H)])).symm)
  refine ab6 (bv:=true) (n:=ps.length) S hE hB hG hM (by omega) (by omega) ?_ λM2 w8 hM2 S=>?_
  ·intro f B i Ms x w' K' hi hMs hB' S hK
   have hc:=hMs.cnt i
   exact vi (b:=bs) S (by omega) λw'' S=>hK _ _ (hMs.put hi) S
  obtain⟨o2,hQ2,S⟩:=S.objK bh
  obtain⟨es2,c2,rfl,hE2,hB2⟩:=hQ2
  have S:StX noX w (r.or s) w8 [.obj bs (zE M2),.obj bg (· = .map es c),.obj bh (· = .map es2 c2),.cell b3 [.slice p0 u.ss.length cap0,.slice qf u.fs.length capf,.int .i64 u.mn] 25]:=S
  refine S.rangeJ (b:=bh) mpS λbi2 w9 S=>?_
  have S:=S.permO (.cons _ (.cons _ (.swap (Asr.obj bg (· = .map es c)) (.obj bh (· = .map es2 c2)) _)))
  refine ab6 (bv:=false) (n:=ps.length) S hE2 hB2 hH hM2 (by omega) (by omega) ?_ λM3 w10 hM3 S=>?_
  ·intro f B i Ms x w' K' hi hMs hB' S hK
   exact Vi (b:=bs) S λw'' S=>hK _ _ (hMs.take.mono (Nat.le_succ _)) S
  refine jR (b:=bs) S hM3 (by omega) λv1 s1 w11 S h1' a1=>?_
  have S:=S.reGh
  subst hps'
  refine h1 g v1 _ _ hof F hq0 hq hb hok S.ext (S.newOf (a2.or' λb o ho=>(a1 b o ho).resolve_right id)) ?_
  rw[show risI (zf u g).length (V7 u g (zf u g) g.pts[q.toNat] (vD l))=_ from qZ λi hi=>?_]
  ·exact h1'.up' inferInstance λ_ _ h=>h
  ·show((vD l i||(zQ u g (zf u g) g.pts[q.toNat]).1 i) && !(zQ u g (zf u g) g.pts[q.toNat]).2 i)=if (zQ u g (zf u g) g.pts[q.toNat]).2 i=true then false else if(zQ u g (zf u g) g.pts[q.toNat]).1 i=true then true else vD l i
   cases(zQ u g (zf u g) g.pts[q.toNat]).2 i<;>cases (zQ u g (zf u g) g.pts[q.toNat]).1 i<;>simp
end
end
end Go.Proofs
namespace Go.Proofs.Tryz
open Go.Sh
section
variable {w:World} {K:VW} {t0 t1:Value}
def vS(t0 t1 t2 t3 t4:Value)(w:World)(K:VW):Prop:=
 pw w (Instr.box 25 t0) λt5 w1=>
 lo w1 25 t5 λt30=>ca Zn #[t30] w1 λt31 w2=>
 pp (Op.unary .not t31) λt32=>za (λK3=>gIf t32 false (pp (Builtin.len_ #[26] 3 #[t3]) λt35=>bt .gtr 3 t35 (i6 600) λt36=>K3 [t36] w2) (K3 [u_] w2)) (λs4 _d5 w6=>
 zd t32 tr_ (s4.getD 0 u_) λt37=>za (λK7=>gIf t37 false (pp (Builtin.len_ #[26] 3 #[t4]) λt40=>bt .gtr 3 t40 (i6 600) λt41=>K7 [t41] w6) (K7 [u_] w6)) (λs8 _d9 w10=>
 zd t37 tr_ (s8.getD 0 u_) λt42=>zb t42 (ca y8 #[] w10 λt43 w11=>
 K t43 w11) (lo w10 25 t5 λt45=>ca jU #[t45,t1,t2] w10 λt48 w12=>
 pe t48 0 λt49=>pe t48 1 λt50=>pe t48 2 λt51=>bt .neq 29 t51 (i6 0) λt53=>zb t53 (pp (Builtin.len_ #[26] 3 #[t49]) λt55=>bt .eql 3 t55 (i6 0) λt56=>za (λK13=>gIf t56 true (pp (Builtin.len_ #[26] 3 #[t50]) λt59=>bt .eql 3 t59 (i6 0) λt60=>K13 [t60] w12) (K13 [u_] w12)) (λs14 _d15 w16=>
 zd t56 (s14.getD 0 u_) fa_ λt61=>za (λK17=>gIf t61 true (ca y8 #[] w16 λt63 w21=>
 K17 [t63] w21) (K17 [u_] w16)) (λs18 _d19 w20=>
 zd t61 (s18.getD 0 u_) fa_ λt64=>K t64 w20))) (zt [(i6 0)] w12 (λs23 _d24 w25 K22=>
 pp (Builtin.len_ #[26] 3 #[t50]) λt67=>bf .lss 3 (s23.getD 0 u_) t67 λt68=>zb t68 (lo w25.drew 25 t5 λt72=>xl w25.drew 26 t50 (s23.getD 0 u_) 3 λt77=>ca kJ #[t72,t1,t77] w25.drew λt78 w26=>
 pe t78 0 λt79=>pe t78 1 λt80=>bt .neq 29 t80 (i6 0) λt82=>za (λK27=>gIf t82 false (xl w26 26 t50 (s23.getD 0 u_) 3 λt88=>ca yj #[t49,t88] w26 λt89 w31=>
 K27 [t89] w31) (K27 [u_] w26)) (λs28 _d29 w30=>
 zd t82 tr_ (s28.getD 0 u_) λt90=>zb t90 (K fa_ w30) (zt [(i6 0)] w30 (λs33 _d34 w35 K32=>
 pp (Builtin.len_ #[26] 3 #[t79]) λt93=>bf .lss 3 (s33.getD 0 u_) t93 λt94=>zb t94 (xl w35 26 t79 (s33.getD 0 u_) 3 λt101=>ca yj #[t50,t101] w35 λt102 w36=>
 pp (Op.unary .not t102) λt103=>zb t103 (K fa_ w36) (bt .add 3 (s33.getD 0 u_) (i6 1) λt96=>K32 [t96] w36)) (bt .add 3 (s23.getD 0 u_) (i6 1) λt70=>K22 [t70] w35))))) (zt [(i6 0)] w25 (λs38 _d39 w40 K37=>
 pp (Builtin.len_ #[26] 3 #[t49]) λt106=>bf .lss 3 (s38.getD 0 u_) t106 λt107=>zb t107 (lo w40.drew 25 t5 λt111=>xl w40.drew 26 t49 (s38.getD 0 u_) 3 λt116=>ca kJ #[t111,t1,t116] w40.drew λt117 w41=>
 pe t117 0 λt118=>pe t117 1 λt119=>bt .neq 29 t119 (i6 0) λt121=>zb t121 (K fa_ w41) (zt [(i6 0)] w41 (λs43 _d44 w45 K42=>
 pp (Builtin.len_ #[26] 3 #[t118]) λt124=>bf .lss 3 (s43.getD 0 u_) t124 λt125=>zb t125 (xl w45 26 t118 (s43.getD 0 u_) 3 λt132=>ca yj #[t49,t132] w45 λt133 w46=>
 pp (Op.unary .not t133) λt134=>za (λK47=>gIf t134 true (xl w46 26 t118 (s43.getD 0 u_) 3 λt140=>ca yj #[t50,t140] w46 λt141 w51=>
 pp (Op.unary .not t141) λt142=>K47 [t142] w51) (K47 [u_] w46)) (λs48 _d49 w50=>
 zd t134 (s48.getD 0 u_) fa_ λt143=>zb t143 (K fa_ w50) (bt .add 3 (s43.getD 0 u_) (i6 1) λt127=>K42 [t127] w50))) (bt .add 3 (s38.getD 0 u_) (i6 1) λt109=>K37 [t109] w45)))) (lo w40 25 t5 λt145=>ca y7 #[t145,t1,t2,t3] w40 λt149 w52=>
 pe t149 0 λt150=>pe t149 1 λt151=>lo w52 25 t5 λt153=>ca y7 #[t153,t1,t2,t4] w52 λt157 w53=>
 pe t157 0 λt158=>pe t157 1 λt159=>bt .neq 29 t151 (i6 0) λt161=>za (λK54=>gIf t161 false (bt .neq 29 t159 (i6 0) λt164=>K54 [t164] w53) (K54 [u_] w53)) (λs55 _d56 w57=>
 zd t161 tr_ (s55.getD 0 u_) λt165=>zb t165 (ca y8 #[] w57 λt166 w58=>
 K t166 w58) (lo w57.drew 25 t5 λt168=>ca jF #[t3,t4] w57.drew λt173 w59=>
 Ext w57.drew w59∧
 ca y7 #[t168,t1,t2,t173] w59 λt174 w60=>
 pe t174 0 λt175=>pe t174 1 λt176=>bt .neq 29 t176 (i6 0) λt178=>zb t178 (K fa_ w60) (zt [(i6 0),(i6 0)] w60 (λs62 _d63 w64 K61=>
 pp (Builtin.len_ #[26] 3 #[t175]) λt181=>bf .lss 3 (s62.getD 1 u_) t181 λt182=>zb t182 (xl w64 26 t175 (s62.getD 1 u_) 3 λt189=>ca yj #[t150,t189] w64 λt190 w65=>
 pp (Op.unary .not t190) λt191=>za (λK66=>gIf t191 true (xl w65 26 t175 (s62.getD 1 u_) 3 λt197=>ca yj #[t158,t197] w65 λt198 w70=>
 pp (Op.unary .not t198) λt199=>K66 [t199] w70) (K66 [u_] w65)) (λs67 _d68 w69=>
 zd t191 (s67.getD 0 u_) fa_ λt200=>zb t200 (K fa_ w69) (bt .add 3 (s62.getD 0 u_) (i6 1) λt202=>bt .add 3 (s62.getD 1 u_) (i6 1) λt184=>K61 [t202,t184] w69))) (zt [(i6 0)] w64 (λs72 _d73 w74 K71=>
 pp (Builtin.len_ #[26] 3 #[t150]) λt205=>bf .lss 3 (s72.getD 0 u_) t205 λt206=>zb t206 (xl w74 26 t150 (s72.getD 0 u_) 3 λt213=>ca yj #[t175,t213] w74 λt214 w75=>
 pp (Op.unary .not t214) λt215=>za (λK76=>gIf t215 false (xl w75 26 t150 (s72.getD 0 u_) 3 λt221=>ca yj #[t3,t221] w75 λt222 w80=>
 pp (Op.unary .not t222) λt223=>K76 [t223] w80) (K76 [u_] w75)) (λs77 _d78 w79=>
 za (λK81=>gIf (s77.getD 0 u_) true (xl w79 26 t150 (s72.getD 0 u_) 3 λt229=>ca yj #[t49,t229] w79 λt230 w85=>
 pp (Op.unary .not t230) λt231=>K81 [t231] w85) (K81 [u_] w79)) (λs82 _d83 w84=>
 za (λK86=>gIf t215 false (zd (s77.getD 0 u_) (s82.getD 0 u_) fa_ λt232=>K86 [t232] w84) (K86 [u_] w84)) (λs87 _d88 w89=>
 zd t215 tr_ (s87.getD 0 u_) λt233=>zb t233 (K fa_ w89) (bt .add 3 (s72.getD 0 u_) (i6 1) λt208=>K71 [t208] w89))))) (zt [(i6 0)] w74 (λs91 _d92 w93 K90=>
 pp (Builtin.len_ #[26] 3 #[t158]) λt236=>bf .lss 3 (s91.getD 0 u_) t236 λt237=>zb t237 (xl w93 26 t158 (s91.getD 0 u_) 3 λt244=>ca yj #[t175,t244] w93 λt245 w94=>
 pp (Op.unary .not t245) λt246=>zb t246 (K fa_ w94) (bt .add 3 (s91.getD 0 u_) (i6 1) λt239=>K90 [t239] w94)) (pp (Builtin.len_ #[26] 3 #[t175]) λt249=>bf .eql 3 (s62.getD 0 u_) t249 λt250=>za (λK95=>gIf t250 true (ca y8 #[] w93 λt252 w99=>
 K95 [t252] w99) (K95 [u_] w93)) (λs96 _d97 w98=>
 zd t250 (s96.getD 0 u_) fa_ λt253=>K t253 w98))))))))))))))))))
theorem Qe{t2 t3 t4:Value}(h:vS t0 t1 t2 t3 t4 w K):zc prog vI #[t0,t1,t2,t3,t4] w K:=
 okC false (.s (.r (rz 2 0 2)) (.s (.s (.r (ra 4 0 9 (.grp 33 false (ri 3 4 0) [36] (ra 2 7 0 (.grp 38 false (ri 3 9 0) [41] (rz 1 12 0)))))) (.c (.s (.r (rz 2 0 2)) (.n)) (.n))) (.s (.r (rz 11 0 129)) (.s (.s (.r (rz 2 0 0)) (.c (.s (.r (ra 4 0 0 (.grp 57 true (ri 3 4 0) [60] (ra 2 7 0 (.grp 62 true (ri 1 9 2) [63] (rz 2 10 0)))))) (.n)) (.n))) (.s (.s (.r (rz 1 0 0)) (.b (.lp [14] (.s (.s (.r (rz 4 0 0)) (.c (.n) (.n))) (.s (.b (.s (.r (rz 12 0 9217)) (.s (.s (.r (ra 3 0 0 (.grp 83 false (ri 6 3 2304) [89] (rz 1 9 0)))) (.c (.s (.r (rz 1 0 0)) (.n)) (.n))) (.s (.r (rz 1 0 0)) (.b (.lp [17] (.s (.s (.r (rz 4 0 0)) (.c (.n) (.n))) (.s (.b (.s (.r (rz 7 0 2304)) (.c (.s (.r (rz 1 0 0)) (.n)) (.n)))) (.r (rz 3 0 0)))))))))) (.r (rz 3 0 0))))))) (.s (.s (.r (rz 1 0 0)) (.b (.lp [18] (.s (.s (.r (rz 4 0 0)) (.c (.n) (.n))) (.s (.b (.s (.r (rz 12 0 9217)) (.s (.s (.r (rz 2 0 0)) (.c (.s (.r (rz 1 0 0)) (.n)) (.n))) (.s (.r (rz 1 0 0)) (.b (.lp [21] (.s (.s (.r (rz 4 0 0)) (.c (.n) (.n))) (.s (.b (.s (.r (ra 8 0 2304 (.grp 135 true (ri 7 8 2304) [142] (rz 1 15 0)))) (.c (.s (.r (rz 1 0 0)) (.n)) (.n)))) (.r (rz 3 0 0)))))))))) (.r (rz 3 0 0))))))) (.s (.r (rz 10 0 513)) (.s (.r (rz 10 0 513)) (.s (.s (.r (ra 3 0 0 (.grp 162 false (ri 2 3 0) [164] (rz 1 5 0)))) (.c (.s (.r (rz 2 0 2)) (.n)) (.n))) (.s (.r (rz 12 0 11265)) (.s (.s (.r (rz 2 0 0)) (.c (.s (.r (rz 1 0 0)) (.n)) (.n))) (.s (.r (rz 1 0 0)) (.s (.s (.r (rz 1 0 0)) (.b (.lp [26,27] (.s (.s (.r (rz 4 0 0)) (.c (.n) (.n))) (.s (.b (.s (.s (.r (ra 8 0 2304 (.grp 192 true (ri 7 8 2304) [199] (rz 1 15 0)))) (.c (.s (.r (rz 1 0 0)) (.n)) (.n))) (.r (rz 3 0 0)))) (.r (rz 3 0 0))))))) (.s (.s (.r (rz 1 0 0)) (.b (.lp [28] (.s (.s (.r (rz 4 0 0)) (.c (.n) (.n))) (.s (.b (.s (.r (ra 8 0 2304 (.grp 216 false (ri 8 8 2304) [224] (.grp 224 true (ri 7 16 2304) [231] (.grp 216 false (ri 1 23 0) [232] (rz 1 24 0)))))) (.c (.s (.r (rz 1 0 0)) (.n)) (.n)))) (.r (rz 3 0 0))))))) (.s (.s (.r (rz 1 0 0)) (.b (.lp [29] (.s (.s (.r (rz 4 0 0)) (.c (.n) (.n))) (.s (.b (.s (.r (rz 7 0 2304)) (.c (.s (.r (rz 1 0 0)) (.n)) (.n)))) (.r (rz 3 0 0))))))) (.s (.r (ra 5 0 0 (.grp 251 true (ri 1 5 2) [252] (rz 2 6 0)))) (.n))))))))))))))))) func4 rfl (by kernel_rfl) (by kernel_rfl) h
def Qf(t0:Value)(w:World)(K:VW):Prop:=
 pw w (Instr.box 25 t0) λt1 w1=>
 fl w1 t1 25 0 22 λt7=>pp (Builtin.len_ #[22] 3 #[t7]) λt8=>bt .gtr 3 t8 (i6 40) λt9=>za (λK2=>gIf t9 false (fl w1 t1 25 1 23 λt12=>pp (Builtin.len_ #[23] 3 #[t12]) λt13=>bt .gtr 3 t13 (i6 40) λt14=>K2 [t14] w1) (K2 [u_] w1)) (λs3 _d4 w5=>
 zd t9 tr_ (s3.getD 0 u_) λt15=>zb t15 (K fa_ w5) (zt [(i6 0)] w5 (λs7 _d8 w9 K6=>
 fl w9 t1 25 0 22 λt18=>pp (Builtin.len_ #[22] 3 #[t18]) λt19=>bf .lss 3 (s7.getD 0 u_) t19 λt20=>zb t20 (fl w9 t1 25 0 22 λt24=>px 22 t24 (s7.getD 0 u_) λt26=>fl w9 t26 68 1 66 λt28=>pp (Builtin.len_ #[66] 3 #[t28]) λt29=>bt .gtr 3 t29 (i6 20) λt30=>zb t30 (K fa_ w9) (bt .add 3 (s7.getD 0 u_) (i6 1) λt22=>K6 [t22] w9)) (zt [(i6 0),(i6 0)] w9 (λs11 _d12 w13 K10=>
 fl w13 t1 25 1 23 λt33=>pp (Builtin.len_ #[23] 3 #[t33]) λt34=>bf .lss 3 (s11.getD 1 u_) t34 λt35=>zb t35 (fl w13.drew t1 25 1 23 λt40=>px 23 t40 (s11.getD 1 u_) λt42=>fl w13.drew t42 74 6 72 λt44=>pp (Builtin.len_ #[72] 3 #[t44]) λt45=>fl w13.drew t1 25 1 23 λt47=>px 23 t47 (s11.getD 1 u_) λt49=>fl w13.drew t49 74 4 70 λt51=>pp (Builtin.len_ #[70] 3 #[t51]) λt52=>bf .add 3 t45 t52 λt53=>bf .add 3 (s11.getD 0 u_) t53 λt54=>fl w13.drew t1 25 1 23 λt56=>px 23 t56 (s11.getD 1 u_) λt58=>fl w13.drew t58 74 6 72 λt60=>pp (Builtin.len_ #[72] 3 #[t60]) λt61=>bt .gtr 3 t61 (i6 300) λt62=>za (λK14=>gIf t62 false (fl w13.drew t1 25 1 23 λt65=>px 23 t65 (s11.getD 1 u_) λt67=>fl w13.drew t67 74 4 70 λt69=>pp (Builtin.len_ #[70] 3 #[t69]) λt70=>bt .gtr 3 t70 (i6 300) λt71=>K14 [t71] w13.drew) (K14 [u_] w13.drew)) (λs15 _d16 w17=>
 zd t62 tr_ (s15.getD 0 u_) λt72=>za (λK18=>gIf t72 false (bt .gtr 3 t54 (i6 1200) λt75=>K18 [t75] w17) (K18 [u_] w17)) (λs19 _d20 w21=>
 zd t72 tr_ (s19.getD 0 u_) λt76=>zb t76 (K fa_ w21) (bt .add 3 (s11.getD 1 u_) (i6 1) λt37=>K10 [t54,t37] w21)))) (K tr_ w13))))))
theorem aaZ(h:Qf t0 w K):zc prog Zn #[t0] w K:=
 okC false (.s (.r (rz 2 0 2)) (.s (.s (.r (ra 5 0 4 (.grp 10 false (ri 4 5 4) [14] (rz 1 9 0)))) (.c (.s (.r (rz 1 0 0)) (.n)) (.n))) (.s (.r (rz 1 0 0)) (.s (.s (.r (rz 1 0 0)) (.b (.lp [4] (.s (.s (.r (rz 5 0 16)) (.c (.n) (.n))) (.s (.b (.s (.r (rz 8 0 1028)) (.c (.s (.r (rz 1 0 0)) (.n)) (.n)))) (.r (rz 3 0 0))))))) (.s (.s (.r (rz 1 0 0)) (.b (.lp [3,5] (.s (.s (.r (rz 5 0 16)) (.c (.n) (.n))) (.s (.b (.s (.r (rz 18 0 67375120)) (.s (.r (ra 9 0 1028 (.grp 63 false (ri 8 9 1028) [71] (ra 2 17 0 (.grp 73 false (ri 2 19 0) [75] (rz 1 21 0)))))) (.c (.s (.r (rz 1 0 0)) (.n)) (.n))))) (.r (rz 3 0 0))))))) (.s (.r (rz 1 0 0)) (.n))))))) func6 rfl (by kernel_rfl) (by kernel_rfl) h
def Xs(w:World)(K:VW):Prop:=
 ca Zo #[] w λt20 w1=>
 pw w1 (Instr.alloc 25 true (.tuple #[])) λt1 w2=>
 so w2 25 t1 t20 λw3=>lo w3 25 t1 λt22=>ca Zk #[t22,(i6 0)] w3 λt23 w4=>
 pe t23 0 λt24=>pe t23 1 λt25=>lo w4 25 t1 λt27=>pw w4 (Instr.buildSlice 57 1 #[(0,(i6 (-1)))]) λt28 w5=>
 pp (Instr.build 59 #[(0,(i6 2)),(1,t28)]) λt29=>ca Z6 #[t27,(i6 0),t29] w5 λt30 w6=>
 pe t30 0 λt31=>pe t30 1 λt32=>lo w6 25 t1 λt34=>ca kJ #[t34,(i6 0),(i6 1)] w6 λt35 w7=>
 pe t35 0 λt36=>pe t35 1 λt37=>lo w7 25 t1 λt39=>ca Zl #[t39,(i6 0)] w7 λt40 w8=>
 pe t40 0 λt41=>pe t40 1 λt42=>lo w8 25 t1 λt44=>ca jU #[t44,(i6 0),(i6 1)] w8 λt45 w9=>
 pe t45 0 λt46=>pe t45 1 λt47=>pe t45 2 λt48=>lo w9 25 t1 λt50=>ca Z7 #[t50,(i6 0),(i6 2)] w9 λt51 w10=>
 pe t51 0 λt52=>pe t51 1 λt53=>lo w10 25 t1 λt55=>ca Zm #[t55,(i6 0),(i6 2)] w10 λt56 w11=>
 pe t56 0 λ_t57=>pe t56 1 λt58=>pe t56 2 λt59=>lo w11 25 t1 λt61=>pw w11 (Instr.buildSlice 26 2 #[(0,(i6 0)),(1,(i6 1))]) λt62 w12=>
 ca y7 #[t61,(i6 0),(i6 1),t62] w12 λt63 w13=>
 pe t63 0 λt64=>pe t63 1 λt65=>bt .eql 29 t25 (i6 0) λt67=>za (λK14=>gIf t67 true (pp (Builtin.len_ #[37] 3 #[t24]) λt70=>bt .eql 3 t70 (i6 3) λt71=>K14 [t71] w13) (K14 [u_] w13)) (λs15 _d16 w17=>
 zd t67 (s15.getD 0 u_) fa_ λt72=>za (λK18=>gIf t72 true (bt .eql 3 t31 (i6 2) λt75=>K18 [t75] w17) (K18 [u_] w17)) (λs19 _d20 w21=>
 zd t72 (s19.getD 0 u_) fa_ λt76=>za (λK22=>gIf t76 true (bt .eql 29 t32 (i6 0) λt79=>K22 [t79] w21) (K22 [u_] w21)) (λs23 _d24 w25=>
 zd t76 (s23.getD 0 u_) fa_ λt80=>za (λK26=>gIf t80 true (pp (Builtin.len_ #[26] 3 #[t36]) λt83=>bt .eql 3 t83 (i6 1) λt84=>K26 [t84] w25) (K26 [u_] w25)) (λs27 _d28 w29=>
 zd t80 (s27.getD 0 u_) fa_ λt85=>za (λK30=>gIf t85 true (bt .eql 29 t37 (i6 0) λt88=>K30 [t88] w29) (K30 [u_] w29)) (λs31 _d32 w33=>
 zd t85 (s31.getD 0 u_) fa_ λt89=>za (λK34=>gIf t89 true (pp (Builtin.len_ #[26] 3 #[t41]) λt92=>bt .eql 3 t92 (i6 3) λt93=>K34 [t93] w33) (K34 [u_] w33)) (λs35 _d36 w37=>
 zd t89 (s35.getD 0 u_) fa_ λt94=>za (λK38=>gIf t94 true (bt .eql 29 t42 (i6 0) λt97=>K38 [t97] w37) (K38 [u_] w37)) (λs39 _d40 w41=>
 zd t94 (s39.getD 0 u_) fa_ λt98=>za (λK42=>gIf t98 true (pp (Builtin.len_ #[26] 3 #[t46]) λt101=>bt .eql 3 t101 (i6 0) λt102=>K42 [t102] w41) (K42 [u_] w41)) (λs43 _d44 w45=>
 zd t98 (s43.getD 0 u_) fa_ λt103=>za (λK46=>gIf t103 true (pp (Builtin.len_ #[26] 3 #[t47]) λt106=>bt .eql 3 t106 (i6 1) λt107=>K46 [t107] w45) (K46 [u_] w45)) (λs47 _d48 w49=>
 zd t103 (s47.getD 0 u_) fa_ λt108=>za (λK50=>gIf t108 true (bt .eql 29 t48 (i6 0) λt111=>K50 [t111] w49) (K50 [u_] w49)) (λs51 _d52 w53=>
 zd t108 (s51.getD 0 u_) fa_ λt112=>za (λK54=>gIf t112 true (pp (Builtin.len_ #[26] 3 #[t52]) λt115=>bt .eql 3 t115 (i6 1) λt116=>K54 [t116] w53) (K54 [u_] w53)) (λs55 _d56 w57=>
 zd t112 (s55.getD 0 u_) fa_ λt117=>za (λK58=>gIf t117 true (xl w57 26 t52 (i6 0) 3 λt121=>bt .eql 3 t121 (i6 2) λt122=>K58 [t122] w57) (K58 [u_] w57)) (λs59 _d60 w61=>
 zd t117 (s59.getD 0 u_) fa_ λt123=>za (λK62=>gIf t123 true (bt .eql 29 t53 (i6 0) λt126=>K62 [t126] w61) (K62 [u_] w61)) (λs63 _d64 w65=>
 zd t123 (s63.getD 0 u_) fa_ λt127=>za (λK66=>gIf t127 true (pp (Op.unary .not t58) λt130=>K66 [t130] w65) (K66 [u_] w65)) (λs67 _d68 w69=>
 zd t127 (s67.getD 0 u_) fa_ λt131=>za (λK70=>gIf t131 true (bt .eql 29 t59 (i6 0) λt134=>K70 [t134] w69) (K70 [u_] w69)) (λs71 _d72 w73=>
 zd t131 (s71.getD 0 u_) fa_ λt135=>za (λK74=>gIf t135 true (pp (Builtin.len_ #[26] 3 #[t64]) λt138=>bt .eql 3 t138 (i6 1) λt139=>K74 [t139] w73) (K74 [u_] w73)) (λs75 _d76 w77=>
 zd t135 (s75.getD 0 u_) fa_ λt140=>za (λK78=>gIf t140 true (xl w77 26 t64 (i6 0) 3 λt144=>bt .eql 3 t144 (i6 0) λt145=>K78 [t145] w77) (K78 [u_] w77)) (λs79 _d80 w81=>
 zd t140 (s79.getD 0 u_) fa_ λt146=>za (λK82=>gIf t146 true (bt .eql 29 t65 (i6 0) λt149=>K82 [t149] w81) (K82 [u_] w81)) (λs83 _d84 w85=>
 zd t146 (s83.getD 0 u_) fa_ λt150=>K t150 w85))))))))))))))))))
theorem V8(h:Xs  w K):zc prog y8 #[] w K:=
 okC false (.s (.r (rz 1 0 0)) (.s (.r (rz 3 0 42)) (.s (.r (rz 7 0 9)) (.s (.r (rz 9 0 137)) (.s (.r (rz 7 0 9)) (.s (.r (rz 7 0 9)) (.s (.r (rz 9 0 9)) (.s (.r (rz 7 0 9)) (.s (.r (rz 9 0 9)) (.s (.r (rz 8 0 41)) (.s (.r (ra 3 0 0 (.grp 68 true (ri 3 3 0) [71] (ra 2 6 0 (.grp 73 true (ri 2 8 0) [75] (ra 2 10 0 (.grp 77 true (ri 2 12 0) [79] (ra 2 14 0 (.grp 81 true (ri 3 16 0) [84] (ra 2 19 0 (.grp 86 true (ri 2 21 0) [88] (ra 2 23 0 (.grp 90 true (ri 3 25 0) [93] (ra 2 28 0 (.grp 95 true (ri 2 30 0) [97] (ra 2 32 0 (.grp 99 true (ri 3 34 0) [102] (ra 2 37 0 (.grp 104 true (ri 3 39 0) [107] (ra 2 42 0 (.grp 109 true (ri 2 44 0) [111] (ra 2 46 0 (.grp 113 true (ri 3 48 0) [116] (ra 2 51 0 (.grp 118 true (ri 4 53 16) [122] (ra 2 57 0 (.grp 124 true (ri 2 59 0) [126] (ra 2 61 0 (.grp 128 true (ri 2 63 0) [130] (ra 2 65 0 (.grp 132 true (ri 2 67 0) [134] (ra 2 69 0 (.grp 136 true (ri 3 71 0) [139] (ra 2 74 0 (.grp 141 true (ri 4 76 16) [145] (ra 2 80 0 (.grp 147 true (ri 2 82 0) [149] (rz 2 84 0)))))))))))))))))))))))))))))))))))))) (.n)))))))))))) func7 rfl (by kernel_rfl) (by kernel_rfl) h
def Vo(t0 t1:Value)(w:World)(K:VW):Prop:=
 zt [(i6 0)] w (λs2 _d3 w4 K1=>
 pp (Builtin.len_ #[26] 3 #[t0]) λt8=>bf .lss 3 (s2.getD 0 u_) t8 λt9=>zb t9 (xl w4 26 t0 (s2.getD 0 u_) 3 λt15=>bf .eql 3 t15 t1 λt17=>zb t17 (K tr_ w4) (bt .add 3 (s2.getD 0 u_) (i6 1) λt11=>K1 [t11] w4)) (K fa_ w4))
theorem acz(h:Vo t0 t1 w K):zc prog yj #[t0,t1] w K:=
 okC false (.s (.r (rz 1 0 0)) (.s (.s (.r (rz 1 0 0)) (.b (.lp [5] (.s (.s (.r (rz 4 0 0)) (.c (.n) (.n))) (.s (.b (.s (.r (rz 6 0 64)) (.c (.s (.r (rz 1 0 0)) (.n)) (.n)))) (.r (rz 3 0 0))))))) (.s (.r (rz 1 0 0)) (.n)))) func18 rfl (by kernel_rfl) (by kernel_rfl) h
def YO(t0 t1:Value)(w:World)(K:VW):Prop:=
 zt [(Value.slice Option.none 0 0),(i6 0),(i6 0)] w (λs2 _d3 w4 K1=>
 pp (Builtin.len_ #[26] 3 #[t0]) λt10=>bf .lss 3 (s2.getD 1 u_) t10 λt11=>za (λK5=>gIf t11 false (pp (Builtin.len_ #[26] 3 #[t1]) λt15=>bf .lss 3 (s2.getD 2 u_) t15 λt16=>K5 [t16] w4) (K5 [u_] w4)) (λs6 _d7 w8=>
 zd t11 tr_ (s6.getD 0 u_) λt17=>zb t17 (pp (Builtin.len_ #[26] 3 #[t0]) λt20=>bf .eql 3 (s2.getD 1 u_) t20 λt21=>za (λK9=>gIf t21 false (pp (Builtin.len_ #[26] 3 #[t1]) λt25=>bf .lss 3 (s2.getD 2 u_) t25 λt26=>K9 [t26] w8.drew) (K9 [u_] w8.drew)) (λs10 _d11 w12=>
 za (λK13=>gIf (s10.getD 0 u_) true (xl w12 26 t1 (s2.getD 2 u_) 3 λt31=>xl w12 26 t0 (s2.getD 1 u_) 3 λt35=>bf .lss 3 t31 t35 λt36=>K13 [t36] w12) (K13 [u_] w12)) (λs14 _d15 w16=>
 za (λK17=>gIf t21 false (zd (s10.getD 0 u_) (s14.getD 0 u_) fa_ λt37=>K17 [t37] w16) (K17 [u_] w16)) (λs18 _d19 w20=>
 zd t21 tr_ (s18.getD 0 u_) λt38=>zb t38 (xl w20 26 t1 (s2.getD 2 u_) 3 λt43=>pw w20 (Instr.buildSlice 26 1 #[(0,t43)]) λt44 w21=>
 pw w21 (Builtin.append_ #[26,26] 26 #[(s2.getD 0 u_),t44]) λt45 w22=>
 bt .add 3 (s2.getD 2 u_) (i6 1) λt47=>K1 [t45,(s2.getD 1 u_),t47] w22) (za (λK23=>
 pp (Builtin.len_ #[26] 3 #[t1]) λt50=>bf .lss 3 (s2.getD 2 u_) t50 λt51=>za (λK27=>gIf t51 true (xl w20.drew 26 t0 (s2.getD 1 u_) 3 λt56=>xl w20.drew 26 t1 (s2.getD 2 u_) 3 λt60=>bf .eql 3 t56 t60 λt61=>K27 [t61] w20.drew) (K27 [u_] w20.drew)) (λs28 _d29 w30=>
 zd t51 (s28.getD 0 u_) fa_ λt62=>zb t62 (bt .add 3 (s2.getD 2 u_) (i6 1) λt64=>K23 [t64] w30) (K23 [(s2.getD 2 u_)] w30))) (λs24 _d25 w26=>
 xl w26 26 t0 (s2.getD 1 u_) 3 λt69=>pw w26 (Instr.buildSlice 26 1 #[(0,t69)]) λt70 w31=>
 pw w31 (Builtin.append_ #[26,26] 26 #[(s2.getD 0 u_),t70]) λt71 w32=>
 bt .add 3 (s2.getD 1 u_) (i6 1) λt73=>K1 [t71,t73,(s24.getD 0 u_)] w32)))))) (K (s2.getD 0 u_) w8)))
theorem Vp(h:YO t0 t1 w K):zc prog jF #[t0,t1] w K:=
 okC false (.s (.r (rz 1 0 0)) (.s (.r (rz 1 0 0)) (.s (.r (rz 2 0 0)) (.s (.b (.lp [5,6,7] (.s (.s (.r (ra 5 0 0 (.grp 12 false (ri 4 5 0) [16] (rz 1 9 0)))) (.c (.n) (.n))) (.b (.s (.s (.r (ra 5 0 0 (.grp 22 false (ri 5 5 0) [27] (.grp 27 true (ri 9 10 16448) [36] (.grp 22 false (ri 1 19 0) [37] (rz 1 20 0)))))) (.c (.s (.r (rz 8 0 10496)) (.s (.r (rz 3 0 0)) (.n))) (.n))) (.j [7] (.s (.r (ra 5 0 0 (.grp 52 true (ri 9 5 16448) [61] (rz 1 14 0)))) (.c (.r (rz 3 0 0)) (.n))) (.s (.r (rz 8 0 10496)) (.r (rz 3 0 0))))))))) (.s (.r (rz 2 0 0)) (.n)))))) func19 rfl (by kernel_rfl) (by kernel_rfl) h
def Qg(w:World)(K:VW):Prop:=
 pw w (Instr.alloc 25 true (.tuple #[])) λt0 w1=>
 pw w1 (Instr.buildSlice 57 1 #[(0,(i6 (-1)))]) λt2 w2=>
 pp (Instr.build 59 #[(0,(i6 2)),(1,t2)]) λt3=>pw w2 (Instr.alloc 59 true (.tuple #[])) λt1 w3=>
 so w3 59 t1 t3 λw4=>pp (Instr.build 59 #[(0,(i6 2))]) λt9=>pp (Instr.build 59 #[(0,(i6 1))]) λt10=>pp (Instr.build 94 #[(0,(Value.int .u8 4)),(1,t9),(6,t10),(7,tr_),(10,(i6 1))]) λt11=>pp (Instr.build 59 #[(0,(i6 1))]) λt12=>lo w4.drew 59 t1 λt15=>pp (Instr.build 94 #[(0,(Value.int .u8 14))]) λt18=>((ca xe #[] w4.drew λt4 w5=>
 Ext w4.drew w5∧
 ((ca xe #[] w5 λt5 w6=>
 Ext w5 w6∧
 ((ca kt #[tr_] w6 λt6 w7=>
 Ext w6 w7∧
 ((pw w7 (Instr.buildSlice 70 3 #[(0,t4),(1,t5),(2,t6)]) λt7 w8=>
 Ext w7 w8∧
 ((pw w8 (Instr.makeSlice 71 (i6 3) (i6 3)) λt8 w9=>
 Ext w8 w9∧
 ca zk #[(i6 2)] w9 λt13 w10=>
 Ext w9 w10∧
 pp (Instr.build 94 #[(0,(Value.int .u8 1)),(1,t12),(2,t13),(10,(i6 2))]) λt14=>ca zk #[(i6 3)] w10 λt16 w11=>
 Ext w10 w11∧
 pp (Instr.build 94 #[(0,(Value.int .u8 1)),(1,t15),(2,t16),(10,(i6 3))]) λt17=>pw w11 (Instr.buildSlice 72 4 #[(0,t11),(1,t14),(2,t17),(3,t18)]) λt19 w12=>
 pp (Instr.build 74 #[(4,t7),(5,t8),(6,t19)]) λt20=>pw w12 (Instr.buildSlice 23 1 #[(0,t20)]) λt21 w13=>
 pp (Instr.build 25 #[(1,t21)]) λt22=>so w13 25 t0 t22 λw14=>pq w14 (zh 25 t0) λr15=>K r15 w14)∧
 (ca zk #[(i6 2)] w8 λt13_17 w16=>
 Ext w8 w16∧
 pp (Instr.build 94 #[(0,(Value.int .u8 1)),(1,t12),(2,t13_17),(10,(i6 2))]) λt14_18=>((pw w16 (Instr.makeSlice 71 (i6 3) (i6 3)) λt8_20 w19=>
 Ext w16 w19∧
 ca zk #[(i6 3)] w19 λt16_22 w21=>
 Ext w19 w21∧
 pp (Instr.build 94 #[(0,(Value.int .u8 1)),(1,t15),(2,t16_22),(10,(i6 3))]) λt17_23=>pw w21 (Instr.buildSlice 72 4 #[(0,t11),(1,t14_18),(2,t17_23),(3,t18)]) λt19_25 w24=>
 pp (Instr.build 74 #[(4,t7),(5,t8_20),(6,t19_25)]) λt20_26=>pw w24 (Instr.buildSlice 23 1 #[(0,t20_26)]) λt21_28 w27=>
 pp (Instr.build 25 #[(1,t21_28)]) λt22_29=>so w27 25 t0 t22_29 λw30=>pq w30 (zh 25 t0) λr31=>K r31 w30)∧
 (ca zk #[(i6 3)] w16 λt16_33 w32=>
 Ext w16 w32∧
 pp (Instr.build 94 #[(0,(Value.int .u8 1)),(1,t15),(2,t16_33),(10,(i6 3))]) λt17_34=>((pw w32 (Instr.makeSlice 71 (i6 3) (i6 3)) λt8_36 w35=>
 Ext w32 w35∧
 pw w35 (Instr.buildSlice 72 4 #[(0,t11),(1,t14_18),(2,t17_34),(3,t18)]) λt19_38 w37=>
 pp (Instr.build 74 #[(4,t7),(5,t8_36),(6,t19_38)]) λt20_39=>pw w37 (Instr.buildSlice 23 1 #[(0,t20_39)]) λt21_41 w40=>
 pp (Instr.build 25 #[(1,t21_41)]) λt22_42=>so w40 25 t0 t22_42 λw43=>pq w43 (zh 25 t0) λr44=>K r44 w43)∧
 (pw w32 (Instr.buildSlice 72 4 #[(0,t11),(1,t14_18),(2,t17_34),(3,t18)]) λt19_46 w45=>
 pw w45 (Instr.makeSlice 71 (i6 3) (i6 3)) λt8_48 w47=>
 Ext w45 w47∧
 pp (Instr.build 74 #[(4,t7),(5,t8_48),(6,t19_46)]) λt20_49=>pw w47 (Instr.buildSlice 23 1 #[(0,t20_49)]) λt21_51 w50=>
 pp (Instr.build 25 #[(1,t21_51)]) λt22_52=>so w50 25 t0 t22_52 λw53=>pq w53 (zh 25 t0) λr54=>K r54 w53)))))))∧
 (((pw w7 (Instr.makeSlice 71 (i6 3) (i6 3)) λt8_56 w55=>
 Ext w7 w55∧
 ((pw w55 (Instr.buildSlice 70 3 #[(0,t4),(1,t5),(2,t6)]) λt7_58 w57=>
 Ext w55 w57∧
 ca zk #[(i6 2)] w57 λt13_60 w59=>
 Ext w57 w59∧
 pp (Instr.build 94 #[(0,(Value.int .u8 1)),(1,t12),(2,t13_60),(10,(i6 2))]) λt14_61=>ca zk #[(i6 3)] w59 λt16_63 w62=>
 Ext w59 w62∧
 pp (Instr.build 94 #[(0,(Value.int .u8 1)),(1,t15),(2,t16_63),(10,(i6 3))]) λt17_64=>pw w62 (Instr.buildSlice 72 4 #[(0,t11),(1,t14_61),(2,t17_64),(3,t18)]) λt19_66 w65=>
 pp (Instr.build 74 #[(4,t7_58),(5,t8_56),(6,t19_66)]) λt20_67=>pw w65 (Instr.buildSlice 23 1 #[(0,t20_67)]) λt21_69 w68=>
 pp (Instr.build 25 #[(1,t21_69)]) λt22_70=>so w68 25 t0 t22_70 λw71=>pq w71 (zh 25 t0) λr72=>K r72 w71)∧
 (ca zk #[(i6 2)] w55 λt13_74 w73=>
 Ext w55 w73∧
 pp (Instr.build 94 #[(0,(Value.int .u8 1)),(1,t12),(2,t13_74),(10,(i6 2))]) λt14_75=>((pw w73 (Instr.buildSlice 70 3 #[(0,t4),(1,t5),(2,t6)]) λt7_77 w76=>
 Ext w73 w76∧
 ca zk #[(i6 3)] w76 λt16_79 w78=>
 Ext w76 w78∧
 pp (Instr.build 94 #[(0,(Value.int .u8 1)),(1,t15),(2,t16_79),(10,(i6 3))]) λt17_80=>pw w78 (Instr.buildSlice 72 4 #[(0,t11),(1,t14_75),(2,t17_80),(3,t18)]) λt19_82 w81=>
 pp (Instr.build 74 #[(4,t7_77),(5,t8_56),(6,t19_82)]) λt20_83=>pw w81 (Instr.buildSlice 23 1 #[(0,t20_83)]) λt21_85 w84=>
 pp (Instr.build 25 #[(1,t21_85)]) λt22_86=>so w84 25 t0 t22_86 λw87=>pq w87 (zh 25 t0) λr88=>K r88 w87)∧
 (ca zk #[(i6 3)] w73 λt16_90 w89=>
 Ext w73 w89∧
 pp (Instr.build 94 #[(0,(Value.int .u8 1)),(1,t15),(2,t16_90),(10,(i6 3))]) λt17_91=>((pw w89 (Instr.buildSlice 70 3 #[(0,t4),(1,t5),(2,t6)]) λt7_93 w92=>
 Ext w89 w92∧
 pw w92 (Instr.buildSlice 72 4 #[(0,t11),(1,t14_75),(2,t17_91),(3,t18)]) λt19_95 w94=>
 pp (Instr.build 74 #[(4,t7_93),(5,t8_56),(6,t19_95)]) λt20_96=>pw w94 (Instr.buildSlice 23 1 #[(0,t20_96)]) λt21_98 w97=>
 pp (Instr.build 25 #[(1,t21_98)]) λt22_99=>so w97 25 t0 t22_99 λw100=>pq w100 (zh 25 t0) λr101=>K r101 w100)∧
 (pw w89 (Instr.buildSlice 72 4 #[(0,t11),(1,t14_75),(2,t17_91),(3,t18)]) λt19_103 w102=>
 pw w102 (Instr.buildSlice 70 3 #[(0,t4),(1,t5),(2,t6)]) λt7_105 w104=>
 Ext w102 w104∧
 pp (Instr.build 74 #[(4,t7_105),(5,t8_56),(6,t19_103)]) λt20_106=>pw w104 (Instr.buildSlice 23 1 #[(0,t20_106)]) λt21_108 w107=>
 pp (Instr.build 25 #[(1,t21_108)]) λt22_109=>so w107 25 t0 t22_109 λw110=>pq w110 (zh 25 t0) λr111=>K r111 w110)))))))∧
 (ca zk #[(i6 2)] w7 λt13_113 w112=>
 Ext w7 w112∧
 pp (Instr.build 94 #[(0,(Value.int .u8 1)),(1,t12),(2,t13_113),(10,(i6 2))]) λt14_114=>((pw w112 (Instr.buildSlice 70 3 #[(0,t4),(1,t5),(2,t6)]) λt7_116 w115=>
 Ext w112 w115∧
 ((pw w115 (Instr.makeSlice 71 (i6 3) (i6 3)) λt8_118 w117=>
 Ext w115 w117∧
 ca zk #[(i6 3)] w117 λt16_120 w119=>
 Ext w117 w119∧
 pp (Instr.build 94 #[(0,(Value.int .u8 1)),(1,t15),(2,t16_120),(10,(i6 3))]) λt17_121=>pw w119 (Instr.buildSlice 72 4 #[(0,t11),(1,t14_114),(2,t17_121),(3,t18)]) λt19_123 w122=>
 pp (Instr.build 74 #[(4,t7_116),(5,t8_118),(6,t19_123)]) λt20_124=>pw w122 (Instr.buildSlice 23 1 #[(0,t20_124)]) λt21_126 w125=>
 pp (Instr.build 25 #[(1,t21_126)]) λt22_127=>so w125 25 t0 t22_127 λw128=>pq w128 (zh 25 t0) λr129=>K r129 w128)∧
 (ca zk #[(i6 3)] w115 λt16_131 w130=>
 Ext w115 w130∧
 pp (Instr.build 94 #[(0,(Value.int .u8 1)),(1,t15),(2,t16_131),(10,(i6 3))]) λt17_132=>((pw w130 (Instr.makeSlice 71 (i6 3) (i6 3)) λt8_134 w133=>
 Ext w130 w133∧
 pw w133 (Instr.buildSlice 72 4 #[(0,t11),(1,t14_114),(2,t17_132),(3,t18)]) λt19_136 w135=>
 pp (Instr.build 74 #[(4,t7_116),(5,t8_134),(6,t19_136)]) λt20_137=>pw w135 (Instr.buildSlice 23 1 #[(0,t20_137)]) λt21_139 w138=>
 pp (Instr.build 25 #[(1,t21_139)]) λt22_140=>so w138 25 t0 t22_140 λw141=>pq w141 (zh 25 t0) λr142=>K r142 w141)∧
 (pw w130 (Instr.buildSlice 72 4 #[(0,t11),(1,t14_114),(2,t17_132),(3,t18)]) λt19_144 w143=>
 pw w143 (Instr.makeSlice 71 (i6 3) (i6 3)) λt8_146 w145=>
 Ext w143 w145∧
 pp (Instr.build 74 #[(4,t7_116),(5,t8_146),(6,t19_144)]) λt20_147=>pw w145 (Instr.buildSlice 23 1 #[(0,t20_147)]) λt21_149 w148=>
 pp (Instr.build 25 #[(1,t21_149)]) λt22_150=>so w148 25 t0 t22_150 λw151=>pq w151 (zh 25 t0) λr152=>K r152 w151)))))∧
 (((pw w112 (Instr.makeSlice 71 (i6 3) (i6 3)) λt8_154 w153=>
 Ext w112 w153∧
 ((pw w153 (Instr.buildSlice 70 3 #[(0,t4),(1,t5),(2,t6)]) λt7_156 w155=>
 Ext w153 w155∧
 ca zk #[(i6 3)] w155 λt16_158 w157=>
 Ext w155 w157∧
 pp (Instr.build 94 #[(0,(Value.int .u8 1)),(1,t15),(2,t16_158),(10,(i6 3))]) λt17_159=>pw w157 (Instr.buildSlice 72 4 #[(0,t11),(1,t14_114),(2,t17_159),(3,t18)]) λt19_161 w160=>
 pp (Instr.build 74 #[(4,t7_156),(5,t8_154),(6,t19_161)]) λt20_162=>pw w160 (Instr.buildSlice 23 1 #[(0,t20_162)]) λt21_164 w163=>
 pp (Instr.build 25 #[(1,t21_164)]) λt22_165=>so w163 25 t0 t22_165 λw166=>pq w166 (zh 25 t0) λr167=>K r167 w166)∧
 (ca zk #[(i6 3)] w153 λt16_169 w168=>
 Ext w153 w168∧
 pp (Instr.build 94 #[(0,(Value.int .u8 1)),(1,t15),(2,t16_169),(10,(i6 3))]) λt17_170=>((pw w168 (Instr.buildSlice 70 3 #[(0,t4),(1,t5),(2,t6)]) λt7_172 w171=>
 Ext w168 w171∧
 pw w171 (Instr.buildSlice 72 4 #[(0,t11),(1,t14_114),(2,t17_170),(3,t18)]) λt19_174 w173=>
 pp (Instr.build 74 #[(4,t7_172),(5,t8_154),(6,t19_174)]) λt20_175=>pw w173 (Instr.buildSlice 23 1 #[(0,t20_175)]) λt21_177 w176=>
 pp (Instr.build 25 #[(1,t21_177)]) λt22_178=>so w176 25 t0 t22_178 λw179=>pq w179 (zh 25 t0) λr180=>K r180 w179)∧
 (pw w168 (Instr.buildSlice 72 4 #[(0,t11),(1,t14_114),(2,t17_170),(3,t18)]) λt19_182 w181=>
 pw w181 (Instr.buildSlice 70 3 #[(0,t4),(1,t5),(2,t6)]) λt7_184 w183=>
 Ext w181 w183∧
 pp (Instr.build 74 #[(4,t7_184),(5,t8_154),(6,t19_182)]) λt20_185=>pw w183 (Instr.buildSlice 23 1 #[(0,t20_185)]) λt21_187 w186=>
 pp (Instr.build 25 #[(1,t21_187)]) λt22_188=>so w186 25 t0 t22_188 λw189=>pq w189 (zh 25 t0) λr190=>K r190 w189)))))∧
 (ca zk #[(i6 3)] w112 λt16_192 w191=>
 Ext w112 w191∧
 pp (Instr.build 94 #[(0,(Value.int .u8 1)),(1,t15),(2,t16_192),(10,(i6 3))]) λt17_193=>((pw w191 (Instr.buildSlice 70 3 #[(0,t4),(1,t5),(2,t6)]) λt7_195 w194=>
 Ext w191 w194∧
 ((pw w194 (Instr.makeSlice 71 (i6 3) (i6 3)) λt8_197 w196=>
 Ext w194 w196∧
 pw w196 (Instr.buildSlice 72 4 #[(0,t11),(1,t14_114),(2,t17_193),(3,t18)]) λt19_199 w198=>
 pp (Instr.build 74 #[(4,t7_195),(5,t8_197),(6,t19_199)]) λt20_200=>pw w198 (Instr.buildSlice 23 1 #[(0,t20_200)]) λt21_202 w201=>
 pp (Instr.build 25 #[(1,t21_202)]) λt22_203=>so w201 25 t0 t22_203 λw204=>pq w204 (zh 25 t0) λr205=>K r205 w204)∧
 (pw w194 (Instr.buildSlice 72 4 #[(0,t11),(1,t14_114),(2,t17_193),(3,t18)]) λt19_207 w206=>
 pw w206 (Instr.makeSlice 71 (i6 3) (i6 3)) λt8_209 w208=>
 Ext w206 w208∧
 pp (Instr.build 74 #[(4,t7_195),(5,t8_209),(6,t19_207)]) λt20_210=>pw w208 (Instr.buildSlice 23 1 #[(0,t20_210)]) λt21_212 w211=>
 pp (Instr.build 25 #[(1,t21_212)]) λt22_213=>so w211 25 t0 t22_213 λw214=>pq w214 (zh 25 t0) λr215=>K r215 w214)))∧
 (((pw w191 (Instr.makeSlice 71 (i6 3) (i6 3)) λt8_217 w216=>
 Ext w191 w216∧
 ((pw w216 (Instr.buildSlice 70 3 #[(0,t4),(1,t5),(2,t6)]) λt7_219 w218=>
 Ext w216 w218∧
 pw w218 (Instr.buildSlice 72 4 #[(0,t11),(1,t14_114),(2,t17_193),(3,t18)]) λt19_221 w220=>
 pp (Instr.build 74 #[(4,t7_219),(5,t8_217),(6,t19_221)]) λt20_222=>pw w220 (Instr.buildSlice 23 1 #[(0,t20_222)]) λt21_224 w223=>
 pp (Instr.build 25 #[(1,t21_224)]) λt22_225=>so w223 25 t0 t22_225 λw226=>pq w226 (zh 25 t0) λr227=>K r227 w226)∧
 (pw w216 (Instr.buildSlice 72 4 #[(0,t11),(1,t14_114),(2,t17_193),(3,t18)]) λt19_229 w228=>
 pw w228 (Instr.buildSlice 70 3 #[(0,t4),(1,t5),(2,t6)]) λt7_231 w230=>
 Ext w228 w230∧
 pp (Instr.build 74 #[(4,t7_231),(5,t8_217),(6,t19_229)]) λt20_232=>pw w230 (Instr.buildSlice 23 1 #[(0,t20_232)]) λt21_234 w233=>
 pp (Instr.build 25 #[(1,t21_234)]) λt22_235=>so w233 25 t0 t22_235 λw236=>pq w236 (zh 25 t0) λr237=>K r237 w236)))∧
 (pw w191 (Instr.buildSlice 72 4 #[(0,t11),(1,t14_114),(2,t17_193),(3,t18)]) λt19_239 w238=>
 ((pw w238 (Instr.buildSlice 70 3 #[(0,t4),(1,t5),(2,t6)]) λt7_241 w240=>
 Ext w238 w240∧
 pw w240 (Instr.makeSlice 71 (i6 3) (i6 3)) λt8_243 w242=>
 Ext w240 w242∧
 pp (Instr.build 74 #[(4,t7_241),(5,t8_243),(6,t19_239)]) λt20_244=>pw w242 (Instr.buildSlice 23 1 #[(0,t20_244)]) λt21_246 w245=>
 pp (Instr.build 25 #[(1,t21_246)]) λt22_247=>so w245 25 t0 t22_247 λw248=>pq w248 (zh 25 t0) λr249=>K r249 w248)∧
 (pw w238 (Instr.makeSlice 71 (i6 3) (i6 3)) λt8_251 w250=>
 Ext w238 w250∧
 pw w250 (Instr.buildSlice 70 3 #[(0,t4),(1,t5),(2,t6)]) λt7_253 w252=>
 Ext w250 w252∧
 pp (Instr.build 74 #[(4,t7_253),(5,t8_251),(6,t19_239)]) λt20_254=>pw w252 (Instr.buildSlice 23 1 #[(0,t20_254)]) λt21_256 w255=>
 pp (Instr.build 25 #[(1,t21_256)]) λt22_257=>so w255 25 t0 t22_257 λw258=>pq w258 (zh 25 t0) λr259=>K r259 w258)))))))))))))))∧
 (pw w6 (Instr.makeSlice 71 (i6 3) (i6 3)) λt8_261 w260=>
 Ext w6 w260∧
 ca kt #[tr_] w260 λt6_263 w262=>
 Ext w260 w262∧
 ((pw w262 (Instr.buildSlice 70 3 #[(0,t4),(1,t5),(2,t6_263)]) λt7_265 w264=>
 Ext w262 w264∧
 ca zk #[(i6 2)] w264 λt13_267 w266=>
 Ext w264 w266∧
 pp (Instr.build 94 #[(0,(Value.int .u8 1)),(1,t12),(2,t13_267),(10,(i6 2))]) λt14_268=>ca zk #[(i6 3)] w266 λt16_270 w269=>
 Ext w266 w269∧
 pp (Instr.build 94 #[(0,(Value.int .u8 1)),(1,t15),(2,t16_270),(10,(i6 3))]) λt17_271=>pw w269 (Instr.buildSlice 72 4 #[(0,t11),(1,t14_268),(2,t17_271),(3,t18)]) λt19_273 w272=>
 pp (Instr.build 74 #[(4,t7_265),(5,t8_261),(6,t19_273)]) λt20_274=>pw w272 (Instr.buildSlice 23 1 #[(0,t20_274)]) λt21_276 w275=>
 pp (Instr.build 25 #[(1,t21_276)]) λt22_277=>so w275 25 t0 t22_277 λw278=>pq w278 (zh 25 t0) λr279=>K r279 w278)∧
 (ca zk #[(i6 2)] w262 λt13_281 w280=>
 Ext w262 w280∧
 pp (Instr.build 94 #[(0,(Value.int .u8 1)),(1,t12),(2,t13_281),(10,(i6 2))]) λt14_282=>((pw w280 (Instr.buildSlice 70 3 #[(0,t4),(1,t5),(2,t6_263)]) λt7_284 w283=>
 Ext w280 w283∧
 ca zk #[(i6 3)] w283 λt16_286 w285=>
 Ext w283 w285∧
 pp (Instr.build 94 #[(0,(Value.int .u8 1)),(1,t15),(2,t16_286),(10,(i6 3))]) λt17_287=>pw w285 (Instr.buildSlice 72 4 #[(0,t11),(1,t14_282),(2,t17_287),(3,t18)]) λt19_289 w288=>
 pp (Instr.build 74 #[(4,t7_284),(5,t8_261),(6,t19_289)]) λt20_290=>pw w288 (Instr.buildSlice 23 1 #[(0,t20_290)]) λt21_292 w291=>
 pp (Instr.build 25 #[(1,t21_292)]) λt22_293=>so w291 25 t0 t22_293 λw294=>pq w294 (zh 25 t0) λr295=>K r295 w294)∧
 (ca zk #[(i6 3)] w280 λt16_297 w296=>
 Ext w280 w296∧
 pp (Instr.build 94 #[(0,(Value.int .u8 1)),(1,t15),(2,t16_297),(10,(i6 3))]) λt17_298=>((pw w296 (Instr.buildSlice 70 3 #[(0,t4),(1,t5),(2,t6_263)]) λt7_300 w299=>
 Ext w296 w299∧
 pw w299 (Instr.buildSlice 72 4 #[(0,t11),(1,t14_282),(2,t17_298),(3,t18)]) λt19_302 w301=>
 pp (Instr.build 74 #[(4,t7_300),(5,t8_261),(6,t19_302)]) λt20_303=>pw w301 (Instr.buildSlice 23 1 #[(0,t20_303)]) λt21_305 w304=>
 pp (Instr.build 25 #[(1,t21_305)]) λt22_306=>so w304 25 t0 t22_306 λw307=>pq w307 (zh 25 t0) λr308=>K r308 w307)∧
 (pw w296 (Instr.buildSlice 72 4 #[(0,t11),(1,t14_282),(2,t17_298),(3,t18)]) λt19_310 w309=>
 pw w309 (Instr.buildSlice 70 3 #[(0,t4),(1,t5),(2,t6_263)]) λt7_312 w311=>
 Ext w309 w311∧
 pp (Instr.build 74 #[(4,t7_312),(5,t8_261),(6,t19_310)]) λt20_313=>pw w311 (Instr.buildSlice 23 1 #[(0,t20_313)]) λt21_315 w314=>
 pp (Instr.build 25 #[(1,t21_315)]) λt22_316=>so w314 25 t0 t22_316 λw317=>pq w317 (zh 25 t0) λr318=>K r318 w317)))))))))∧
 (pw w5 (Instr.makeSlice 71 (i6 3) (i6 3)) λt8_320 w319=>
 Ext w5 w319∧
 ca xe #[] w319 λt5_322 w321=>
 Ext w319 w321∧
 ca kt #[tr_] w321 λt6_324 w323=>
 Ext w321 w323∧
 ((pw w323 (Instr.buildSlice 70 3 #[(0,t4),(1,t5_322),(2,t6_324)]) λt7_326 w325=>
 Ext w323 w325∧
 ca zk #[(i6 2)] w325 λt13_328 w327=>
 Ext w325 w327∧
 pp (Instr.build 94 #[(0,(Value.int .u8 1)),(1,t12),(2,t13_328),(10,(i6 2))]) λt14_329=>ca zk #[(i6 3)] w327 λt16_331 w330=>
 Ext w327 w330∧
 pp (Instr.build 94 #[(0,(Value.int .u8 1)),(1,t15),(2,t16_331),(10,(i6 3))]) λt17_332=>pw w330 (Instr.buildSlice 72 4 #[(0,t11),(1,t14_329),(2,t17_332),(3,t18)]) λt19_334 w333=>
 pp (Instr.build 74 #[(4,t7_326),(5,t8_320),(6,t19_334)]) λt20_335=>pw w333 (Instr.buildSlice 23 1 #[(0,t20_335)]) λt21_337 w336=>
 pp (Instr.build 25 #[(1,t21_337)]) λt22_338=>so w336 25 t0 t22_338 λw339=>pq w339 (zh 25 t0) λr340=>K r340 w339)∧
 (ca zk #[(i6 2)] w323 λt13_342 w341=>
 Ext w323 w341∧
 pp (Instr.build 94 #[(0,(Value.int .u8 1)),(1,t12),(2,t13_342),(10,(i6 2))]) λt14_343=>((pw w341 (Instr.buildSlice 70 3 #[(0,t4),(1,t5_322),(2,t6_324)]) λt7_345 w344=>
 Ext w341 w344∧
 ca zk #[(i6 3)] w344 λt16_347 w346=>
 Ext w344 w346∧
 pp (Instr.build 94 #[(0,(Value.int .u8 1)),(1,t15),(2,t16_347),(10,(i6 3))]) λt17_348=>pw w346 (Instr.buildSlice 72 4 #[(0,t11),(1,t14_343),(2,t17_348),(3,t18)]) λt19_350 w349=>
 pp (Instr.build 74 #[(4,t7_345),(5,t8_320),(6,t19_350)]) λt20_351=>pw w349 (Instr.buildSlice 23 1 #[(0,t20_351)]) λt21_353 w352=>
 pp (Instr.build 25 #[(1,t21_353)]) λt22_354=>so w352 25 t0 t22_354 λw355=>pq w355 (zh 25 t0) λr356=>K r356 w355)∧
 (ca zk #[(i6 3)] w341 λt16_358 w357=>
 Ext w341 w357∧
 pp (Instr.build 94 #[(0,(Value.int .u8 1)),(1,t15),(2,t16_358),(10,(i6 3))]) λt17_359=>((pw w357 (Instr.buildSlice 70 3 #[(0,t4),(1,t5_322),(2,t6_324)]) λt7_361 w360=>
 Ext w357 w360∧
 pw w360 (Instr.buildSlice 72 4 #[(0,t11),(1,t14_343),(2,t17_359),(3,t18)]) λt19_363 w362=>
 pp (Instr.build 74 #[(4,t7_361),(5,t8_320),(6,t19_363)]) λt20_364=>pw w362 (Instr.buildSlice 23 1 #[(0,t20_364)]) λt21_366 w365=>
 pp (Instr.build 25 #[(1,t21_366)]) λt22_367=>so w365 25 t0 t22_367 λw368=>pq w368 (zh 25 t0) λr369=>K r369 w368)∧
 (pw w357 (Instr.buildSlice 72 4 #[(0,t11),(1,t14_343),(2,t17_359),(3,t18)]) λt19_371 w370=>
 pw w370 (Instr.buildSlice 70 3 #[(0,t4),(1,t5_322),(2,t6_324)]) λt7_373 w372=>
 Ext w370 w372∧
 pp (Instr.build 74 #[(4,t7_373),(5,t8_320),(6,t19_371)]) λt20_374=>pw w372 (Instr.buildSlice 23 1 #[(0,t20_374)]) λt21_376 w375=>
 pp (Instr.build 25 #[(1,t21_376)]) λt22_377=>so w375 25 t0 t22_377 λw378=>pq w378 (zh 25 t0) λr379=>K r379 w378)))))))))∧
 (pw w4.drew (Instr.makeSlice 71 (i6 3) (i6 3)) λt8_381 w380=>
 Ext w4.drew w380∧
 ca xe #[] w380 λt4_383 w382=>
 Ext w380 w382∧
 ca xe #[] w382 λt5_385 w384=>
 Ext w382 w384∧
 ca kt #[tr_] w384 λt6_387 w386=>
 Ext w384 w386∧
 ((pw w386 (Instr.buildSlice 70 3 #[(0,t4_383),(1,t5_385),(2,t6_387)]) λt7_389 w388=>
 Ext w386 w388∧
 ca zk #[(i6 2)] w388 λt13_391 w390=>
 Ext w388 w390∧
 pp (Instr.build 94 #[(0,(Value.int .u8 1)),(1,t12),(2,t13_391),(10,(i6 2))]) λt14_392=>ca zk #[(i6 3)] w390 λt16_394 w393=>
 Ext w390 w393∧
 pp (Instr.build 94 #[(0,(Value.int .u8 1)),(1,t15),(2,t16_394),(10,(i6 3))]) λt17_395=>pw w393 (Instr.buildSlice 72 4 #[(0,t11),(1,t14_392),(2,t17_395),(3,t18)]) λt19_397 w396=>
 pp (Instr.build 74 #[(4,t7_389),(5,t8_381),(6,t19_397)]) λt20_398=>pw w396 (Instr.buildSlice 23 1 #[(0,t20_398)]) λt21_400 w399=>
 pp (Instr.build 25 #[(1,t21_400)]) λt22_401=>so w399 25 t0 t22_401 λw402=>pq w402 (zh 25 t0) λr403=>K r403 w402)∧
 (ca zk #[(i6 2)] w386 λt13_405 w404=>
 Ext w386 w404∧
 pp (Instr.build 94 #[(0,(Value.int .u8 1)),(1,t12),(2,t13_405),(10,(i6 2))]) λt14_406=>((pw w404 (Instr.buildSlice 70 3 #[(0,t4_383),(1,t5_385),(2,t6_387)]) λt7_408 w407=>
 Ext w404 w407∧
 ca zk #[(i6 3)] w407 λt16_410 w409=>
 Ext w407 w409∧
 pp (Instr.build 94 #[(0,(Value.int .u8 1)),(1,t15),(2,t16_410),(10,(i6 3))]) λt17_411=>pw w409 (Instr.buildSlice 72 4 #[(0,t11),(1,t14_406),(2,t17_411),(3,t18)]) λt19_413 w412=>
 pp (Instr.build 74 #[(4,t7_408),(5,t8_381),(6,t19_413)]) λt20_414=>pw w412 (Instr.buildSlice 23 1 #[(0,t20_414)]) λt21_416 w415=>
 pp (Instr.build 25 #[(1,t21_416)]) λt22_417=>so w415 25 t0 t22_417 λw418=>pq w418 (zh 25 t0) λr419=>K r419 w418)∧
 (ca zk #[(i6 3)] w404 λt16_421 w420=>
 Ext w404 w420∧
 pp (Instr.build 94 #[(0,(Value.int .u8 1)),(1,t15),(2,t16_421),(10,(i6 3))]) λt17_422=>((pw w420 (Instr.buildSlice 70 3 #[(0,t4_383),(1,t5_385),(2,t6_387)]) λt7_424 w423=>
 Ext w420 w423∧
 pw w423 (Instr.buildSlice 72 4 #[(0,t11),(1,t14_406),(2,t17_422),(3,t18)]) λt19_426 w425=>
 pp (Instr.build 74 #[(4,t7_424),(5,t8_381),(6,t19_426)]) λt20_427=>pw w425 (Instr.buildSlice 23 1 #[(0,t20_427)]) λt21_429 w428=>
 pp (Instr.build 25 #[(1,t21_429)]) λt22_430=>so w428 25 t0 t22_430 λw431=>pq w431 (zh 25 t0) λr432=>K r432 w431)∧
 (pw w420 (Instr.buildSlice 72 4 #[(0,t11),(1,t14_406),(2,t17_422),(3,t18)]) λt19_434 w433=>
 pw w433 (Instr.buildSlice 70 3 #[(0,t4_383),(1,t5_385),(2,t6_387)]) λt7_436 w435=>
 Ext w433 w435∧
 pp (Instr.build 74 #[(4,t7_436),(5,t8_381),(6,t19_434)]) λt20_437=>pw w435 (Instr.buildSlice 23 1 #[(0,t20_437)]) λt21_439 w438=>
 pp (Instr.build 25 #[(1,t21_439)]) λt22_440=>so w438 25 t0 t22_440 λw441=>pq w441 (zh 25 t0) λr442=>K r442 w441))))))))
theorem aa0(h:Qg  w K):zc prog Zo #[] w K:=
 okC false (.s (.r (rz 1 0 2)) (.s (.r (rz 4 0 162)) (.s (.r (ra 4 5 0 (ra 1 11 1 (ra 1 14 0 (.alt 0 .u (.alt 1 .u (.alt 2 .u (.alt 3 .u (.alt 4 .u (ra 2 9 3 (ra 2 12 3 (rz 5 15 546))) (ra 2 9 3 (.alt 4 .u (ra 2 12 3 (rz 5 15 546)) (ra 2 12 3 (.alt 4 .u (rz 5 15 546) (ra 1 15 2 (ra 1 4 3 (rz 4 16 136)))))))) (.alt 4 .u (.alt 3 .u (ra 2 9 3 (ra 2 12 3 (rz 5 15 546))) (ra 2 9 3 (.alt 3 .u (ra 2 12 3 (rz 5 15 546)) (ra 2 12 3 (.alt 3 .u (rz 5 15 546) (ra 1 15 2 (ra 1 3 3 (rz 4 16 136)))))))) (ra 2 9 3 (.alt 3 .u (.alt 4 .u (ra 2 12 3 (rz 5 15 546)) (ra 2 12 3 (.alt 4 .u (rz 5 15 546) (ra 1 15 2 (ra 1 4 3 (rz 4 16 136)))))) (.alt 4 .u (.alt 3 .u (ra 2 12 3 (rz 5 15 546)) (ra 2 12 3 (.alt 3 .u (rz 5 15 546) (ra 1 15 2 (ra 1 3 3 (rz 4 16 136)))))) (ra 2 12 3 (.alt 3 .u (.alt 4 .u (rz 5 15 546) (ra 1 15 2 (ra 1 4 3 (rz 4 16 136)))) (.alt 4 .u (.alt 3 .u (rz 5 15 546) (ra 1 15 2 (ra 1 3 3 (rz 4 16 136)))) (ra 1 15 2 (.alt 3 .u (ra 1 4 3 (rz 4 16 136)) (ra 1 4 3 (ra 1 3 3 (rz 4 16 136))))))))))))) (ra 1 4 3 (ra 1 2 3 (.alt 3 .u (ra 2 9 3 (ra 2 12 3 (rz 5 15 546))) (ra 2 9 3 (.alt 3 .u (ra 2 12 3 (rz 5 15 546)) (ra 2 12 3 (.alt 3 .u (rz 5 15 546) (ra 1 15 2 (ra 1 3 3 (rz 4 16 136))))))))))) (ra 1 4 3 (ra 2 1 15 (.alt 3 .u (ra 2 9 3 (ra 2 12 3 (rz 5 15 546))) (ra 2 9 3 (.alt 3 .u (ra 2 12 3 (rz 5 15 546)) (ra 2 12 3 (.alt 3 .u (rz 5 15 546) (ra 1 15 2 (ra 1 3 3 (rz 4 16 136))))))))))) (ra 1 4 3 (ra 3 0 63 (.alt 3 .u (ra 2 9 3 (ra 2 12 3 (rz 5 15 546))) (ra 2 9 3 (.alt 3 .u (ra 2 12 3 (rz 5 15 546)) (ra 2 12 3 (.alt 3 .u (rz 5 15 546) (ra 1 15 2 (ra 1 3 3 (rz 4 16 136))))))))))))))) (.n)))) func24 rfl (by kernel_rfl) (by kernel_rfl) h
def Q3(w:World)(K:VW):Prop:=
 pw w (Instr.alloc 112 true (.tuple #[])) λt0 w1=>
 pp (Instr.build 112 #[(0,(Value.int .u8 1))]) λt1=>so w1 112 t0 t1 λw2=>pq w2 (zh 112 t0) λr3=>K r3 w2
theorem ab7(h:Q3  w K):zc prog xe #[] w K:=
 okC false (.s (.r (rz 1 0 2)) (.s (.r (rz 2 0 8)) (.n))) func51 rfl (by kernel_rfl) (by kernel_rfl) h
def Q4(t0:Value)(w:World)(K:VW):Prop:=
 pw w (Instr.alloc 112 true (.tuple #[])) λt2 w1=>
 ca xe #[] w1 λt4 w2=>
 pw w2 (Instr.buildSlice 70 1 #[(0,t4)]) λt5 w3=>
 pp (Instr.build 112 #[(0,(Value.int .u8 4)),(1,t0),(2,(i6 (-1))),(4,t5)]) λt6=>so w3 112 t2 t6 λw4=>pq w4 (zh 112 t2) λr5=>K r5 w4
theorem ab8(h:Q4 t0 w K):zc prog kt #[t0] w K:=
 okC false (.s (.r (rz 1 0 2)) (.s (.r (rz 5 0 552)) (.n))) func52 rfl (by kernel_rfl) (by kernel_rfl) h
def Q5(t0:Value)(w:World)(K:VW):Prop:=
 pw w (Instr.alloc 61 true (.tuple #[])) λt2 w1=>
 pp (Instr.build 61 #[(0,(Value.int .u8 1)),(1,t0)]) λt4=>so w1 61 t2 t4 λw2=>pq w2 (zh 61 t2) λr3=>K r3 w2
theorem ab9(h:Q5 t0 w K):zc prog zk #[t0] w K:=
 okC false (.s (.r (rz 1 0 2)) (.s (.r (rz 3 0 32)) (.n))) func53 rfl (by kernel_rfl) (by kernel_rfl) h
end
end Go.Proofs.Tryz
namespace Go.Proofs
open Go.Sh Go.RowKit
section
theorem Q6{w:World}{K:Value→World→Prop}(h:∀w',Ext w w'→K agP w'):zc Tryz.prog Tryz.xe #[] w K:=by
 refine Tryz.ab7 ?_
 unfold Tryz.Q3
 have S:StX noX w nothing w []:=St.start (λ_ _ h=>h.elim)
 refine S.al λb0 w1 S=>?_
 refine zw (cs:=Zz.toArray) (by kernel_rfl) ?_
 refine S.stB (b:=b0) λw2 S=>?_
 refine S.ceB (b:=b0) ?_ rfl
 exact h _ S.ext
theorem acA{n:Int}{w:World}{K:Value→World→Prop}(h:∀w',Ext w w'→K (agQ n) w'):zc Tryz.prog Tryz.zk #[.int .i64 n] w K:=by
 refine Tryz.ab9 ?_
 unfold Tryz.Q5
 have S:StX noX w nothing w []:=St.start (λ_ _ h=>h.elim)
 refine S.al λb0 w1 S=>?_
 refine zw (cs:=#[.int .u8 1,.int .i64 n,.int .i64 0,.slice none 0 0]) (by kernel_rfl) ?_
 refine S.stB (b:=b0) λw2 S=>?_
 refine S.ceB (b:=b0) ?_ rfl
 exact h _ S.ext
theorem acB{m:Bool}{w:World}{K:Value→World→Prop}(h:∀q cap sn w',Ext w w'→New w sn w'→TyG sn (tyV (.mk 4 m (-1) 0 [kc]) q cap) (.mk 4 m (-1) 0 [kc])→K (tyV (.mk 4 m (-1) 0 [kc]) q cap) w'):zc Tryz.prog Tryz.kt #[.bool m] w K:=by
 refine Tryz.ab8 ?_
 unfold Tryz.Q4
 have S:StX noX w nothing w []:=St.start (λ_ _ h=>h.elim)
 refine S.al λb2 w1 S=>?_
 refine Q6 λw2 e2=>?_
 have S:=S.go e2
 refine S.lit (e:=112) (cs:=Zz) (by kernel_rfl) λb5 w3 S=>?_
 refine zw (cs:=#[.int .u8 4,.bool m,.int .i64 (-1),.int .i64 0,.slice (some ⟨b5,0,none⟩) 1 1]) (by kernel_rfl) ?_
 refine S.stB (b:=b2) λw4 S=>?_
 refine S.ceB (b:=b2) ?_ rfl
 obtain⟨S,_,ha⟩:=S.litNew b5 (sz:=5) (R:=TyC nothing) (l:=[kc]) (by exact(kQ (c:=Zz) rfl (show TyC nothing Zz kc from Zw))) (by decide)
 exact h (some ⟨b5,0,none⟩) 1 (nothing.or (Go.Sh.one b5 Zz 112)) _ S.ext (S.newOf (Above.no.or' ha)) (ad3 (u:=kc) (v:=agP) Zw)
theorem aca{u:UnD}{v:Value}{w:World}{r:Gh}{K:Value→World→Prop}(hr:Holds r w)(hu:UnG r v u)(h:∀(b:Bool) w',Ext w w'→K (.bool b) w'):zc Tryz.prog Tryz.Zn #[v] w K:=by
 refine Tryz.aaZ ?_
 unfold Tryz.Qf
 obtain⟨p0,cap0,vf,rfl,_,_,hst,hsl,hfn⟩:=hu
 obtain⟨qf,capf,rfl,_,_⟩:=hfn.sl.shape
 have hfl:u.fs.length≤9223372036854775807:=hfn.few
 have hsl':u.ss.length≤9223372036854775807:=hsl
 have S:=St.start hr
 refine S.box λb1 w1 S=>?_
 have S:StX noX w r w1 [.cell b1 [.slice p0 u.ss.length cap0,.slice qf u.fs.length capf,.int .i64 u.mn] 25]:=S
 refine gg_ ?_
 refine zq (c:=decide (40<(u.fs.length:Int))) (λ_ K2 hK2=>by refine gg_ ?_;exact hK2) ?_
 refine c_b (λ_=>h _ _ S.ext) (λ_=>?_)
 refine zj (ι:=Nat) (λi=>[.int .i64 (i:Nat)]) (λi w'=>i≤u.ss.length∧StX noX w r w' _) (λi=>u.ss.length-i) 0 rfl ⟨gzl _,S⟩ ?_
 clear S
 rintro i d w2 ⟨hi,S⟩ K6 hK6
 rw[gdz]
 refine gg_ ?_
 refine zi (λhlt=>?_) (λhge=>?_)
 ·have hlt:i<u.ss.length:=by omega
  obtain⟨b,off,q,capq,rfl,hcell,_,_,_⟩:=jW hst hlt
  refine gg_ ?_
  refine zg (by rw[tnc];exact S.at hcell) ?_
  refine gg_ ?_
  refine c_b (λ_=>h _ _ S.ext) (λ_=>?_)
  refine gg_ ?_
  rw[show ((i:Int)+1)=((i+1:Nat):Int)by omega]
  exact hK6 (i+1) _ ⟨hlt,S⟩ (by omega)
 refine zj (ι:=Nat×Int) (λi=>[.int .i64 i.2,.int .i64 (i.1:Nat)]) (λi w'=>i.1≤u.fs.length∧StX noX w r w' _) (λi=>u.fs.length-i.1) (0,0) rfl ⟨gzl _,S⟩ ?_
 clear S hK6 K6 hge hi
 rintro⟨i,n⟩ d w3 ⟨hi,S⟩ K7 hK7
 simp only at hi S⊢
 simp only[gdz,gds]
 refine gg_ ?_
 refine zi (λhlt=>?_) (λhge=>h _ _ S.ext)
 have hlt:i<u.fs.length:=by omega
 obtain⟨bf,of,cf,rfl,hcf,hgc,hfo⟩:=hfn.sl.get (by decide) hlt
 generalize u.fs[i]=g at hgc
 obtain⟨vo,vt,vn,vp,rfl,h1,h2,h3,h4⟩:=id hgc
 obtain⟨qt,capt,rfl,_,hct⟩:=h2.sl.shape
 obtain⟨qp,capp,rfl,_,_⟩:=h4.sl.shape
 have S:=S.go (Ext.drew _)
 have l4:Ob r λw=>w.cell? ⟨bf,of+i*7+4,none⟩=some (.slice qt g.tys.length capt):=hfo 4 _ rfl
 have l6:Ob r λw=>w.cell? ⟨bf,of+i*7+6,none⟩=some (.slice qp g.pts.length capp):=hfo 6 _ rfl
 refine gg_ ?_
 refine zg (by rw[tnc];exact S.at l6) ?_
 refine gg_ ?_
 refine zg (by rw[tnc];exact S.at l4) ?_
 refine gp_ ?_
 refine aew λx=>?_
 refine aew λy=>?_
 refine gg_ ?_
 refine zg (by rw[tnc];exact S.at l6) ?_
 refine gg_ ?_
 refine zq (c:=decide (300<(g.tys.length:Int))) (λ_ K2 hK2=>?_) ?_
 ·refine gg_ ?_
  refine zg (by rw[tnc];exact S.at l4) ?_
  refine gg_ ?_
  exact hK2
 refine zq (c:=decide (1200<y)) (λ_ K2 hK2=>by refine gg_ ?_;exact hK2) ?_
 refine c_b (λ_=>h _ _ S.ext) (λ_=>?_)
 refine gg_ ?_
 rw[show ((i:Int)+1)=((i+1:Nat):Int)by omega]
 exact hK7 (i+1,y) _ ⟨hlt,S⟩ (by show u.fs.length-(i+1)<u.fs.length-i;omega)
theorem acb{w:World}{K:Value→World→Prop}(h:∀v s w',Ext w w'→New w s w'→UnG s v zM→K v w'):zc Tryz.prog Tryz.Zo #[] w K:=by
 refine Tryz.aa0 ?_
 unfold Tryz.Qg
 have S:StX noX w nothing w []:=St.start (λ_ _ h=>h.elim)
 refine S.al λb0 w1 S=>?_
 refine S.lit (e:=76) (cs:=[.int .i64 (-1)]) (by kernel_rfl) λb2 w2 S=>?_
 refine zw (cs:=#[.int .i64 2,.slice (some ⟨b2,0,none⟩) 1 1]) (by kernel_rfl) ?_
 refine S.al λb1 w3 S=>?_
 refine S.stB (b:=b1) λw4 S=>?_
 have S:=S.go (Ext.drew _)
 refine zw (cs:=#[.int .i64 2,.slice none 0 0]) (by kernel_rfl) ?_
 refine zw (cs:=#[.int .i64 1,.slice none 0 0]) (by kernel_rfl) ?_
 refine zw (cs:=hl0.toArray) (by kernel_rfl) ?_
 refine zw (cs:=#[.int .i64 1,.slice none 0 0]) (by kernel_rfl) ?_
 refine S.ldB (b:=b1) ?_ rfl
 refine zw (cs:=hl3.toArray) (by kernel_rfl) ?_
 have S:=S.drop b1
 have fin:∀{w9:World}{b7 b8 b19 b21:Nat}{q6:Option Addr}{c6:Nat}{sn:Gh}{M M1 M2 M3 M4 M5:List Asr}(S:StX noX w (nothing.or sn) w9 M)
   [jH b7 M (Zz++(Zz++tyL XZ q6 c6)) 112 M1] [jH b8 M1 [.string ByteArray.empty,.string ByteArray.empty,.string ByteArray.empty] 9 M2] [jH b2 M2 [.int .i64 (-1)] 76 M3]
   [jH b19 M3 (hl0++(hl1++(hl2 b2++hl3))) 94 M4] [jH b21 M4 [.string ByteArray.empty,.int .i64 0,.slice none 0 0,.int .i64 0,.slice (some ⟨b7,0,none⟩) 3 3,.slice (some ⟨b8,0,none⟩) 3 3,.slice (some ⟨b19,0,none⟩) 4 4] 74 M5],
   Above w sn→TyG sn (tyV XZ q6 c6) XZ→K (.agg #[.slice none 0 0,.slice (some ⟨b21,0,none⟩) 1 1,.int .i64 0]) w9:=by
  intro w9 b7 b8 b19 b21 q6 c6 sn M M1 M2 M3 M4 M5 S _ _ _ _ _ ha ht
  obtain⟨S,h7,a7⟩:=S.litNew b7 (sz:=5) (R:=TyC sn) (l:=[kc,kc,XZ]) (by exact(xd rfl Zw (xd rfl Zw (kQ rfl ht)))) (by decide)
  obtain⟨S,h8,a8⟩:=S.litNew b8 (sz:=1) (R:=afb) (l:=[ByteArray.empty,ByteArray.empty,ByteArray.empty]) (by exact(xd (c:=[.string ByteArray.empty]) rfl rfl (xd (c:=[.string ByteArray.empty]) rfl rfl (kQ rfl rfl)))) (by decide)
  obtain⟨S,h2,a2⟩:=S.litNew b2 (sz:=1) (R:=yI) (l:=[-1]) (by exact(kQ rfl ⟨rfl,by unfold YX;omega⟩)) (by decide)
  have hz:∀{r:Gh}{α:Type}{sz:Nat}{R:List Value→α→Prop},SlB sz r R (.slice none 0 0) ([]:List α):=jK
  obtain⟨S,h19,a19⟩:=S.litNew b19 (sz:=21) (R:=PtG (Go.Sh.one b2 [.int .i64 (-1)] 76)) (l:=[hp0,hp1,hp2,hp3])
   (by exact(xd rfl ⟨_,_,_,_,_,rfl,hz,hz,hz,hz,hz⟩ (xd rfl ⟨_,_,_,_,_,rfl,hz,hz,hz,hz,hz⟩ (xd rfl ⟨_,_,_,_,_,rfl,Zb h2,hz,hz,hz,hz⟩ (kQ rfl ⟨_,_,_,_,_,rfl,hz,hz,hz,hz,hz⟩))))) (by decide)
  obtain⟨S,h21,a21⟩:=S.litNew b21 (sz:=7) (R:=GrG (((((nothing.or sn).or (Go.Sh.one b7 (Zz++(Zz++tyL XZ q6 c6)) 112)).or (Go.Sh.one b8 [.string ByteArray.empty,.string ByteArray.empty,.string ByteArray.empty] 9)).or (Go.Sh.one b2 [.int .i64 (-1)] 76)).or (Go.Sh.one b19 (hl0++(hl1++(hl2 b2++hl3))) 94))) (l:=[zG])
   (by exact(kQ rfl ⟨_,_,_,_,rfl,hz,Zb (h7.up' inferInstance λc x hx=>TyG.up hx),Zb h8.cells,Zb (h19.up' inferInstance λc x hx=>PtG.up hx)⟩)) (by decide)
  exact h _ _ _ S.ext (S.newOf (((((Above.no.or' ha).or' a7).or' a8).or' a2).or' a19 |>.or' a21)) ⟨none,0,_,rfl,λ_=>rfl,gzl _,trivial,gzl _,Zb (h21.up' inferInstance λc x hx=>GrG.up hx)⟩
 repeat' (first
  |(with_reducible refine Q6 λw9 e9=>⟨e9,?_⟩;have S:=S.go e9)
  |(with_reducible refine acA λw9 e9=>⟨e9,?_⟩;have S:=S.go e9)
  |(with_reducible refine acB λq6 c6 sn w9 e9 n9 t9=>⟨e9,?_⟩;obtain⟨S,d9,a9⟩:=S.tell e9 n9)
  |(with_reducible refine S.litU (t:=70) (e:=112) (cs:=Zz++(Zz++tyL XZ q6 c6)) (by kernel_rfl) λb7 w9 S=>?_)
  |(with_reducible refine S.mkSU (by decide) (by decide) λb8 w9 S=>?_)
  |(with_reducible refine zw (t:=94) (parts:=#[(0,.int .u8 1),(1,.agg #[.int .i64 1,.slice none 0 0]),(2,agQ 2),(10,.int .i64 2)]) (cs:=hl1.toArray) (by kernel_rfl) ?_)
  |(with_reducible refine zw (t:=94) (cs:=(hl2 b2).toArray) (by kernel_rfl) ?_)
  |(with_reducible refine S.lit (t:=72) (e:=94) (cs:=hl0++(hl1++(hl2 b2++hl3))) (by kernel_rfl) λb19 w9 S=>?_)
  |(with_reducible refine zw (t:=74) (cs:=#[.string ByteArray.empty,.int .i64 0,.slice none 0 0,.int .i64 0,.slice (some ⟨b7,0,none⟩) 3 3,.slice (some ⟨b8,0,none⟩) 3 3,.slice (some ⟨b19,0,none⟩) 4 4]) (by kernel_rfl) ?_)
  |(with_reducible refine S.lit (t:=23) (e:=74) (cs:=[.string ByteArray.empty,.int .i64 0,.slice none 0 0,.int .i64 0,.slice (some ⟨b7,0,none⟩) 3 3,.slice (some ⟨b8,0,none⟩) 3 3,.slice (some ⟨b19,0,none⟩) 4 4]) (by kernel_rfl) λb21 w9 S=>?_)
  |(with_reducible refine zw (t:=25) (cs:=#[.slice none 0 0,.slice (some ⟨b21,0,none⟩) 1 1,.int .i64 0]) (by kernel_rfl) ?_)
  |(with_reducible refine And.intro ?_ ?_)
  |(refine S.stB (b:=b0) λw9 S=>?_;refine S.ceB (b:=b0) ?_ rfl;exact fin (b7:=b7) (b8:=b8) (b19:=b19) (b21:=b21) S a9 t9)
)
theorem Vq:FnM zM 0 zG:=fnM (abI (q:=3) (by decide)) rfl
theorem Vr:heldW zM.ss zG.tys ⟨2,[-1]⟩=plD 2:=by
 have hw:zL zM.ss [-1] zG.tys[(2:Nat)]=some (kc,[2]):=by kernel_rfl
 have :zN zM.ss zG.tys ⟨2,[-1]⟩=some (kc,[2]):=by
  rw[Y9 (p:=⟨2,[-1]⟩) Vq.may.ok Vq.fine (by decide) (by decide)]
  exact hw
 unfold heldW
 rw[this];rfl
theorem aeS{n:Int}:heldW zM.ss zG.tys (plD n)=plD n:=Z1 rfl
abbrev P3:List PlD:=[plD 0,plD 1,plD 2]
theorem xv:zf zM zG=P3:=by
 have e:locsL zG.tys.length++zG.pts.flatMap xF=[plD 0,plD 1,plD 2,plD 1,plD 2,plD 1,⟨2,[-1]⟩]:=by kernel_rfl
 rw[zf,e,addL]
 simp only[List.flatMap_cons,List.flatMap_nil,aeS,Vr]
 rfl
theorem Qh{q:Int}(h:q<4):ofE zM 0 q=0:=by
 rw[ofE,abI h,if_neg (by decide)]
 show(if 256<(zf zM zG).length then(5:Int)else 0)=0
 rw[xv];decide
theorem Vs{q:Int}(h0:0≤q)(h:q<4):mvE zM 0 q=0:=by rw[mvE,if_neg (by omega),Qh h]
theorem ag8:wholeP zM zG (plD 1)=true:=by rw[wholeP,aeS];simp
theorem ag9:wholeP zM zG ⟨2,[-1]⟩=false:=by rw[wholeP,Vr];rfl
theorem aha:risI 3 (zQ zM zG P3 hp1).1=[]:=by
 rw[qZ (g:=zy) λi hi=>by
  rw[kZ.1,show j3 hp1=[]from by kernel_rfl,List.any_nil,Bool.and_false];rfl]
 rfl
theorem acd{i:Nat}:(zQ zM zG P3 hp1).2 i=prefP (plD 1) (pthAt P3 i):=by
 rw[kZ.2,Za,show hp1.to=plD 1 from rfl,ag8];rfl
theorem ahb:risI 3 (zQ zM zG P3 hp1).2=[1]:=by
 rw[qZ λi _=>acd];kernel_rfl
theorem ace:aa7 hp2=[(⟨2,[-1]⟩,true,false)]:=by kernel_rfl
theorem ahc:risI 3 (kF zM zG P3 hp2).all=[2]:=by
 rw[qZ (g:=λi=>prefP (pthAt P3 i) (plD 2)) λi _=>by
  rw[afB,ace,List.any_cons,List.any_nil,Bool.or_false]
  show useF zM zG P3 ⟨2,[-1]⟩ true i=_
  rw[useF,ag9,Vr];simp]
 kernel_rfl
theorem ahd:risI 3 (kF zM zG P3 hp2).again=[]:=by
 rw[qZ (g:=zy) λi _=>by
  rw[kF,ace]
  show(zy i||(useF zM zG P3 ⟨2,[-1]⟩ true i&&zy i))=_
  simp[zy]]
 rfl
theorem ahI:risI 3 (V7 zM zG P3 hp1 (vD [0,1]))=[0]:=by
 rw[qZ (g:=λi=>vD [0,1] i && !prefP (plD 1) (pthAt P3 i)) λi _=>by
  rw[V7,acd,kZ.1,show j3 hp1=[]from by kernel_rfl,List.any_nil,Bool.and_false,Bool.or_false]]
 kernel_rfl
theorem afE:Vn zM zG ⟨2,[-1]⟩=some 2:=by
 have hw:zL zM.ss [-1] zG.tys[(2:Nat)]=some (kc,[2]):=by kernel_rfl
 have :zN zM.ss zG.tys ⟨2,[-1]⟩=some (kc,[2]):=by
  rw[Y9 (p:=⟨2,[-1]⟩) Vq.may.ok Vq.fine (by decide) (by decide)]
  exact hw
 have ha:jQ P3:=by rw[← xv];exact ac1
 rw[Vn,this,if_pos (show(some (kc,[(2:Int)])).isSome=true from rfl),Vr,xv]
 exact aaE (i:=2) ha (by decide) rfl
theorem vE{w:World}{r:Gh}{K:Value→World→Prop}(hr:Holds r w)(h:∀w',Ext w w'→K (.bool true) w'):zc Tryz.prog Tryz.y8 #[] w K:=by
 refine Tryz.V8 ?_
 unfold Tryz.Xs
 have S:=St.start hr
 refine acb λv2 s2 w2 e2 n2 hu=>?_
 obtain⟨S,_,_⟩:=S.tell e2 n2
 refine S.al λb1 w3 S=>?_
 obtain⟨p0,cap0,vf,rfl,_,_,_,_,hfn⟩:=id hu
 obtain⟨qf,capf,rfl,_,_⟩:=hfn.sl.shape
 refine S.stB (b:=b1) λw4 S=>?_
 have S:StX noX w (r.or s2) w4 [.cell b1 [.slice p0 0 cap0,.slice qf 1 capf,.int .i64 0] 25]:=S
 have hu:UnG (r.or s2) (.agg #[.slice p0 0 cap0,.slice qf 1 capf,.int .i64 0]) zM:=UnG.up hu
 generalize r.or s2=ρ at S hu
 have hF:∀g,FnM zM 0 g→g=zG:=λg F=>Option.some.inj (F.at'.symm.trans rfl)
 refine S.ldB (b:=b1) ?_ rfl
 refine ab5 S.holds hu (λe _ he hh=>absurd (hh.symm.trans (Qh (by decide))) he) λg v3 s3 w3' _ F _ e3 n3 h3=>?_
 obtain rfl:=hF g F
 rw[xv]at h3
 obtain⟨q3,c3,rfl,_,_⟩:=h3.shape
 obtain⟨S,_,_⟩:=S.tell e3 n3
 refine gp_ ?_
 refine gp_ ?_
 refine S.ldB (b:=b1) ?_ rfl
 refine S.lit (e:=76) (cs:=[.int .i64 (-1)]) (by kernel_rfl) λb2 w5 S=>?_
 obtain⟨S,h2,_⟩:=StX.litNew S b2 (sz:=1) (R:=yI) (l:=[-1]) (by exact(kQ rfl ⟨rfl,by unfold YX;omega⟩)) (by decide)
 refine zw (cs:=#[.int .i64 2,.slice (some ⟨b2,0,none⟩) 1 1]) (by kernel_rfl) ?_
 have hpl:PlG ((ρ.or s3).or (Go.Sh.one b2 [.int .i64 (-1)] 76)) [.int .i64 2,.slice (some ⟨b2,0,none⟩) 1 1] ⟨2,[-1]⟩:=PlG.up (r:=Go.Sh.one b2 [.int .i64 (-1)] 76) ⟨_,rfl,(Zb h2 (by decide):SlB 1 (Go.Sh.one b2 [.int .i64 (-1)] 76) yI (.slice (some ⟨b2,0,none⟩) 1 1) [-1])⟩
 have hu:UnG ((ρ.or s3).or (Go.Sh.one b2 [.int .i64 (-1)] 76)) (.agg #[.slice p0 0 cap0,.slice qf 1 capf,.int .i64 0]) zM:=UnG.up hu
 generalize (ρ.or s3).or (Go.Sh.one b2 [.int .i64 (-1)] 76)=κ at S hpl hu
 refine acx S.holds hu hpl (by decide) (λe _ he hh=>absurd (hh.symm.trans (Qh (by decide))) he) λg w6 _ F _ e6=>?_
 obtain rfl:=hF g F
 have S:=S.go e6
 rw[afE]
 refine gp_ ?_
 refine gp_ ?_
 refine S.ldB (b:=b1) ?_ rfl
 refine ZF S.holds hu (λe _ he hh=>hh.elim (λhh=>absurd (hh.symm.trans (Qh (by decide))) he) λhh=>by
  have:=hh.2 zG Vq
  rw[xv]at this
  have h3:P3.length=3:=rfl
  rw[h3]at this
  omega) λg v7 s7 w7 _ F _ _ e7 n7 h7=>?_
 obtain rfl:=hF g F
 rw[xv,show risI P3.length (yq P3 (pthAt P3 (1:Int).toNat) true zy)=[1]from by kernel_rfl]at h7
 obtain⟨q7,c7,rfl,_,_⟩:=h7.shape
 obtain⟨S,_,_⟩:=S.tell e7 n7
 refine gp_ ?_
 refine gp_ ?_
 refine S.ldB (b:=b1) ?_ rfl
 refine ab3 S.holds (UnG.up hu) (λe _ he hh=>absurd (hh.symm.trans (Qh (by decide))) he) λg v8 s8 w8 _ F e8 n8 h8=>?_
 obtain rfl:=hF g F
 rw[xv,show risI P3.length (stF P3 (stM zG zG.tys.length))=[0,1,2]from by kernel_rfl]at h8
 obtain⟨q8,c8,rfl,_,_⟩:=h8.shape
 obtain⟨S,_,_⟩:=S.tell e8 n8
 refine gp_ ?_
 refine gp_ ?_
 refine S.ldB (b:=b1) ?_ rfl
 refine Q2 S.holds (UnG.up (UnG.up (s:=κ.or s7) hu)) (λe _ he hh=>absurd (hh.symm.trans (Vs (by decide) (by decide))) he) λg v9 v10 s9 w9 _ F _ hq _ e9 n9 h9 h10=>?_
 obtain rfl:=hF g F
 have e1:zG.pts[(1:Int).toNat]=hp1:=rfl
 rw[xv,e1]at h9 h10
 rw[show P3.length=3 from rfl]at h9 h10
 rw[aha]at h9
 rw[ahb]at h10
 obtain⟨q9,c9,rfl,_,_⟩:=h9.shape
 obtain⟨q10,c10,rfl,_,_⟩:=h10.shape
 obtain⟨S,_,_⟩:=S.tell e9 n9
 refine gp_ ?_
 refine gp_ ?_
 refine gp_ ?_
 refine S.ldB (b:=b1) ?_ rfl
 have hu:UnG (((κ.or s7).or s8).or s9) (.agg #[.slice p0 0 cap0,.slice qf 1 capf,.int .i64 0]) zM:=UnG.up (UnG.up (s:=(κ.or s7).or s8) (UnG.up (s:=κ.or s7) hu))
 refine acw S.holds hu (λe _ he hh=>absurd (hh.symm.trans (Vs (by decide) (by decide))) he) λg v11 s11 w11 _ F _ hq _ e11 n11 h11=>?_
 obtain rfl:=hF g F
 have e2:zG.pts[(2:Int).toNat]=hp2:=rfl
 rw[xv,e2]at h11
 rw[show P3.length=3 from rfl,ahc]at h11
 obtain⟨q11,c11,rfl,_,_⟩:=h11.shape
 obtain⟨S,_,_⟩:=S.tell e11 n11
 refine gp_ ?_
 refine gp_ ?_
 refine S.ldB (b:=b1) ?_ rfl
 refine ab4 S.holds (UnG.up hu) (λe _ he hh=>absurd (hh.symm.trans (Vs (by decide) (by decide))) he) λg w12 _ F _ hq _ e12=>?_
 obtain rfl:=hF g F
 rw[xv,e2,show P3.length=3 from rfl,Vl,ahd]
 have S:=S.go e12
 refine gp_ ?_
 refine gp_ ?_
 refine gp_ ?_
 refine S.ldB (b:=b1) ?_ rfl
 refine S.lit (e:=3) (cs:=[.int .i64 0,.int .i64 1]) (by kernel_rfl) λb13 w13 S=>?_
 obtain⟨S,h13,_⟩:=StX.litNew S b13 (sz:=1) (R:=ye) (l:=[0,1]) (by exact qw (l:=[0,1])) (by decide)
 refine Xr S.holds (UnG.up (UnG.up (s:=(((κ.or s7).or s8).or s9).or s11) hu)) (h13.up' inferInstance λ_ _ h=>h) (by decide) (λe _ he hh=>absurd (hh.symm.trans (Vs (by decide) (by decide))) he) (λg w' _ F hbad=>?_) λg v14 s14 w14 _ F _ hq _ _ e14 n14 h14=>?_
 ·obtain rfl:=hF g F
  rw[xv]at hbad
  exact absurd ⟨by decide,by decide⟩ hbad
 obtain rfl:=hF g F
 rw[xv,e1]at h14
 rw[show P3.length=3 from rfl,ahI]at h14
 obtain⟨q14,c14,rfl,_,_⟩:=h14.shape
 obtain⟨S,_,_⟩:=S.tell e14 n14
 refine gp_ ?_
 refine gp_ ?_
 refine gp_ ?_
 iterate 11 refine zn (c:=true) (λ_ K2 hK2=>by refine gg_ ?_;exact hK2) ?_
 refine zn (c:=true) (λ_ K2 hK2=>?_) ?_
 ·obtain⟨bo,oo,hE,_,hc⟩:=yg h11 (i:=0) (by decide)
  cases hE
  refine s_c (by decide) ?_
  refine zg (S.at hc) ?_
  refine gg_ ?_
  exact hK2
 iterate 4 refine zn (c:=true) (λ_ K2 hK2=>by refine gg_ ?_;exact hK2) ?_
 refine zn (c:=true) (λ_ K2 hK2=>?_) ?_
 ·obtain⟨bo,oo,hE,_,hc⟩:=yg h14 (i:=0) (by decide)
  cases hE
  refine s_c (by decide) ?_
  refine zg (S.at hc) ?_
  refine gg_ ?_
  exact hK2
 refine zn (c:=true) (λ_ K2 hK2=>by refine gg_ ?_;exact hK2) ?_
 exact h _ S.ext
theorem yS{l:List Int}{x:Int}{v:Value}{w:World}{r:Gh}{K:Value→World→Prop}(hr:Holds r w)(hl:SlG 1 r ye v l)(hf:l.length≤1000000)
  (h:K (.bool (decide (x∈l))) w):zc Tryz.prog Tryz.yj #[v,.int .i64 x] w K:=by
 refine Tryz.acz ?_
 unfold Tryz.Vo
 obtain⟨p,cap,rfl,_,_⟩:=hl.shape
 refine zj (ι:=Nat) (λi=>[.int .i64 (i:Nat)]) (λi w'=>w'=w∧i≤l.length∧x∉l.take i) (λi=>l.length-i) 0 rfl ⟨rfl,gzl _,by simp⟩ ?_
 rintro i d w' ⟨rfl,hi,hn⟩ K1 hK1
 simp only[gdz]
 refine gg_ ?_
 refine zi (λhlt=>?_) (λhge=>?_)
 ·have hlt:i<l.length:=by omega
  obtain⟨b,off,rfl,_,hc⟩:=yg hl hlt
  refine gg_ ?_
  refine zg (by rw[tnc];exact hc _ hr) ?_
  refine gg_ ?_
  refine zi (λhe=>?_) (λhe=>?_)
  ·rw[gde (by rw[← he];exact gem hlt)]at h
   exact h
  ·refine gg_ ?_
   refine hK1 (i+1) _ ⟨rfl,hlt,?_⟩ (by omega)
   rw[List.take_succ_eq_append_getElem hlt,List.mem_append,List.mem_singleton]
   exactλh=>h.elim hn λe=>he e.symm
 ·have :i=l.length:=by omega
  subst this
  rw[List.take_length]at hn
  rw[decide_eq_false hn]at h
  exact h
section
variable {u:UnD} {fn q:Int} {g:GrD}
theorem ahe(h:mvE u fn q=0):isU u fn q=true∧ofE u fn q=0:=by
 rw[mvE]at h
 split at h
 ·cases h
 ·refine⟨?_,h⟩
  cases hb:isU u fn q with
  |true=>rfl
  |false=>rw [ofE,hb,if_pos rfl]at h;cases h
theorem ahf(h:mvE u fn q=0):ofE u fn (-1)=0:=by
 obtain⟨h2,h3⟩:=ahe h
 have hi:isU u fn (-1)=true:=by
  obtain⟨_,_,hlt,_,_⟩:=Y2 h2
  simp only[isU,gba,gdt]at h2⊢
  refine⟨h2.1,h2.2.1,?_⟩
  rw[gqg hlt]
  show(-1:Int)<((u.fs[fn.toNat].pts.length:Nat):Int)
  omega
 rw[ofE,h2,if_neg (by decide)]at h3
 rw[ofE,hi,if_neg (by decide)]
 exact h3
end
def mrg:List Int→List Int→List Int
 |[],b=>b
 |x::a,[]=>x::mrg a []
 |x::a,y::b=>if y<x then y::mrg (x::a) b else if x=y then x::mrg a b else x::mrg a (y::b)
 termination_by a b=>a.length+b.length
theorem xw:∀{a b:List Int}{z:Int},z∈mrg a b↔z∈a∨z∈b
 |[],b,z=>by simp[mrg]
 |x::a,[],z=>by
  rw[mrg,List.mem_cons,xw,List.mem_cons]
  exact⟨λh=>h.elim (λh=>.inl (.inl h)) λh=>h.elim (λh=>.inl (.inr h)) .inr,λh=>h.elim (λh=>h.elim .inl λh=>.inr (.inl h)) λh=>.inr (.inr h)⟩
 |x::a,y::b,z=>by
  rw[mrg]
  split
  ·rw[List.mem_cons,xw,List.mem_cons,List.mem_cons]
   exact⟨λh=>h.elim (λh=>.inr (.inl h)) λh=>h.elim .inl λh=>.inr (.inr h),λh=>h.elim (λh=>.inr (.inl h)) λh=>h.elim .inl λh=>.inr (.inr h)⟩
  ·split
   ·rename_i h
    subst h
    rw[List.mem_cons,xw,List.mem_cons,List.mem_cons]
    exact⟨λh=>h.elim (λh=>.inl (.inl h)) λh=>h.elim (λh=>.inl (.inr h)) λh=>.inr (.inr h),λh=>h.elim (λh=>h.elim .inl λh=>.inr (.inl h)) λh=>h.elim .inl λh=>.inr (.inr h)⟩
   ·rw[List.mem_cons,xw,List.mem_cons,List.mem_cons]
    exact⟨λh=>h.elim (λh=>.inl (.inl h)) λh=>h.elim (λh=>.inl (.inr h)) .inr,λh=>h.elim (λh=>h.elim .inl λh=>.inr (.inl h)) λh=>.inr (.inr h)⟩
 termination_by a b=>a.length+b.length
theorem YP:∀{a b:List Int},a.Pairwise (· < ·)→b.Pairwise (· < ·)→(mrg a b).Pairwise (· < ·)
 |[],b,_,hb=>by rw[mrg];exact hb
 |x::a,[],ha,hb=>by
  obtain⟨h1,h2⟩:=List.pairwise_cons.1 ha
  rw[mrg]
  refine List.pairwise_cons.2 ⟨λz hz=>?_,YP h2 hb⟩
  rcases xw.1 hz with hz|hz
  ·exact h1 z hz
  ·cases hz
 |x::a,y::b,ha,hb=>by
  obtain⟨h1,h2⟩:=List.pairwise_cons.1 ha
  obtain⟨k1,k2⟩:=List.pairwise_cons.1 hb
  rw[mrg]
  split
  ·rename_i hl
   refine List.pairwise_cons.2 ⟨λz hz=>?_,YP ha k2⟩
   rcases xw.1 hz with hz|hz
   ·rcases List.mem_cons.1 hz with rfl|hz
    ·exact hl
    ·have:=h1 z hz;omega
   ·exact k1 z hz
  ·split
   ·rename_i h
    subst h
    refine List.pairwise_cons.2 ⟨λz hz=>?_,YP h2 k2⟩
    rcases xw.1 hz with hz|hz
    ·exact h1 z hz
    ·exact k1 z hz
   ·rename_i hl hne
    refine List.pairwise_cons.2 ⟨λz hz=>?_,YP h2 hb⟩
    rcases xw.1 hz with hz|hz
    ·exact h1 z hz
    ·rcases List.mem_cons.1 hz with rfl|hz
     ·omega
     ·have:=k1 z hz;omega
 termination_by a b=>a.length+b.length
theorem YQ:∀{a b:List Int},(mrg a b).length≤a.length+b.length
 |[],b=>by simp[mrg]
 |x::a,[]=>by
  have:=YQ (a:=a) (b:=[])
  rw[mrg,List.length_cons,List.length_cons];omega
 |x::a,y::b=>by
  rw[mrg]
  split
  ·have:=YQ (a:=x::a) (b:=b)
   simp only[List.length_cons]at *;omega
  ·split
   ·have:=YQ (a:=a) (b:=b)
    simp only[List.length_cons]at *;omega
   ·have:=YQ (a:=a) (b:=y::b)
    simp only[List.length_cons]at *;omega
 termination_by a b=>a.length+b.length
section
variable {a b:List Int} {va vb:Value} {w0 w:World} {r:Gh} {L:List Asr} {X:Nat→Prop} {K:Value→World→Prop}
theorem V9(S:StX X w0 r w L)(ha:SlG 1 r ye va a)(hb:SlG 1 r ye vb b)(haf:a.length≤1000000)(hbf:b.length≤1000000)
  (h:∀v s w',StX X w0 (r.or s) w' L→Ext w w'→SlG 1 s ye v (mrg a b)→K v w'):zc Tryz.prog Tryz.jF #[va,vb] w K:=by
 refine Tryz.Vp ?_
 unfold Tryz.YO
 have T:=St.start S.holds
 obtain⟨qa,ca,rfl,_,_⟩:=ha.shape
 obtain⟨qb,cb,rfl,_,_⟩:=hb.shape
 have T:=T.ownNil 3 1
 refine zj (ι:=Value×Nat×Nat×List Int) (λi=>[i.1,.int .i64 (i.2.1:Nat),.int .i64 (i.2.2.1:Nat)]) (λi w'=>i.2.1≤a.length∧i.2.2.1≤b.length∧i.2.2.2.length≤i.2.1+i.2.2.1∧i.2.2.2++mrg (a.drop i.2.1) (b.drop i.2.2.1)=mrg a b∧StX noX w r w' [.row i.1 3 1 i.2.2.2.length (ints i.2.2.2)]) (λi=>a.length+b.length-(i.2.1+i.2.2.1)) (.slice none 0 0,0,0,[]) rfl ⟨gzl _,gzl _,by simp,by simp,T⟩ ?_
 clear T
 rintro⟨v,i,k,out⟩ d w4 ⟨hi,hk,ho,he,T⟩ K1 hK1
 simp only at hi hk ho he T⊢
 simp only[gdz,gds]
 have push:∀(x:Int)(i' k':Nat) w',StX noX w r w' [.row v 3 1 out.length (ints out)]→i'≤a.length→k'≤b.length→i+k<i'+k'→(out++[x])++mrg (a.drop i') (b.drop k')=mrg a b→∀Z:Value→World→Prop,(∀v' w'',K1 [v',.int .i64 (i':Nat),.int .i64 (k':Nat)] w''→Z v' w'')→
   Tryz.pw w' (Instr.buildSlice 26 1 #[(0,.int .i64 x)]) λt44 w21=>Tryz.pw w21 (Builtin.append_ #[26,26] 26 #[v,t44]) λt45 w22=>Z t45 w22:=λx i' k' w' T h1 h2 h3 h4 Z hZ=>by
  refine T.lit (e:=3) (cs:=[.int .i64 x]) (by kernel_rfl) λb13 w8 T=>?_
  refine T.ap (v:=v) (m':=1) (Sl.blk (T.blk b13)) (λv14 w9 T=>?_) (by omega)
  have T:=T.drop b13
  refine hZ _ _ (hK1 (v14,i',k',out++[x]) _ ⟨h1,h2,by rw[gla,gls];show out.length+1≤i'+k';omega,h4,?_⟩ (by show a.length+b.length-(i'+k')<a.length+b.length-(i+k);omega))
  show StX noX w r w9 [.row v14 3 1 (out++[x]).length (ints (out++[x]))]
  rw[gla,gls,ints,List.map_append,List.map_singleton]
  exact T
 have takeB:∀(hkl:k<b.length) w',StX noX w r w' [.row v 3 1 out.length (ints out)]→(∀hil:i<a.length,b[k]<a[i])→Tryz.xl w' 26 (.slice qb b.length cb) (.int .i64 (k:Nat)) 3 λt43=>Tryz.pw w' (Instr.buildSlice 26 1 #[(0,t43)]) λt44 w21=>Tryz.pw w21 (Builtin.append_ #[26,26] 26 #[v,t44]) λt45 w22=>Tryz.bt .add 3 (.int .i64 (k:Nat)) (Tryz.i6 1) λt47=>K1 [t45,.int .i64 (i:Nat),t47] w22:=λhkl w' T hlt=>by
  obtain⟨bo,oo,hE,_,hc⟩:=yg hb hkl
  cases hE
  refine gp_ ?_
  refine zg (v:=.int .i64 b[k]) (T.at hc) ?_
  refine push b[k] i (k+1) w' T hi hkl (by omega) ?_ _ λv' w'' hK=>?_
  ·rw[← he,List.append_assoc,List.drop_eq_getElem_cons hkl]
   congr 1
   by_cases hil:i<a.length
   ·rw[List.drop_eq_getElem_cons hil,mrg,if_pos (hlt hil)];rfl
   ·rw[List.drop_eq_nil_of_le (show a.length≤i by omega),mrg,mrg];rfl
  ·refine gp_ ?_
   rw[show ((k:Int)+1)=((k+1:Nat):Int)by omega]
   exact hK
 clear hK1
 by_cases hil:i<a.length
 ·obtain⟨bo,oo,hE,_,hca⟩:=yg ha hil
  cases hE
  have takeA:∀(k':Nat) w',StX noX w r w' [.row v 3 1 out.length (ints out)]→k≤k'→k'≤b.length→mrg (a.drop i) (b.drop k)=a[i]::mrg (a.drop (i+1)) (b.drop k')→Tryz.xl w' 26 (.slice (some ⟨bo,oo,none⟩) a.length ca) (.int .i64 (i:Nat)) 3 λt43=>Tryz.pw w' (Instr.buildSlice 26 1 #[(0,t43)]) λt44 w21=>Tryz.pw w21 (Builtin.append_ #[26,26] 26 #[v,t44]) λt45 w22=>Tryz.bt .add 3 (.int .i64 (i:Nat)) (Tryz.i6 1) λt47=>K1 [t45,t47,.int .i64 (k':Nat)] w22:=λk' w' T hkk hk' hm=>by
   refine gp_ ?_
   refine zg (v:=.int .i64 a[i]) (T.at hca) ?_
   refine push a[i] (i+1) k' w' T hil hk' (by omega) ?_ _ λv' w'' hK=>?_
   ·rw[← he,List.append_assoc,hm];rfl
   ·refine gp_ ?_
    rw[show ((i:Int)+1)=((i+1:Nat):Int)by omega]
    exact hK
  refine gp_ ?_
  refine gp_ ?_
  rw[gde (show((i:Nat):Int)<((a.length:Nat):Int)by omega)]
  (intro K9 hK9;refine gd_ ?_;refine hK9 _ _ λ_=>?_;clear hK9 K9)
  refine gd_ ?_
  refine c_t rfl ?_
  have T:=T.go (Ext.drew _)
  refine gp_ ?_
  refine gp_ ?_
  rw[decide_eq_false (show¬((i:Nat):Int)=((a.length:Nat):Int)by omega)]
  by_cases hkl:k<b.length
  ·obtain⟨bo2,oo2,hE,_,hcb⟩:=yg hb hkl
   cases hE
   intro K9 hK9
   refine gd_ ?_
   rw[gde (show((k:Nat):Int)<((b.length:Nat):Int)by omega)]
   refine hK9 _ _ λ_=>?_
   clear hK9 K9
   intro K9 hK9
   refine gd_ ?_
   refine zg (v:=.int .i64 b[k]) (T.at hcb) ?_
   refine gp_ ?_
   refine zg (v:=.int .i64 a[i]) (T.at hca) ?_
   refine gp_ ?_
   refine hK9 _ _ λ_=>?_
   clear hK9 K9
   (intro K9 hK9;refine gd_ ?_;refine hK9 _ _ λ_=>?_;clear hK9 K9)
   refine gd_ ?_
   refine zi (λhlt=>?_) (λhge=>?_)
   ·exact takeB hkl _ T λ_=>hlt
   ·refine zs (λy w'=>StX noX w r w' [.row v 3 1 out.length (ints out)]∧∃k':Nat,y=[.int .i64 (k':Nat)]∧k≤k'∧k'≤b.length∧mrg (a.drop i) (b.drop k)=a[i]::mrg (a.drop (i+1)) (b.drop k')) (λK23 hK23=>?_) ?_
    ·have T:=T.go (Ext.drew _)
     refine gp_ ?_
     refine gp_ ?_
     rw[gde (show((k:Nat):Int)<((b.length:Nat):Int)by omega)]
     intro K9 hK9
     refine gd_ ?_
     refine zg (v:=.int .i64 a[i]) (T.at hca) ?_
     refine gp_ ?_
     refine zg (v:=.int .i64 b[k]) (T.at hcb) ?_
     refine gp_ ?_
     refine hK9 _ _ λ_=>?_
     clear hK9 K9
     refine gd_ ?_
     refine zi (λheq=>?_) (λhne=>?_)
     ·refine gp_ ?_
      rw[show ((k:Int)+1)=((k+1:Nat):Int)by omega]
      refine hK23 _ _ ⟨T,k+1,rfl,Nat.le_succ k,hkl,?_⟩
      rw[List.drop_eq_getElem_cons hil,List.drop_eq_getElem_cons hkl,mrg,if_neg hge,if_pos heq]
     ·refine hK23 _ _ ⟨T,k,rfl,Nat.le_refl k,hk,?_⟩
      rw[List.drop_eq_getElem_cons hil,List.drop_eq_getElem_cons hkl,mrg,if_neg hge,if_neg hne]
    ·clear T
     rintro _ w9 ⟨T,k',rfl,h1,h2,h3⟩ d9
     rw[gdz]
     exact takeA k' w9 T h1 h2 h3
  ·intro K9 hK9
   refine gd_ ?_
   rw[decide_eq_false (show¬((k:Nat):Int)<((b.length:Nat):Int)by omega)]
   refine hK9 _ _ λ_=>?_
   clear hK9 K9
   (intro K9 hK9;refine gd_ ?_;refine hK9 _ _ λ_=>?_;clear hK9 K9)
   refine gd_ ?_
   (intro K9 hK9;refine gd_ ?_;refine hK9 _ _ λ_=>?_;clear hK9 K9)
   refine gd_ ?_
   refine c_f rfl ?_
   have hkn:b.drop k=[]:=List.drop_eq_nil_of_le (by omega)
   refine zs (λy w'=>StX noX w r w' [.row v 3 1 out.length (ints out)]∧y=[.int .i64 (k:Nat)]) (λK23 hK23=>?_) ?_
   ·have T:=T.go (Ext.drew _)
    refine gp_ ?_
    refine gp_ ?_
    rw[decide_eq_false (show¬((k:Nat):Int)<((b.length:Nat):Int)by omega)]
    (intro K9 hK9;refine gd_ ?_;refine hK9 _ _ λ_=>?_;clear hK9 K9)
    refine gd_ ?_
    refine c_f rfl ?_
    exact hK23 _ _ ⟨T,rfl⟩
   ·clear T
    rintro _ w9 ⟨T,rfl⟩ d9
    rw[gdz]
    exact takeA k w9 T (Nat.le_refl k) hk (by rw[hkn,List.drop_eq_getElem_cons hil,mrg])
 ·obtain rfl:i=a.length:=by omega
  refine gp_ ?_
  refine gp_ ?_
  rw[decide_eq_false (show¬((a.length:Nat):Int)<((a.length:Nat):Int)by omega)]
  by_cases hkl:k<b.length
  ·intro K9 hK9
   refine gd_ ?_
   rw[gde (show((k:Nat):Int)<((b.length:Nat):Int)by omega)]
   refine hK9 _ _ λ_=>?_
   clear hK9 K9
   refine gd_ ?_
   refine c_t rfl ?_
   have T:=T.go (Ext.drew _)
   refine gp_ ?_
   refine gp_ ?_
   rw[gde (show((a.length:Nat):Int)=((a.length:Nat):Int)from rfl)]
   (intro K9 hK9;refine gd_ ?_;refine hK9 _ _ λ_=>?_;clear hK9 K9)
   refine gd_ ?_
   (intro K9 hK9;refine gd_ ?_;refine hK9 _ _ λ_=>?_;clear hK9 K9)
   refine gd_ ?_
   (intro K9 hK9;refine gd_ ?_;refine hK9 _ _ λ_=>?_;clear hK9 K9)
   refine gd_ ?_
   refine c_t rfl ?_
   exact takeB hkl _ T λhh=>absurd hh hil
  ·intro K9 hK9
   refine gd_ ?_
   rw[decide_eq_false (show¬((k:Nat):Int)<((b.length:Nat):Int)by omega)]
   refine hK9 _ _ λ_=>?_
   clear hK9 K9
   refine gd_ ?_
   refine c_f rfl ?_
   have hkn:b.drop k=[]:=List.drop_eq_nil_of_le (by omega)
   rw[List.drop_length,hkn,mrg,List.append_nil]at he
   subst he
   obtain⟨s,T,h1,_,h2⟩:=T.doneRow (l:=mrg a b) qw (by decide) rfl
   exact h v s w4 (S.new T.ext (T.newOf λb o ho=>(h2 b o ho).resolve_right id)) T.ext h1
end
noncomputable instance {n:Nat} {l:List Int}:Decidable (OkBh n l):=Classical.propDecidable _
noncomputable def bhE(n:Nat)(l:List Int):Int:=if OkBh n l then 0 else 2
noncomputable def bhL(u:UnD)(g:GrD)(p:PtD)(l:List Int):List Int:=if OkBh (zf u g).length l then risI (zf u g).length (V7 u g (zf u g) p (vD l))else []
theorem Qi{u:UnD}{fn q:Int}{g:GrD}{p:PtD}{v vl:Value}{l:List Int}{w:World}{r:Gh}{K:Value→World→Prop}(hr:Holds r w)(hu:UnG r v u)(hl:SlG 1 r ye vl l)(hlf:l.length≤1000000)(hof:mvE u fn q=0)(F:FnM u fn g)(hq:q.toNat<g.pts.length)(hpe:g.pts[q.toNat]=p)
  (h:∀v1 s w',Ext w w'→New w s w'→SlG 1 s ye v1 (bhL u g p l)→K (.tuple #[v1,.int .i64 (bhE (zf u g).length l)]) w'):zc Tryz.prog Tryz.y7 #[v,.int .i64 fn,.int .i64 q,vl] w K:=by
 have hFg:∀g',FnM u fn g'→g=g':=λg' F'=>Option.some.inj (F.at'.symm.trans F'.at')
 refine Xr hr hu hl hlf (λe _ he hh=>absurd (hh.symm.trans hof) he) (λg' w' _ F' hn e=>?_) λg' v1 s w' _ F' _ hq' _ hok e n h1=>?_
 ·obtain rfl:=hFg g' F'
  have:=h (.slice none 0 0) nothing w' e New.nothing (by rw[bhL,if_neg hn];exact jK.sl)
  rw[bhE,if_neg hn]at this
  exact this
 ·obtain rfl:=hFg g' F'
  have:=h v1 s w' e n (by rw[bhL,if_pos hok,← hpe];exact h1)
  rw[bhE,if_pos hok]at this
  exact this
theorem aeT{n:Nat}{l:List Int}(h:bhE n l=0):OkBh n l:=by
 unfold bhE at h
 split at h
 ·assumption
 ·cases h
theorem aaa{u:UnD}{g:GrD}{p:PtD}{l:List Int}:(bhL u g p l).length≤(zf u g).length:=by
 unfold bhL
 split
 ·exact YL
 ·exact gzl _
theorem ahg{u:UnD}{g:GrD}{ps:List PlD}{p:PtD}{l:List Int}{i:Nat}:V7 u g ps p (vD l) i=((decide ((i:Int)∈l)||(zQ u g ps p).1 i) && !(zQ u g ps p).2 i):=rfl
theorem QG{u:UnD}{fn q:Int}{a b:List Int}{v va vb:Value}{w:World}{r:Gh}{K:Value→World→Prop}(hr:Holds r w)(hu:UnG r v u)(hA:SlG 1 r ye va a)(hB:SlG 1 r ye vb b)(h:∀w',Ext w w'→K (.bool true) w'):zc Tryz.prog Tryz.vI #[v,.int .i64 fn,.int .i64 q,va,vb] w K:=by
 refine Tryz.Qe ?_
 unfold Tryz.vS
 have hu0:=hu
 obtain⟨p0,cap0,vf,rfl,_,_,hst,hsl,hfn⟩:=hu
 obtain⟨qf,capf,rfl,_,_⟩:=hfn.sl.shape
 obtain⟨qa,ca,rfl,_,_⟩:=hA.shape
 obtain⟨qb,cb,rfl,_,_⟩:=hB.shape
 have S:=St.start hr
 refine S.box λb3 w1 S=>?_
 have S:StX noX w r w1 [.cell b3 [.slice p0 u.ss.length cap0,.slice qf u.fs.length capf,.int .i64 u.mn] 25]:=S
 have awk:∀{r':Gh}{w':World}{L:List Asr},StX noX w r' w' L→zc Tryz.prog Tryz.y8 #[] w' λt w''=>K t w'':=λS=>vE S.holds λw'' e=>h _ (S.go e).ext
 refine S.ldB (b:=b3) ?_ rfl
 refine aca S.holds hu0 λy w2 e2=>?_
 have S:=S.go e2
 refine gp_ ?_
 refine zq (c:=decide ((a.length:Int)>600)) (λ_ K2 hK2=>by refine gg_ ?_;exact hK2) ?_
 refine zq (c:=decide ((b.length:Int)>600)) (λ_ K2 hK2=>by refine gg_ ?_;exact hK2) ?_
 refine c_b (λhy=>?_) (λhy=>?_)
 ·exact awk S
 simp only[Bool.or_eq_false_iff,decide_eq_false_iff_not]at hy
 have haf:a.length≤600:=by omega
 have hbf:b.length≤600:=by omega
 clear hy
 refine S.ldB (b:=b3) ?_ rfl
 refine Q2 S.holds hu0 (λe w4 he _ e4=>?_) λg v1 v2 s1 w4 hof F hq0 hq hb e4 n4 hG hH=>?_
 ·have S:=S.go e4
  refine gp_ ?_
  refine gp_ ?_
  refine gp_ ?_
  refine gp_ ?_
  refine c_t (by simp[he]) ?_
  refine gp_ ?_
  refine gp_ ?_
  refine zn (c:=true) (λ_ K2 hK2=>by refine gg_ ?_;exact hK2) ?_
  refine zR (c:=true) (λ_ K5 hK5=>vE S.holds λw9 e9=>hK5 w9 e9) λw9 e9=>?_
  exact h _ (S.go e9).ext
 obtain⟨S,_,a4⟩:=S.tell e4 n4
 have hof1:=ahf hof
 have hFg:∀g',FnM u fn g'→g=g':=λg' F'=>Option.some.inj (F.at'.symm.trans F'.at')
 have hpe:g.pts[q.toNat]=g.pts[q.toNat]:=rfl
 generalize hpe':g.pts[q.toNat]=p at *
 clear hpe
 have hhb:=λi k h hk=>aeN (u:=u) (g:=g) (ps:=zf u g) (p:=p) (i:=i) (k:=k) h hk
 have hhn:=λi h=>agf (u:=u) (g:=g) (ps:=zf u g) (p:=p) (i:=i) h
 have hgb:=λi k h hk=>adI (u:=u) (g:=g) (ps:=zf u g) (p:=p) (i:=i) (k:=k) h hk
 have hbeh:=λl i=>ahg (u:=u) (g:=g) (ps:=zf u g) (p:=p) (l:=l) (i:=i)
 have hmb:∀i k:Nat,yq (zf u g) (pthAt (zf u g) i) true zy k=true→prefP (pthAt (zf u g) i) (pthAt (zf u g) k)=true:=λi k hk=>by
  unfold yq at hk
  split at hk
  ·assumption
  ·cases hk
 have hGl:=YL (n:=(zf u g).length) (f:=(zQ u g (zf u g) p).1)
 have hHl:=YL (n:=(zf u g).length) (f:=(zQ u g (zf u g) p).2)
 have hGm:∀{x:Int},x∈risI (zf u g).length (zQ u g (zf u g) p).1↔∃i:Nat,x=i∧i<(zf u g).length∧(zQ u g (zf u g) p).1 i=true:=qY
 have hHm:∀{x:Int},x∈risI (zf u g).length (zQ u g (zf u g) p).2↔∃i:Nat,x=i∧i<(zf u g).length∧(zQ u g (zf u g) p).2 i=true:=qY
 generalize (zQ u g (zf u g) p).1=fg at *
 generalize (zQ u g (zf u g) p).2=fh at *
 generalize risI (zf u g).length fg=G at *
 generalize risI (zf u g).length fh=H at *
 obtain⟨q1,c1,rfl,_,_⟩:=hG.shape
 obtain⟨q2,c2,rfl,_,_⟩:=hH.shape
 have huS:UnG (r.or s1) (.agg #[.slice p0 u.ss.length cap0,.slice qf u.fs.length capf,.int .i64 u.mn]) u:=UnG.up hu0
 have hG:SlG 1 (r.or s1) ye (.slice q1 G.length c1) G:=hG.up' inferInstance λ_ _ h=>h
 have hH:SlG 1 (r.or s1) ye (.slice q2 H.length c2) H:=hH.up' inferInstance λ_ _ h=>h
 have hA:SlG 1 (r.or s1) ye (.slice qa a.length ca) a:=hA.up' inferInstance λ_ _ h=>h
 have hB:SlG 1 (r.or s1) ye (.slice qb b.length cb) b:=hB.up' inferInstance λ_ _ h=>h
 generalize r.or s1=ρ at S huS hG hH hA hB
 clear n4 e4 e2 a4
 refine gp_ ?_
 refine gp_ ?_
 refine gp_ ?_
 refine gp_ ?_
 refine c_f (by decide) ?_
 refine zj (ι:=Nat) (λi=>[.int .i64 (i:Nat)]) (λi w'=>i≤H.length∧StX noX w ρ w' [.cell b3 [.slice p0 u.ss.length cap0,.slice qf u.fs.length capf,.int .i64 u.mn] 25]) (λi=>H.length-i) 0 rfl ⟨gzl _,S⟩ ?_
 clear S
 rintro i d5 w5 ⟨hi,S⟩ K22 hK22
 rw[gdz]
 refine gp_ ?_
 refine gp_ ?_
 refine zi (λhlt=>?_) (λhge=>?_)
 ·have hlt:i<H.length:=by omega
  obtain⟨bo,oo,hE,_,hc⟩:=yg hH hlt
  cases hE
  obtain⟨n,hn0,hn1,hn2⟩:=hHm.1 (gem hlt)
  have S:=S.go (Ext.drew _)
  refine S.ldB (b:=b3) ?_ rfl
  refine gp_ ?_
  refine zg (v:=.int .i64 H[i]) (S.at hc) ?_
  rw[hn0]at hc⊢
  refine ZF S.holds huS (λe _ he hh=>hh.elim (λhh=>absurd (hh.symm.trans hof1) he) λhh=>by
   have:=hh.2 g F
   omega) λg' v7 s7 w7 _ F' _ _ e7 n7 h7=>?_
  obtain rfl:=hFg g' F'
  obtain⟨S,_,_⟩:=S.tell e7 n7
  rw[tnc]at h7
  have hml:=YL (n:=(zf u g).length) (f:=yq (zf u g) (pthAt (zf u g) n) true zy)
  have hmm:∀x∈risI (zf u g).length (yq (zf u g) (pthAt (zf u g) n) true zy),x∈H:=λx hx=>by
   obtain⟨k,rfl,hk,hkl⟩:=qY.1 hx
   exact hHm.2 ⟨k,rfl,hk,hhb n k hn2 (hmb n k hkl)⟩
  generalize risI (zf u g).length (yq (zf u g) (pthAt (zf u g) n) true zy)=m at *
  obtain⟨q7,c7,rfl,_,_⟩:=h7.shape
  refine gp_ ?_
  refine gp_ ?_
  refine gp_ ?_
  refine zq (c:=false) (λ_ K2 hK2=>?_) ?_
  ·refine gp_ ?_
   refine zg (v:=.int .i64 (n:Nat)) (S.at hc) ?_
   refine yS S.holds (hG.up' inferInstance λ_ _ h=>h) (by omega) ?_
   rw[decide_eq_false (λhh=>by
    obtain⟨k,e,_,hk⟩:=hGm.1 hh
    obtain rfl:n=k:=by omega
    rw[hhn n hn2]at hk;cases hk)]
   exact hK2
  refine c_f (by decide) ?_
  refine zj (ι:=Nat) (λi=>[.int .i64 (i:Nat)]) (λi w'=>i≤m.length∧StX noX w (ρ.or s7) w' [.cell b3 [.slice p0 u.ss.length cap0,.slice qf u.fs.length capf,.int .i64 u.mn] 25]) (λi=>m.length-i) 0 rfl ⟨gzl _,S⟩ ?_
  clear S
  rintro j d8 w8 ⟨hj,S⟩ K32 hK32
  rw[gdz]
  refine gp_ ?_
  refine gp_ ?_
  refine zi (λhlt2=>?_) (λhge2=>?_)
  ·have hlt2:j<m.length:=by omega
   obtain⟨bm,om,hmE,_,hmc⟩:=yg h7 hlt2
   cases hmE
   refine gp_ ?_
   refine zg (v:=.int .i64 m[j]) (S.at hmc) ?_
   refine yS S.holds (hH.up' inferInstance λ_ _ h=>h) (by omega) ?_
   rw[gde (hmm _ (gem hlt2))]
   refine gp_ ?_
   refine c_f rfl ?_
   refine gp_ ?_
   rw[show ((j:Int)+1)=((j+1:Nat):Int)by omega]
   exact hK32 (j+1) _ ⟨hlt2,S⟩ (by omega)
  ·refine gp_ ?_
   rw[show ((i:Int)+1)=((i+1:Nat):Int)by omega]
   exact hK22 (i+1) _ ⟨hlt,S.to ρ⟩ (by omega)
 clear hK22 K22
 refine zj (ι:=Nat) (λi=>[.int .i64 (i:Nat)]) (λi w'=>i≤G.length∧StX noX w ρ w' [.cell b3 [.slice p0 u.ss.length cap0,.slice qf u.fs.length capf,.int .i64 u.mn] 25]) (λi=>G.length-i) 0 rfl ⟨gzl _,S⟩ ?_
 clear S
 rintro i d5 w5 ⟨hi,S⟩ K22 hK22
 rw[gdz]
 refine gp_ ?_
 refine gp_ ?_
 refine zi (λhlt=>?_) (λhge=>?_)
 ·have hlt:i<G.length:=by omega
  obtain⟨bo,oo,hE,_,hc⟩:=yg hG hlt
  cases hE
  obtain⟨n,hn0,hn1,hn2⟩:=hGm.1 (gem hlt)
  have S:=S.go (Ext.drew _)
  refine S.ldB (b:=b3) ?_ rfl
  refine gp_ ?_
  refine zg (v:=.int .i64 G[i]) (S.at hc) ?_
  rw[hn0]
  refine ZF S.holds huS (λe _ he hh=>hh.elim (λhh=>absurd (hh.symm.trans hof1) he) λhh=>by
   have:=hh.2 g F
   omega) λg' v7 s7 w7 _ F' _ _ e7 n7 h7=>?_
  obtain rfl:=hFg g' F'
  obtain⟨S,_,_⟩:=S.tell e7 n7
  rw[tnc]at h7
  have hml:=YL (n:=(zf u g).length) (f:=yq (zf u g) (pthAt (zf u g) n) true zy)
  have hmm:∀x∈risI (zf u g).length (yq (zf u g) (pthAt (zf u g) n) true zy),x∈G∨x∈H:=λx hx=>by
   obtain⟨k,rfl,hk,hkl⟩:=qY.1 hx
   exact(hgb n k hn2 (hmb n k hkl)).imp (λh=>hGm.2 ⟨k,rfl,hk,h⟩) λh=>hHm.2 ⟨k,rfl,hk,h⟩
  generalize risI (zf u g).length (yq (zf u g) (pthAt (zf u g) n) true zy)=m at *
  obtain⟨q7,c7,rfl,_,_⟩:=h7.shape
  refine gp_ ?_
  refine gp_ ?_
  refine gp_ ?_
  refine c_f (by decide) ?_
  refine zj (ι:=Nat) (λi=>[.int .i64 (i:Nat)]) (λi w'=>i≤m.length∧StX noX w (ρ.or s7) w' [.cell b3 [.slice p0 u.ss.length cap0,.slice qf u.fs.length capf,.int .i64 u.mn] 25]) (λi=>m.length-i) 0 rfl ⟨gzl _,S⟩ ?_
  clear S
  rintro j d8 w8 ⟨hj,S⟩ K32 hK32
  rw[gdz]
  refine gp_ ?_
  refine gp_ ?_
  refine zi (λhlt2=>?_) (λhge2=>?_)
  ·have hlt2:j<m.length:=by omega
   obtain⟨bm,om,hmE,_,hmc⟩:=yg h7 hlt2
   cases hmE
   refine gp_ ?_
   refine zg (v:=.int .i64 m[j]) (S.at hmc) ?_
   refine yS S.holds (hG.up' inferInstance λ_ _ h=>h) (by omega) ?_
   refine gp_ ?_
   refine zn (c:=!decide (m[j]∈H)) (λ_ K2 hK2=>?_) ?_
   ·refine gp_ ?_
    refine zg (v:=.int .i64 m[j]) (S.at hmc) ?_
    refine yS S.holds (hH.up' inferInstance λ_ _ h=>h) (by omega) ?_
    refine gp_ ?_
    exact hK2
   refine c_f (by
    have:=hmm _ (gem hlt2)
    simp only[Bool.and_eq_false_iff,Bool.not_eq_false',gdt]
    exact this) ?_
   refine gp_ ?_
   rw[show ((j:Int)+1)=((j+1:Nat):Int)by omega]
   exact hK32 (j+1) _ ⟨hlt2,S⟩ (by omega)
  ·refine gp_ ?_
   rw[show ((i:Int)+1)=((i+1:Nat):Int)by omega]
   exact hK22 (i+1) _ ⟨hlt,S.to ρ⟩ (by omega)
 clear hK22 K22
 refine S.ldB (b:=b3) ?_ rfl
 refine Qi S.holds huS hA (by omega) hof F hq hpe' λv3 s3 w6 e6 n6 hX=>?_
 obtain⟨S,_,_⟩:=S.tell e6 n6
 refine gp_ ?_
 refine gp_ ?_
 refine S.ldB (b:=b3) ?_ rfl
 refine Qi S.holds (UnG.up huS) (hB.up' inferInstance λ_ _ h=>h) (by omega) hof F hq hpe' λv4 s4 w7 e7 n7 hY=>?_
 obtain⟨S,_,_⟩:=S.tell e7 n7
 refine gp_ ?_
 refine gp_ ?_
 refine gp_ ?_
 refine zq (c:=decide (bhE (zf u g).length b≠0)) (λ_ K2 hK2=>by refine gg_ ?_;exact hK2) ?_
 refine c_b (λhbad=>?_) (λhgood=>?_)
 ·exact awk S
 have ha:OkBh (zf u g).length a∧OkBh (zf u g).length b:=by
  rw[Bool.or_eq_false_iff]at hgood
  exact⟨aeT (Decidable.not_not.1 (of_decide_eq_false hgood.1)),aeT (Decidable.not_not.1 (of_decide_eq_false hgood.2))⟩
 clear hgood
 obtain⟨ha,hb'⟩:=ha
 have hz:OkBh (zf u g).length (mrg a b):=⟨λk hk=>(xw.1 hk).elim (ha.low k) (hb'.low k),YP ha.asc hb'.asc⟩
 have hXm:∀{x:Int},x∈bhL u g p a↔∃i:Nat,x=i∧i<(zf u g).length∧((decide ((i:Int)∈a)||fg i) && !fh i)=true:=by
  intro x
  rw[bhL,if_pos ha,qY]
  simp only[hbeh]
 have hYm:∀{x:Int},x∈bhL u g p b↔∃i:Nat,x=i∧i<(zf u g).length∧((decide ((i:Int)∈b)||fg i) && !fh i)=true:=by
  intro x
  rw[bhL,if_pos hb',qY]
  simp only[hbeh]
 have hZm:∀{x:Int},x∈bhL u g p (mrg a b)↔∃i:Nat,x=i∧i<(zf u g).length∧((decide ((i:Int)∈mrg a b)||fg i) && !fh i)=true:=by
  intro x
  rw[bhL,if_pos hz,qY]
  simp only[hbeh]
 have hXl:=aaa (u:=u) (g:=g) (p:=p) (l:=a)
 have hYl:=aaa (u:=u) (g:=g) (p:=p) (l:=b)
 have hZl:=aaa (u:=u) (g:=g) (p:=p) (l:=mrg a b)
 have hml:=YQ (a:=a) (b:=b)
 have hbz:bhE (zf u g).length (mrg a b)=0:=by rw[bhE,if_pos hz]
 have S:=S.go (Ext.drew _)
 refine S.ldB (b:=b3) ?_ rfl
 refine V9 S (hA.up' inferInstance λ_ _ h=>h) (hB.up' inferInstance λ_ _ h=>h) (by omega) (by omega) λv5 s5 w8 S e8 hm=>⟨e8,?_⟩
 refine Qi S.holds (UnG.up (UnG.up (s:=(ρ.or s3).or s4) (UnG.up (s:=ρ.or s3) huS))) (hm.up' inferInstance λ_ _ h=>h) (by omega) hof F hq hpe' λv6 s6 w9 e9 n9 hZ=>?_
 rw[hbz]
 obtain⟨S,_,_⟩:=S.tell e9 n9
 generalize bhL u g p (mrg a b)=Z at *
 generalize bhL u g p a=Xl at *
 generalize bhL u g p b=Yl at *
 obtain⟨q3,c3,rfl,_,_⟩:=hX.shape
 obtain⟨q4,c4,rfl,_,_⟩:=hY.shape
 obtain⟨q6,c6,rfl,_,_⟩:=hZ.shape
 have hX:SlG 1 ((((ρ.or s3).or s4).or s5).or s6) ye (.slice q3 Xl.length c3) Xl:=hX.up' inferInstance λ_ _ h=>h
 have hY:SlG 1 ((((ρ.or s3).or s4).or s5).or s6) ye (.slice q4 Yl.length c4) Yl:=hY.up' inferInstance λ_ _ h=>h
 have hZ:SlG 1 ((((ρ.or s3).or s4).or s5).or s6) ye (.slice q6 Z.length c6) Z:=hZ.up' inferInstance λ_ _ h=>h
 have hA:SlG 1 ((((ρ.or s3).or s4).or s5).or s6) ye (.slice qa a.length ca) a:=hA.up' inferInstance λ_ _ h=>h
 have hG:SlG 1 ((((ρ.or s3).or s4).or s5).or s6) ye (.slice q1 G.length c1) G:=hG.up' inferInstance λ_ _ h=>h
 clear hm hB hH huS n9 e9 e8 n7 e7 n6 e6
 generalize (((ρ.or s3).or s4).or s5).or s6=κ at *
 refine gp_ ?_
 refine gp_ ?_
 refine gp_ ?_
 refine c_f (by decide) ?_
 refine zj (ι:=Nat) (λi=>[.int .i64 (i:Nat),.int .i64 (i:Nat)]) (λi w'=>i≤Z.length∧StX noX w κ w' [.cell b3 [.slice p0 u.ss.length cap0,.slice qf u.fs.length capf,.int .i64 u.mn] 25]) (λi=>Z.length-i) 0 rfl ⟨gzl _,S⟩ ?_
 clear S
 rintro i d5 w5 ⟨hi,S⟩ K22 hK22
 simp only[gdz,gds]
 refine gp_ ?_
 refine gp_ ?_
 refine zi (λhlt=>?_) (λhge=>?_)
 ·have hlt:i<Z.length:=by omega
  obtain⟨bo,oo,hE,_,hc⟩:=yg hZ hlt
  cases hE
  refine gp_ ?_
  refine zg (v:=.int .i64 Z[i]) (S.at hc) ?_
  refine yS S.holds hX (by omega) ?_
  refine gp_ ?_
  refine zn (c:=!decide (Z[i]∈Yl)) (λ_ K2 hK2=>?_) ?_
  ·refine gp_ ?_
   refine zg (v:=.int .i64 Z[i]) (S.at hc) ?_
   refine yS S.holds hY (by omega) ?_
   refine gp_ ?_
   exact hK2
  refine c_f (by
   obtain⟨k,hk0,hk1,hk2⟩:=hZm.1 (gem hlt)
   simp only[gba,Bool.or_eq_true,gdt,xw]at hk2
   simp only[Bool.and_eq_false_iff,Bool.not_eq_false',gdt]
   rcases hk2.1 with(h|h)|h
   ·exact .inl (hXm.2 ⟨k,hk0,hk1,by simp only[gba,Bool.or_eq_true,gdt];exact⟨.inl h,hk2.2⟩⟩)
   ·exact .inr (hYm.2 ⟨k,hk0,hk1,by simp only[gba,Bool.or_eq_true,gdt];exact⟨.inl h,hk2.2⟩⟩)
   ·exact .inl (hXm.2 ⟨k,hk0,hk1,by simp only[gba,Bool.or_eq_true,gdt];exact⟨.inr h,hk2.2⟩⟩)) ?_
  refine gp_ ?_
  refine gp_ ?_
  rw[show ((i:Int)+1)=((i+1:Nat):Int)by omega]
  exact hK22 (i+1) _ ⟨hlt,S⟩ (by omega)
 obtain rfl:i=Z.length:=by omega
 clear hK22 K22
 refine zj (ι:=Nat) (λi=>[.int .i64 (i:Nat)]) (λi w'=>i≤Xl.length∧StX noX w κ w' [.cell b3 [.slice p0 u.ss.length cap0,.slice qf u.fs.length capf,.int .i64 u.mn] 25]) (λi=>Xl.length-i) 0 rfl ⟨gzl _,S⟩ ?_
 clear S
 rintro i d5 w5 ⟨hi,S⟩ K22 hK22
 rw[gdz]
 refine gp_ ?_
 refine gp_ ?_
 refine zi (λhlt=>?_) (λhge=>?_)
 ·have hlt:i<Xl.length:=by omega
  obtain⟨bo,oo,hE,_,hc⟩:=yg hX hlt
  cases hE
  obtain⟨k,hk0,hk1,hk2⟩:=hXm.1 (gem hlt)
  simp only[gba,Bool.or_eq_true,gdt]at hk2
  have hin:Xl[i]∈Z:=hZm.2 ⟨k,hk0,hk1,by simp only[gba,Bool.or_eq_true,gdt,xw];exact⟨hk2.1.imp .inl id,hk2.2⟩⟩
  refine gp_ ?_
  refine zg (v:=.int .i64 Xl[i]) (S.at hc) ?_
  refine yS S.holds hZ (by omega) ?_
  rw[gde hin]
  have fin:K22 [.int .i64 ((i+1:Nat):Int)] w5:=hK22 (i+1) _ ⟨hlt,S⟩ (by omega)
  clear hK22
  refine gp_ ?_
  rw[Bool.not_true]
  intro K9 hK9
  refine gd_ ?_
  refine zg (v:=.int .i64 Xl[i]) (S.at hc) ?_
  refine yS S.holds hA (by omega) ?_
  refine gp_ ?_
  refine hK9 _ _ λ_=>?_
  clear hK9 K9
  by_cases hxa:Xl[i]∈a
  ·rw[gde hxa,Bool.not_true]
   (intro K9 hK9;refine gd_ ?_;refine hK9 _ _ λ_=>?_;clear hK9 K9)
   refine gd_ ?_
   (intro K9 hK9;refine gd_ ?_;refine hK9 _ _ λ_=>?_;clear hK9 K9)
   refine gd_ ?_
   refine c_f rfl ?_
   refine gp_ ?_
   rw[show ((i:Int)+1)=((i+1:Nat):Int)by omega]
   exact fin
  ·have hxg:Xl[i]∈G:=by
    rcases hk2.1 with h|h
    ·rw[← hk0]at h;exact absurd h hxa
    ·exact hGm.2 ⟨k,hk0,hk1,h⟩
   rw[decide_eq_false hxa,Bool.not_false]
   intro K9 hK9
   refine gd_ ?_
   refine zg (v:=.int .i64 Xl[i]) (S.at hc) ?_
   refine yS S.holds hG (by omega) ?_
   rw[gde hxg]
   refine gp_ ?_
   rw[Bool.not_true]
   refine hK9 _ _ λ_=>?_
   clear hK9 K9
   (intro K9 hK9;refine gd_ ?_;refine hK9 _ _ λ_=>?_;clear hK9 K9)
   refine gd_ ?_
   refine c_f rfl ?_
   refine gp_ ?_
   rw[show ((i:Int)+1)=((i+1:Nat):Int)by omega]
   exact fin
 clear hK22 K22
 refine zj (ι:=Nat) (λi=>[.int .i64 (i:Nat)]) (λi w'=>i≤Yl.length∧StX noX w κ w' [.cell b3 [.slice p0 u.ss.length cap0,.slice qf u.fs.length capf,.int .i64 u.mn] 25]) (λi=>Yl.length-i) 0 rfl ⟨gzl _,S⟩ ?_
 clear S
 rintro i d5 w5 ⟨hi,S⟩ K22 hK22
 rw[gdz]
 refine gp_ ?_
 refine gp_ ?_
 refine zi (λhlt=>?_) (λhge=>?_)
 ·have hlt:i<Yl.length:=by omega
  obtain⟨bo,oo,hE,_,hc⟩:=yg hY hlt
  cases hE
  obtain⟨k,hk0,hk1,hk2⟩:=hYm.1 (gem hlt)
  simp only[gba,Bool.or_eq_true,gdt]at hk2
  have hin:Yl[i]∈Z:=hZm.2 ⟨k,hk0,hk1,by simp only[gba,Bool.or_eq_true,gdt,xw];exact⟨hk2.1.imp .inr id,hk2.2⟩⟩
  refine gp_ ?_
  refine zg (v:=.int .i64 Yl[i]) (S.at hc) ?_
  refine yS S.holds hZ (by omega) ?_
  rw[gde hin]
  refine gp_ ?_
  refine c_f rfl ?_
  refine gp_ ?_
  rw[show ((i:Int)+1)=((i+1:Nat):Int)by omega]
  exact hK22 (i+1) _ ⟨hlt,S⟩ (by omega)
 clear hK22 K22
 refine gp_ ?_
 refine gp_ ?_
 refine zR (c:=true) (λ_ K5 hK5=>vE S.holds λw9 e9=>hK5 w9 e9) λw9 e9=>?_
 rw[gde rfl]
 exact h _ (S.go e9).ext
end
end Go.Proofs
