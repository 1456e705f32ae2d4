/-
  Contracts and plain laws that the last text leans on.
-/
import Derived.Test.YthmakcmiggpoeaaGreatDoorQGe
import Derived.Test.YthmakcmiggpoeaaGreatDoorQGd
import Derived.Test.YthmakcmiggpoeaaGreatDoorQGb
set_option maxRecDepth 100000
set_option maxHeartbeats 8000000
set_option linter.unusedVariables false
set_option linter.unusedSimpArgs false
section
namespace Go.Proofs
open Go.Sh Go.RowKit
variable {w:World} {r:Gh} {K:Value→World→Prop} {u:UnD} {a:Int} {v:Value} {l:List CnD} {R:List yr}
theorem af0{g:GrD}{fn:Nat}{p:PtD}(hM:MayU u)(hH:HeadU u fn g)(hp:zV u g p=true)(ha: -1≤a):(yx u (zf u g).tys p a).length≤928:=by
 rw[yx]
 split
 ·have:=Qu (ss:=u.ss) (tys:=(zf u g).tys) (o:=p.a) (t:=yq u.ss (zf u g).tys p.to);omega
 split
 ·have:=Qu (ss:=u.ss) (tys:=(zf u g).tys) (o:=p.a) (t:=(yq u.ss (zf u g).tys p.to).of.headD zB);omega
 split
 ·rename_i ho
  obtain⟨_,_,k3,_⟩:=aeZ (a:=a) hM hH hp ho ha
  have h8:p.fr.ps.length≤8:=by
   unfold zz at k3
   split at k3
   ·simpa using k3
   ·cases k3
  have h1:=qP (both:=false) (t:=.mk 4 p.mu a 0 [yq u.ss (zf u g).tys p.fr]) (u:=yq u.ss (zf u g).tys p.to)
  have h2:=JB (f:=λn=>yq u.ss (zf u g).tys ⟨p.fr.l,p.fr.ps.take n⟩) (a:=a) (n:=p.fr.ps.length)
  rw[List.length_append];omega
 split
 ·rename_i ho
  obtain⟨f,k⟩:=ae0 (a:=a) hM hH hp ho
  rw[k.get]
  dsimp only
  have h1:=Yl (n:=96) (f:=λx:OpD×TyD=>flO u.ss (zf u g).tys x.1 (yk (max a 0) x.2)) (λx=>Qu) (p.args.zip (f.tys.drop 1))
  have h2:=qP (both:=false) (t:=yk (max a 0) (f.tys.headD zB)) (u:=yq u.ss (zf u g).tys p.to)
  have h3:=acq k.head.outs k.head.lv8
  have h4:=k.len
  have h5:=k.pn8
  rw[List.length_zip]at h1
  rw[List.length_append,List.length_append,List.length_map]
  omega
 ·exact Nat.zero_le _
noncomputable def cnU(u:UnD)(g:GrD):List CnD:=(g.pts.zip (zf u g).at').flatMap λx=>yx u (zf u g).tys x.1 x.2
noncomputable def ofD(u:UnD)(fn:Int):List CnD×Int:=
 if(ym (yv u fn (-1))).2≠0 then([],(ym (yv u fn (-1))).2)else match u.fs[fn.toNat]? with
 |none=>([],0)
 |some g=>(ddL (cnU u g),0)
theorem agV{g:GrD}{fn:Nat}(hM:MayU u)(hH:HeadU u fn g)(hpt:∀p∈g.pts,zV u g p=true)(hrg:∀i (h:i<(zf u g).at'.length),-1≤(zf u g).at'[i]):∀n:Nat,((g.pts.zip (zf u g).at').take n).length≤n∧(((g.pts.zip (zf u g).at').take n).flatMap λx=>yx u (zf u g).tys x.1 x.2).length≤928*n:=by
 intro n
 refine⟨List.length_take_le _ _,?_⟩
 induction n with
 |zero=>simp
 |succ n ih=>
  by_cases hn:n<(g.pts.zip (zf u g).at').length
  ·rw[ZD hn,List.length_append]
   have hn2:=hn
   rw[List.length_zip]at hn2
   have:=af0 (a:=(zf u g).at'[n]'(by omega)) hM hH (hpt (g.pts[n]'(by omega)) (List.getElem_mem _)) (hrg n (by omega))
   rw[List.getElem_zip]
   dsimp only
   omega
  ·rw[List.take_of_length_le (by omega)]at ih⊢
   omega
theorem abm{fn:Int}{K:Value→World→Prop}(hr:Holds r w)(hu:UnG r v u)
  (h:∀v' w',Ext w w'→w'.ownsRow w.heap.size 36 2 v' (ofD u fn).1.length (cns (ofD u fn).1)→K (.tuple #[v',.int .i64 (ofD u fn).2]) w'):zd Tryz.prog Tryz.qZ #[v,.int .i64 fn] w K:=by
 refine Tryz.abk ?_
 unfold Tryz.Qd
 have hu0:=hu
 obtain⟨p0,cap0,vf,rfl,_,_,hst,hsl,hfn⟩:=hu
 obtain⟨qf,capf,rfl,_,_⟩:=hfn.sl.shape
 have S:=St.start hr
 refine S.box λb2 w1 S=>?_
 have S:StX noX w r w1 [.cell b2 [.slice p0 u.ss.length cap0,.slice qf u.fs.length capf,.int .i64 u.mn] 25]:=S
 refine S.ldB (b:=b2) ?_ rfl
 refine QW S.holds hu0 λv3 s w4 e4 n4 hd=>?_
 obtain⟨S,_,_⟩:=S.tell e4 n4
 have hE:ofD u fn=if (ym (yv u fn (-1))).2≠0 then([],(ym (yv u fn (-1))).2)else match u.fs[fn.toNat]? with
  |none=>([],0)
  |some g=>(ddL (cnU u g),0):=rfl
 have hfs:=acG (u:=u) (fn:=fn)
 generalize (ym (yv u fn (-1))).2=e at hE hfs⊢
 generalize (ym (yv u fn (-1))).1=d at hd hfs
 obtain⟨q1,c1,q2,c2,rfl,g1,g2⟩:=hd.shape
 refine gS_ ?_
 refine S.al λb6 w5 S=>?_
 refine S.stB (b:=b6) λw6 S=>?_
 refine gp_ ?_
 refine zj (λhne=>?_) (λheq=>?_)
 ·rw[if_pos hne]at hE
  rw[hE]at h
  have S:=S.ownNil 36 2
  exact h _ _ S.ext (S.give (.slice none 0 0))
 have heq:e=0:=by omega
 subst heq
 obtain⟨hM,hf0,hlt,hdE,hct⟩:=hfs rfl
 subst hdE
 rw[if_neg (by omega),gqg hlt]at hE
 rw[hE]at h
 have hH:=hM.hd hlt
 have hpt:=hM.pts _ (List.getElem_mem hlt)
 have hrg:=λ(i:Nat) (hi:i<(zf u u.fs[fn.toNat]).at'.length)=>acH (g:=u.fs[fn.toNat]) hM hlt hct hi
 obtain⟨bf,of,cf,hqE,hcf,hgc,hfo⟩:=hfn.sl.get (by decide) hlt
 have hp24:=hH.pt1024
 generalize u.fs[fn.toNat]=g at hgc hH hpt hrg h hd g1 g2 S hct hp24
 have hlen:(zf u g).at'.length=g.pts.length:=(Zx).2
 obtain⟨vo,vt,vn,vp,rfl,m1,m2,m3,m4⟩:=hgc
 obtain⟨qp,capp,rfl,_,_⟩:=m4.sl.shape
 cases hqE
 refine S.al λb8 w7 S=>?_
 refine S.mkMapP λbm w8 S=>?_
 refine S.al λb9 w9 S=>?_
 refine S.stB (b:=b9) λw10 S=>?_
 refine jF (b:=b8) S λb11 w11 e11 S=>?_
 refine S.al λb10 w12 S=>?_
 refine S.stB (b:=b10) λw13 S=>?_
 have S:StX noX w ((r.or s).or (Go.Sh.one b11 [.pointer (some ⟨b8,0,none⟩)] 126)) w13 [.cell b10 [.func (.func Tryz.ya) #[] #[.pointer (some ⟨b11,0,none⟩)]] 124,.cell b9 [.map (some bm)] 122,.obj bm (xT []),.cell b8 [.slice none 0 0] 28,
  .cell b6 (rgL (zf u g).lv (zf u g).pt (zf u g).ct (.slice q1 (zf u g).tys.length c1) (.slice q2 (zf u g).at'.length c2)) 74,.cell b2 [.slice p0 u.ss.length cap0,.slice (some ⟨bf,of,none⟩) u.fs.length capf,.int .i64 u.mn] 25]:=S
 have S:=(S.frzAt b10).frzAt b9
 have S:=S.ownNil 36 2
 generalize hρ:((((r.or s).or (Go.Sh.one b11 [.pointer (some ⟨b8,0,none⟩)] 126)).or (Go.Sh.one b10 [.func (.func Tryz.ya) #[] #[.pointer (some ⟨b11,0,none⟩)]] 124)).or (Go.Sh.one b9 [.map (some bm)] 122))=ρ at S
 have l1:Le r ρ:=by rw[← hρ];infer_instance
 have l2:Le s ρ:=by rw[← hρ];infer_instance
 have l3:Le (Go.Sh.one b11 [.pointer (some ⟨b8,0,none⟩)] 126) ρ:=by rw[← hρ];infer_instance
 have l4:Le (Go.Sh.one b10 [.func (.func Tryz.ya) #[] #[.pointer (some ⟨b11,0,none⟩)]] 124) ρ:=by rw[← hρ];infer_instance
 have l5:Le (Go.Sh.one b9 [.map (some bm)] 122) ρ:=by rw[← hρ];infer_instance
 have hT:=ahH (X:=noX) (w0:=w) (r:=ρ) (b8:=b8) (b9:=b9) (b10:=b10) (bm:=bm) (xe (c:=[.map (some bm)]) (T:=122) rfl) (xe (c:=[.func (.func Tryz.ya) #[] #[.pointer (some ⟨b11,0,none⟩)]]) (T:=124) rfl) (aan (q:=ρ) (b:=b8) (X:=noX) (w0:=w))
 have S:StX noX w ρ w13 (ofL b8 bm ((.slice none 0 0,[]),[])++[.cell b6 (rgL (zf u g).lv (zf u g).pt (zf u g).ct (.slice q1 (zf u g).tys.length c1) (.slice q2 (zf u g).at'.length c2)) 74,.cell b2 [.slice p0 u.ss.length cap0,.slice (some ⟨bf,of,none⟩) u.fs.length capf,.int .i64 u.mn] 25]):=S.permO (.cons _ (.swap _ _ _))
 have S:StX noX w ρ w13 [.row (.slice none 0 0) 36 2 0 [],.cell b8 [.slice none 0 0] 28,.obj bm (xT []),.cell b6 (rgL (zf u g).lv (zf u g).pt (zf u g).ct (.slice q1 (zf u g).tys.length c1) (.slice q2 (zf u g).at'.length c2)) 74,.cell b2 [.slice p0 u.ss.length cap0,.slice (some ⟨bf,of,none⟩) u.fs.length capf,.int .i64 u.mn] 25]:=S
 refine gg_ ?_
 refine zh (v:=.slice qp g.pts.length capp) (by simpa using S.at ((hfo 6 _ rfl).up (s:=ρ))) ?_
 refine gg_ ?_
 have hzl:(g.pts.zip (zf u g).at').length=g.pts.length:=by rw[List.length_zip];omega
 refine zk (ι:=Nat) (λi=>[.int .i64 (i:Nat)]) (λi w'=>i≤g.pts.length∧∃s:OfS,ofJ s (((g.pts.zip (zf u g).at').take i).flatMap λx=>yx u (zf u g).tys x.1 x.2)∧StX noX w ρ w' (ofL b8 bm s++[.cell b6 (rgL (zf u g).lv (zf u g).pt (zf u g).ct (.slice q1 (zf u g).tys.length c1) (.slice q2 (zf u g).at'.length c2)) 74,.cell b2 [.slice p0 u.ss.length cap0,.slice (some ⟨bf,of,none⟩) u.fs.length capf,.int .i64 u.mn] 25])) (λi=>g.pts.length-i) 0 rfl ⟨Nat.zero_le _,((.slice none 0 0,[]),[]),agU,S⟩ ?_
 repeat clear S
 rintro i dd w14 ⟨hi,so,hJ,S⟩ K4 hK4
 rw[gdz]
 have hfew:=(agV hM hH hpt (λi hi=>(hrg i hi).1) i).2
 refine gp_ ?_
 refine zj (λhlti=>?_) (λhge=>?_)
 ·have hlti:i<g.pts.length:=by omega
  obtain⟨bp,op,cp,hpE,hcp,hpg,hpo⟩:=m4.sl.get (by decide) hlti
  obtain⟨x1,x2,x3,x4,x5,y1,y2,y3,y4,y5,rfl,hpg0⟩:=aae hpg
  rw[hpE]
  refine gg_ ?_
  refine zt (n:=21) hcp (λj v hj=>by simpa using S.at ((hpo j v hj).up (s:=ρ))) ?_
  refine S.al λb12 w15 S=>?_
  refine S.stB (b:=b12) λw16 S=>?_
  have S:StX noX w ρ w16 [.cell b12 (ptL g.pts[i] x1 x2 x3 x4 x5 y1 y2 y3 y4 y5) 96,.row so.1.1 36 2 so.1.2.length (cns so.1.2),.cell b8 [so.1.1] 28,.obj bm (xT so.2),.cell b6 (rgL (zf u g).lv (zf u g).pt (zf u g).ct (.slice q1 (zf u g).tys.length c1) (.slice q2 (zf u g).at'.length c2)) 74,.cell b2 [.slice p0 u.ss.length cap0,.slice (some ⟨bf,of,none⟩) u.fs.length capf,.int .i64 u.mn] 25]:=S
  refine S.ldB (b:=b2) ?_ rfl
  refine S.ldB (b:=b6) ?_ rfl
  refine S.ldB (b:=b12) ?_ rfl
  refine gp_ ?_
  have S:StX noX w ρ w16 (ofL b8 bm so++(.cell b12 (ptL g.pts[i] x1 x2 x3 x4 x5 y1 y2 y3 y4 y5) 96::[.cell b6 (rgL (zf u g).lv (zf u g).pt (zf u g).ct (.slice q1 (zf u g).tys.length c1) (.slice q2 (zf u g).at'.length c2)) 74,.cell b2 [.slice p0 u.ss.length cap0,.slice (some ⟨bf,of,none⟩) u.fs.length capf,.int .i64 u.mn] 25])):=S.permO (List.perm_middle (l₁:=ofL b8 bm so))
  have hii:((i:Nat):Int).toNat=i:=tnc i
  refine Z4 (fn:=fn.toNat) (p:=g.pts[i]) (u:=u) (g:=g) (q:=(i:Int)) (a:=(zf u g).at'[i]'(by omega)) hT hM hH (hpt _ (List.getElem_mem hlti)) ⟨_,_,_,rfl⟩ (UnG.up hu0) (RgG.up hd) (PtG.up hpg0) (by omega) (by rw[hii];omega) (by simp only[hii]) (hrg i (by omega)).1 (hrg i (by omega)).2 hJ (by omega) S λs2 w17 hJ2 S=>?_
  refine gp_ ?_
  refine hK4 (i+1) _ ⟨hlti,s2,?_,(S.permO (List.perm_middle (l₁:=ofL b8 bm s2)).symm).tl⟩ (by omega)
  rw[ZD (by omega),List.getElem_zip]
  exact hJ2
 ·obtain rfl:i=g.pts.length:=by omega
  rw[List.take_of_length_le (by omega)]at hJ
  obtain⟨⟨v,l⟩,Mp⟩:=so
  have hl:l=ddL (cnU u g):=hJ.1
  have S:StX noX w ρ w14 [.row v 36 2 l.length (cns l),.cell b8 [v] 28,.obj bm (xT Mp),.cell b6 (rgL (zf u g).lv (zf u g).pt (zf u g).ct (.slice q1 (zf u g).tys.length c1) (.slice q2 (zf u g).at'.length c2)) 74,.cell b2 [.slice p0 u.ss.length cap0,.slice (some ⟨bf,of,none⟩) u.fs.length capf,.int .i64 u.mn] 25]:=S
  refine S.ld (b:=b8) ?_
  rw[hl]at S
  exact h _ _ S.ext (S.give v)
theorem acL{fn:Int}{K:Value→World→Prop}(hr:Holds r w)(hu:UnG r v u)
  (h:∀v' s w',Ext w w'→New w s w'→SlG 2 s CnC v' (ofD u fn).1→K (.tuple #[v',.int .i64 (ofD u fn).2]) w'):zd Tryz.prog Tryz.qZ #[v,.int .i64 fn] w K:=by
 refine abm hr hu λv' w' e hw=>?_
 have S:=(St.start hr).take e hw
 obtain⟨s3,T,hs,_,ha3⟩:=S.doneRow (l:=(ofD u fn).1) qR (by decide) rfl
 exact h _ s3 _ T.ext (StX.newOf (q:=s3) T λb o ho=>(ha3 b o ho).resolve_right id) hs
theorem j0{n:Int}:xR l n=kG l n:=by
 rw[Bool.eq_iff_iff,kH,xR,Bool.not_eq_true',List.any_eq_false]
 refine forall_congr' λc=>forall_congr' λhc=>?_
 rw[Ym,Bool.or_eq_true,decide_eq_true_eq,decide_eq_true_eq]
 omega
noncomputable def frD(l:List CnD)(ct a:Int):List Int×Int:=if (((ct<0∨512<ct)∨a<0)∨ct≤a)∨xR l ct=false then([],2)else(upL l ct.toNat a,0)
theorem agW{n:Nat}{out:List Int}(hl:kG l n=true)(h:UpS l n a out out.length):kU out=upL l n a:=by
 refine Y8 ?_ Vo λx=>?_
 ·have hp:(kU out).Pairwise (λa b=>decide (a≤b)=true):=List.pairwise_mergeSort (λa b c h1 h2=>by simp only[decide_eq_true_eq]at *;omega) (λa b=>by simp only[Bool.or_eq_true,decide_eq_true_eq];omega) out
  have hn:(kU out).Nodup:=(List.mergeSort_perm out _).nodup_iff.2 h.nd
  rw[List.pairwise_iff_getElem]at hp⊢
  intro i j hi hj hij
  have h1:=hp i j hi hj hij
  have h2:=(List.pairwise_iff_getElem.1 hn) i j hi hj hij
  simp only[decide_eq_true_eq]at h1
  omega
 ·rw[← h.end hl]
  exact List.mem_mergeSort
theorem YO{ct a:Int}{K:Value→World→Prop}(hr:Holds r w)(hl:SlG 2 r CnC v l)(hb:l.length≤1000000)
  (h:∀v' s w',Ext w w'→New w s w'→SlG 1 s kD v' (frD l ct a).1→K (.tuple #[v',.int .i64 (frD l ct a).2]) w'):zd Tryz.prog Tryz.kN #[v,.int .i64 ct,.int .i64 a] w K:=by
 refine Tryz.Vy ?_
 unfold Tryz.YN
 have S:=St.start hr
 obtain⟨p,cap,rfl,_,_⟩:=hl.shape
 have hE:frD l ct a=if (((ct<0∨512<ct)∨a<0)∨ct≤a)∨xR l ct=false then([],2)else(upL l ct.toNat a,0):=rfl
 refine gp_ ?_
 refine zi (c:=decide (ct>512)) (λ_ K2 hK2=>by refine gp_ ?_;exact hK2) ?_
 refine zi (c:=decide (a<0)) (λ_ K2 hK2=>by refine gp_ ?_;exact hK2) ?_
 refine zi (c:=decide (a≥ct)) (λ_ K2 hK2=>by refine gp_ ?_;exact hK2) ?_
 refine y8 (c:=!xR l ct) (λ_ K2 hK2=>?_) λw5 e5=>?_
 ·refine ZE S.holds hl (by omega) λw5 e5=>?_
  refine gp_ ?_
  exact hK2 _ e5
 have S:=S.go e5
 refine c_b (λhbad=>?_) (λhgood=>?_)
 ·have hE:frD l ct a=([],2):=by
   rw[hE,if_pos]
   simp only[Bool.or_eq_true,decide_eq_true_eq,Bool.not_eq_true']at hbad
   exact hbad
  rw[hE]at h
  exact h _ nothing _ S.ext New.nothing SlG.nil
 simp only[Bool.or_eq_false_iff,decide_eq_false_iff_not,Bool.not_eq_false']at hgood
 obtain⟨⟨⟨⟨k1,k2⟩,k3⟩,k4⟩,k5⟩:=hgood
 have hE:frD l ct a=(upL l ct.toNat a,0):=by rw[hE,if_neg];rw[k5];simp;omega
 rw[hE]at h
 obtain⟨n,rfl⟩:∃n:Nat,ct=(n:Int):=⟨ct.toNat,by omega⟩
 rw[tnc]at h
 rw[j0]at k5
 clear hE
 refine S.lit (e:=3) (cs:=[.int .i64 a]) (by kernel_rfl) λb6 w6 S=>?_
 have S:StX noX w r w6 [.row (.slice (some ⟨b6,0,none⟩) 1 1) 3 1 1 (ints [a])]:=S.toRow 1 1 rfl (by decide)
 refine zk (ι:=(Value×List Int)×Nat) (λi=>[i.1.1,.int .i64 (i.2:Nat)]) (λi w'=>UpS l n a i.1.2 i.2∧StX noX w r w' [.row i.1.1 3 1 i.1.2.length (ints i.1.2)]) (λi=>n-i.2) ((.slice (some ⟨b6,0,none⟩) 1 1,[a]),0) rfl ⟨UpS.start (by omega),S⟩ ?_
 repeat clear S
 rintro⟨⟨v,out⟩,i⟩ d w7 ⟨hU,S⟩ K4 hK4
 simp only[gdz,gds]
 have hU:UpS l n a out i:=hU
 have S:StX noX w r w7 [.row v 3 1 out.length (ints out)]:=S
 have hfew:=hU.few
 have hile:=hU.le
 obtain⟨pv,capv,hv,_⟩:=S.rowS v
 rw[hv]
 refine gp_ ?_
 refine gp_ ?_
 rw[← hv]
 refine zj (λhlt=>?_) (λhge=>?_)
 ·have hlt:i<out.length:=by omega
  refine gp_ ?_
  refine zk (ι:=(Value×List Int)×Nat) (λj=>[j.1.1,.int .i64 (j.2:Nat)]) (λj w'=>UpS l n a j.1.2 i∧i<j.1.2.length∧j.2≤l.length∧(∀k (hk:k<l.length),k<j.2→j.1.2[i]? = some l[k].2→l[k].1∈j.1.2)∧StX noX w r w' [.row j.1.1 3 1 j.1.2.length (ints j.1.2)]) (λj=>l.length-j.2) ((v,out),0) rfl ⟨hU,hlt,Nat.zero_le _,λk hk h0=>absurd h0 (Nat.not_lt_zero _),S⟩ ?_
  repeat clear S
  clear hv hfew hile hlt hU
  rintro⟨⟨v,out⟩,j⟩ d w8 ⟨hU,hlt,hjl,hdn,S⟩ K5 hK5
  simp only[gdz,gds]
  have hU:UpS l n a out i:=hU
  have hlt:i<out.length:=hlt
  have hjl:j≤l.length:=hjl
  have hdn:∀k (hk:k<l.length),k<j→out[i]? = some l[k].2→l[k].1∈out:=hdn
  have S:StX noX w r w8 [.row v 3 1 out.length (ints out)]:=S
  have hfew:=hU.few
  refine gp_ ?_
  refine zj (λhltj=>?_) (λhgej=>?_)
  ·have hltj:j<l.length:=by omega
   have hjx:=kH.1 k5 _ (List.getElem_mem hltj)
   refine zr (λx w'=>∃v' out',x=[v']∧UpS l n a out' i∧i<out'.length∧(∀k (hk:k<l.length),k<j+1→out'[i]? = some l[k].2→l[k].1∈out')∧StX noX w r w' [.row v' 3 1 out'.length (ints out')]) (λK3 hK3=>?_) ?_
   ·obtain⟨b,off,hpE,_,_,_,hcell⟩:=kJ hl hltj
    rw[hpE]
    refine gg_ ?_
    refine zt (n:=2) rfl (λj v hj=>by rw[tnc];exact S.at (hcell j v hj)) ?_
    refine S.al λb11 w9 S=>?_
    refine S.stB (b:=b11) λw10 S=>?_
    have S:=S.go (Ext.drew _)
    have S:StX noX w r w10.drew [.cell b11 [.int .i64 l[j].1,.int .i64 l[j].2] 36,.row v 3 1 out.length (ints out)]:=S
    obtain⟨s,T,hs,_,_⟩:=(S.permO (.swap _ _ _)).doneRow (l:=out) jM (by decide) rfl
    obtain⟨pv,capv,hv,_⟩:=hs.shape
    have hs0:=hs
    rw[hv]at hs0
    obtain⟨bo,oo,hpo,_,hco⟩:=qQ hs0 hlt
    refine gg_ ?_
    rw[hv,hpo]
    refine gp_ ?_
    refine zh (v:=.int .i64 out[i]) (by simpa using T.at (hco.up (s:=r.or s))) ?_
    rw[← hpo,← hv]
    refine gp_ ?_
    refine zo (c:=!decide (l[j].1∈out)) (λhb K2 hK2=>?_) ?_
    ·refine gg_ ?_
     refine aai T.holds hs.cells (by simp only[maxLen];omega) ?_
     refine gp_ ?_
     exact hK2
    refine c_b (λhb=>?_) (λhb=>?_)
    ·simp only[Bool.and_eq_true,decide_eq_true_eq,Bool.not_eq_true',decide_eq_false_iff_not]at hb
     obtain⟨hb1,hb2⟩:=hb
     have hU2:=hU.add k5 (List.getElem_mem hltj) (by rw[hb1];exact List.getElem_mem hlt) hb2
     refine gg_ ?_
     refine S.lit (e:=3) (cs:=[.int .i64 l[j].1]) (by kernel_rfl) λb12 w12 S=>?_
     refine S.ap (v:=v) (m':=1) (Sl.blk (S.blk b12)) (λv4 w13 S=>?_) (by omega)
     refine hK3 _ _ ⟨v4,out++[l[j].1],rfl,hU2,by rw[List.length_append];omega,λk hk hkj hx=>?_,?_⟩
     ·rw[List.getElem?_append_left hlt]at hx
      rcases Nat.lt_or_ge k j with h1|h1
      ·exact List.mem_append_left _ (hdn k hk h1 hx)
      ·obtain rfl:k=j:=by omega
       exact List.mem_append_right _ (List.mem_singleton.2 rfl)
     ·have hi2:ints (out++[l[j].1])=ints out++[.int .i64 l[j].1]:=by rw[ints,List.map_append];rfl
      rw[hi2,List.length_append,List.length_singleton]
      exact S.tl.tl
    ·refine hK3 _ _ ⟨v,out,rfl,hU,hlt,λk hk hkj hx=>?_,S.tl⟩
     rcases Nat.lt_or_ge k j with h1|h1
     ·exact hdn k hk h1 hx
     ·obtain rfl:k=j:=by omega
      rw[gqg hlt]at hx
      have hx:out[i]=l[k].2:=by simpa using hx
      rw[hx]at hb
      simpa using hb
   ·repeat clear S
    rintro _ w9 ⟨v',out',rfl,hU',hlt',hdn',S⟩ d
    rw[gdz]
    refine gp_ ?_
    exact hK5 ((v',out'),j+1) _ ⟨hU',hlt',hltj,hdn',S⟩ (by show l.length-(j+1)<l.length-j;omega)
  ·obtain rfl:j=l.length:=by omega
   have hn:=hU.next hlt λc hc hx=>by
    obtain⟨k,hk,rfl⟩:=List.getElem_of_mem hc
    exact hdn k hk hk hx
   refine gp_ ?_
   exact hK4 ((v,out),i+1) _ ⟨hn,S⟩ (by show n-(i+1)<n-i;omega)
 ·obtain rfl:i=out.length:=by omega
  refine abf S (by show out.length<4611686018427387904;omega) λw9 S=>?_
  obtain⟨s,T,hs,_,ha⟩:=S.doneRow (l:=kU out) jM (by decide) (by rw[jW])
  rw[agW k5 hU]at hs
  exact h _ s _ T.ext (StX.newOf (q:=s) T λb o ho=>(ha b o ho).resolve_right id) hs
noncomputable def xt(R:List yr)(x:yr):Bool:=!(BM.mayB x.1 x.2)||decide (x.1≠(R.headD (0,[])).1)
def acM(R:List yr)(a:Int):yr:=R.getD a.toNat (0,[])
def yG(R:List yr)(c:CnD):List Nat:=lackL (acM R c.1).1 (acM R c.1).2 (acM R c.2).2
theorem Qv(h:a.toNat<R.length):acM R a=R[a.toNat]:=by
 rw[acM,List.getD_eq_getElem?_getD,gqg h,Option.getD_some]
theorem aed{b3:Nat}{p:Option Addr}{cap:Nat}{x:yr}{c:List Value}{K:Value→World→Prop}(hr:Holds r w)(h3:Ob r λw=>w.cell? ⟨b3,0,none⟩=some (.slice p R.length cap))(hR:SlG 2 r (RwbC r) (.slice p R.length cap) R)(hn:R≠[])
  (hx:RwbC r c x) (h:∀w',Ext w w'→K (.bool (xt R x)) w'):zu Tryz.prog (.func (.func Tryz.jR) #[] #[.pointer (some ⟨b3,0,none⟩)]) #[.agg c.toArray] w K:=by
 refine YW (by kernel_rfl) ?_
 refine Tryz.Xz ?_
 unfold Tryz.jY
 have hx0:=hx
 obtain⟨q,capq,rfl,_⟩:=hx
 have hl0:0<R.length:=List.length_pos_iff.2 hn
 have S:=St.start hr
 refine S.box λb2 w1 S=>?_
 have S:=S.go (Ext.drew _)
 have S:StX noX w r _ [.cell b2 [.int .i64 x.1,.slice q x.2.length capq] 48]:=S
 refine S.ldB (b:=b2) ?_ rfl
 refine vS (W:=x.1) (ws:=x.2) S.holds hx0 λw3 e3=>?_
 have S:=S.go e3
 refine gp_ ?_
 have hh:(R.headD (0,[])).1=R[0].1:=by rw[List.headD_eq_head?_getD,List.head?_eq_getElem?,gqg hl0,Option.getD_some]
 refine zi (c:=decide (x.1≠(R.headD (0,[])).1)) (λ_ K2 hK2=>?_) ?_
 ·obtain⟨b,off,c,hE,hcl,hcR,hcell⟩:=hR.get (by decide) hl0
  obtain⟨pw,cw,rfl,_⟩:=hcR
  rw[hh]at hK2
  refine gg_ ?_
  refine zh (S.at h3) ?_
  rw[hE]
  refine gg_ ?_
  refine zh (v:=.int .i64 R[0].1) (by simpa using S.at (hcell 0 _ rfl)) ?_
  refine gp_ ?_
  exact hK2
 exact h _ S.ext
theorem ZF{vr:Value}{K:Value→World→Prop}(hr:Holds r w)(hl:SlG 2 r CnC v l)(hb:l.length≤1000000)(hR:SlG 2 r (RwbC r) vr R)(hRb:R.length≤1000000)(hT:TabG r)
  (h1:R.any (xt R)=true∨xR l R.length=false→∀w',Ext w w'→K (.tuple #[.int .i64 0,.int .i64 0,.bool false,.int .i64 2]) w')
  (h2:R.any (xt R)=false→kG l R.length=true→∀(i:Nat)(hi:i<l.length),(∀k (hk:k<l.length),k<i→yG R l[k]=[])→yG R l[i]≠[]→∀w',Ext w w'→K (.tuple #[.int .i64 (i:Nat),.int .i64 ((yG R l[i]).headD 0:Nat),.bool false,.int .i64 0]) w')
  (h3:R.any (xt R)=false→kG l R.length=true→(∀k (hk:k<l.length),yG R l[k]=[])→∀w',Ext w w'→K (.tuple #[.int .i64 0,.int .i64 0,.bool true,.int .i64 0]) w'):
  zd Tryz.prog Tryz.xa #[v,vr] w K:=by
 refine Tryz.QF ?_
 unfold Tryz.ZB
 obtain⟨p,cap,rfl,_,_⟩:=hl.shape
 obtain⟨pr,capr,rfl,_,_⟩:=hR.shape
 have S:=St.start hr
 refine S.box λb3 w1 S=>?_
 have S:StX noX w r w1 [.cell b3 [.slice pr R.length capr] 44]:=S
 have S:=S.frzAt b3
 have hT:TabG (r.or (Go.Sh.one b3 [.slice pr R.length capr] 44)):=hT.up
 have hl:SlG 2 (r.or (Go.Sh.one b3 [.slice pr R.length capr] 44)) CnC (.slice p l.length cap) l:=hl.cells
 have hR:SlG 2 (r.or (Go.Sh.one b3 [.slice pr R.length capr] 44)) (RwbC (r.or (Go.Sh.one b3 [.slice pr R.length capr] 44))) (.slice pr R.length capr) R:=hR.up' inferInstance λ_ _ h=>h.up
 have hc3:Ob (r.or (Go.Sh.one b3 [.slice pr R.length capr] 44)) λw=>w.cell? ⟨b3,0,none⟩=some (.slice pr R.length capr):=xe (c:=[.slice pr R.length capr]) (T:=44) rfl
 generalize r.or (Go.Sh.one b3 [.slice pr R.length capr] 44)=ρ at S hT hl hR hc3
 refine zh (S.at hc3) ?_
 refine gp_ ?_
 refine X7 (f:=xt R) S.holds hR (by omega) (λx hx c w K hr hc h=>aed hr hc3 hR (List.ne_nil_of_mem hx) hc h) λw2 e2=>?_
 have S:=S.go e2
 refine y8 (c:=!xR l R.length) (λ_ K2 hK2=>?_) λw5 e5=>?_
 ·refine zh (S.at hc3) ?_
  refine gp_ ?_
  refine ZE S.holds hl (by omega) λw5 e5=>?_
  refine gp_ ?_
  exact hK2 _ e5
 have S:=S.go e5
 refine c_b (λhbad=>?_) (λhgood=>?_)
 ·refine h1 ?_ _ S.ext
  simpa using hbad
 simp only[Bool.or_eq_false_iff,Bool.not_eq_false']at hgood
 obtain⟨k1,k2⟩:=hgood
 rw[j0]at k2
 clear h1
 refine gg_ ?_
 refine zk (ι:=Nat) (λi=>[.int .i64 (i:Nat)]) (λi w'=>i≤l.length∧(∀k (hk:k<l.length),k<i→yG R l[k]=[])∧StX noX w ρ w' []) (λi=>l.length-i) 0 rfl ⟨Nat.zero_le _,λk hk h0=>absurd h0 (Nat.not_lt_zero _),S⟩ ?_
 repeat clear S
 rintro i d w6 ⟨hi,hno,S⟩ K4 hK4
 rw[gdz]
 refine gp_ ?_
 refine zj (λhlt=>?_) (λhge=>?_)
 ·have hlt:i<l.length:=by omega
  have hix:=kH.1 k2 _ (List.getElem_mem hlt)
  obtain⟨b,off,hpE,_,_,_,hcell⟩:=kJ hl hlt
  rw[hpE]
  refine gg_ ?_
  refine zt (n:=2) rfl (λj v hj=>by rw[tnc];exact S.at (hcell j v hj)) ?_
  refine S.al λb9 w7 S=>?_
  refine S.stB (b:=b9) λw8 S=>?_
  have S:=S.go (Ext.drew _)
  have S:StX noX w ρ w8.drew [.cell b9 [.int .i64 l[i].1,.int .i64 l[i].2] 36]:=S
  have ha:l[i].1.toNat<R.length:=by omega
  have hb2:l[i].2.toNat<R.length:=by omega
  obtain⟨ba,oa,ca,hEa,_,hca,hcella⟩:=hR.get (by decide) ha
  obtain⟨bb,ob,cb,hEb,_,hcb,hcellb⟩:=hR.get (by decide) hb2
  have hca0:=hca
  have hcb0:=hcb
  obtain⟨pa,wa,rfl,_⟩:=hca
  obtain⟨pb,wb,rfl,_⟩:=hcb
  refine zh (S.at hc3) ?_
  refine gg_ ?_
  rw[hEa]
  refine gg_ ?_
  refine zt (n:=2) rfl (λj v hj=>S.at (hcella j v hj)) ?_
  refine zh (S.at hc3) ?_
  refine gg_ ?_
  rw[hEb]
  refine gg_ ?_
  refine zt (n:=2) rfl (λj v hj=>S.at (hcellb j v hj)) ?_
  have hma:∀x∈R,BM.mayB x.1 x.2=true∧x.1=(R.headD (0,[])).1:=λx hx=>by
   have:=List.any_eq_false.1 k1 x hx
   rw[xt]at this
   simpa using this
  obtain⟨m1,m2⟩:=hma _ (List.getElem_mem ha)
  obtain⟨m3,m4⟩:=hma _ (List.getElem_mem hb2)
  refine acC S.holds hca0 hcb0 hT (λhn=>absurd ⟨m1,m3,by rw[m2,m4]⟩ hn) λ_ _ _ w9 e9=>?_
  have S:=S.go e9
  have hlk:lackL R[l[i].1.toNat].1 R[l[i].1.toNat].2 R[l[i].2.toNat].2=yG R l[i]:=by rw[yG,Qv ha,Qv hb2]
  rw[hlk]
  unfold acB
  refine gS_ ?_
  refine c_b (λhy=>?_) (λhn=>?_)
  ·exact h2 k1 k2 i hlt hno (by intro e;rw[e]at hy;cases hy) _ S.ext
  ·refine gp_ ?_
   refine hK4 (i+1) _ ⟨hlt,λk hk hki=>?_,S.tl⟩ (by omega)
   rcases Nat.lt_or_ge k i with h|h
   ·exact hno k hk h
   ·obtain rfl:k=i:=by omega
    simpa using hn
 ·obtain rfl:i=l.length:=by omega
  exact h3 k1 k2 (λk hk=>hno k hk hk) _ S.ext
end Go.Proofs
end
section
namespace Go.Proofs.Tryz
open Go.Sh
variable {t0 t1:Value} {w:World} {K:VW}
def Xs(t0 t1 t2:Value)(w:World)(K:VW):Prop:=
 pw w (Instr.box 43 t0) λt3 w1=>
 pw w1 (Instr.box 43 t1) λt4 w2=>
 za (λK3=>
 fl w2 t3 43 0 40 λt9=>bt .eql 40 t9 (Value.int .u8 4) λt10=>zc t10 (fl w2 t3 43 2 3 λt13=>fl w2 t4 43 2 3 λt15=>pp (Instr.build 36 #[(0,t13),(1,t15)]) λt16=>pw w2 (Instr.buildSlice 28 1 #[(0,t16)]) λt17 w7=>
 pw w7 (Builtin.append_ #[28,28] 28 #[(Value.slice Option.none 0 0),t17]) λt18 w8=>
 za (λK9=>
 zc t2 (fl w8 t4 43 2 3 λt22=>fl w8 t3 43 2 3 λt24=>pp (Instr.build 36 #[(0,t22),(1,t24)]) λt25=>pw w8 (Instr.buildSlice 28 1 #[(0,t25)]) λt26 w13=>
 pw w13 (Builtin.append_ #[28,28] 28 #[t18,t26]) λt27 w14=>
 K9 [t27] w14) (K9 [t18] w8)) (λs10 _d11 w12=>
 za (λK15=>gIf t2 false (fl w12 t3 43 1 4 λt31=>K15 [t31] w12) (K15 [u_] w12)) (λs16 _d17 w18=>
 zb t2 tr_ (s16.getD 0 u_) λt32=>K3 [t32,(s10.getD 0 u_)] w18))) (K3 [t2,(Value.slice Option.none 0 0)] w2)) (λs4 _d5 w6=>
 za (λK19=>
 fl w6 t3 43 4 41 λt34=>pp (Builtin.len_ #[41] 3 #[t34]) λt35=>bt .gtr 3 t35 (i6 0) λt36=>zc t36 (fl w6.drew t3 43 4 41 λt39=>xl w6.drew 41 t39 (i6 0) 43 λt41=>fl w6.drew t4 43 4 41 λt43=>xl w6.drew 41 t43 (i6 0) 43 λt45=>ca xU #[t41,t45,(s4.getD 0 u_)] w6.drew λt47 w23=>
 pw w23 (Builtin.append_ #[28,28] 28 #[(s4.getD 1 u_),t47]) λt48 w24=>
 K19 [t48] w24) (K19 [(s4.getD 1 u_)] w6)) (λs20 _d21 w22=>
 K (s20.getD 0 u_) w22))
theorem aar{t2:Value}(h:Xs t0 t1 t2 w K):zd prog xU #[t0,t1,t2] w K:=
 okC false (.s (.r (rz 3 0 10)) (.s (.r (rz 1 0 0)) (.j [2,7] (.s (.r (rz 3 0 4)) (.c (.s (.r (rz 9 0 41232)) (.j [7] (.s (.r (rz 1 0 0)) (.c (.r (rz 9 0 41232)) (.n))) (.r (ra 2 0 0 (.grp 29 false (ri 2 2 4) [31] (rz 2 4 0)))))) (.n))) (.j [7] (.s (.r (rz 4 0 4)) (.c (.r (rz 13 0 10555664)) (.n))) (.s (.r (rz 2 0 0)) (.n)))))) func60 rfl (by kernel_rfl) (by kernel_rfl) h
def Xt(t0 t1:Value)(w:World)(K:VW):Prop:=
 pw w (Instr.box 43 t0) λt2 w1=>
 pw w1 (Instr.box 43 t1) λt3 w2=>
 lo w2 43 t2 λt6=>ca kL #[t6] w2 λt7 w3=>
 pp (Op.unary .not t7) λt8=>za (λK4=>gIf t8 false (lo w3 43 t3 λt10=>ca kL #[t10] w3 λt11 w8=>
 pp (Op.unary .not t11) λt12=>K4 [t12] w8) (K4 [u_] w3)) (λs5 _d6 w7=>
 zb t8 tr_ (s5.getD 0 u_) λt13=>zc t13 (K (.tuple #[(Value.slice Option.none 0 0),(i6 2)]) w7) (lo w7 43 t2 λt14=>lo w7 43 t3 λt15=>ca j4 #[t14,t15] w7 λt16 w9=>
 pp (Op.unary .not t16) λt17=>zc t17 (K (.tuple #[(Value.slice Option.none 0 0),(i6 150)]) w9) (lo w9 43 t2 λt18=>lo w9 43 t3 λt19=>ca xU #[t18,t19,fa_] w9 λt20 w10=>
 K (.tuple #[t20,(i6 0)]) w10)))
theorem aas(h:Xt t0 t1 w K):zd prog j6 #[t0,t1] w K:=
 okC false (.s (.r (rz 4 0 10)) (.s (.s (.r (ra 4 0 9 (.grp 9 false (ri 3 4 9) [12] (rz 1 7 0)))) (.c (.s (.r (rz 2 0 0)) (.n)) (.n))) (.s (.s (.r (rz 4 0 37)) (.c (.s (.r (rz 2 0 0)) (.n)) (.n))) (.s (.r (rz 5 0 37)) (.n))))) func20 rfl (by kernel_rfl) (by kernel_rfl) h
def YP(t0 t1:Value)(w:World)(K:VW):Prop:=
 zx [(i6 0)] w (λs2 _d3 w4 K1=>
 pp (Builtin.len_ #[44] 3 #[t1]) λt15=>bf .lss 3 (s2.getD 0 u_) t15 λt16=>zc t16 (xl w4.drew 44 t1 (s2.getD 0 u_) 48 λt22=>ca Z7 #[t22] w4.drew λt23 w5=>
 pp (Op.unary .not t23) λt24=>za (λK6=>gIf t24 false (px 44 t1 (s2.getD 0 u_) λt28=>fl w5 t28 48 0 3 λt30=>px 44 t1 (i6 0) λt32=>fl w5 t32 48 0 3 λt34=>bf .neq 3 t30 t34 λt35=>K6 [t35] w5) (K6 [u_] w5)) (λs7 _d8 w9=>
 zb t24 tr_ (s7.getD 0 u_) λt36=>zc t36 (K (.tuple #[(i6 0),(i6 0),fa_,(i6 2)]) w9) (bt .add 3 (s2.getD 0 u_) (i6 1) λt18=>K1 [t18] w9))) (zx [(i6 0)] w4 (λs11 _d12 w13 K10=>
 pp (Builtin.len_ #[28] 3 #[t0]) λt39=>bf .lss 3 (s11.getD 0 u_) t39 λt40=>zc t40 (px 28 t0 (s11.getD 0 u_) λt45=>fl w13 t45 36 0 3 λt47=>bt .lss 3 t47 (i6 0) λt48=>za (λK14=>gIf t48 false (px 28 t0 (s11.getD 0 u_) λt52=>fl w13 t52 36 1 3 λt54=>bt .lss 3 t54 (i6 0) λt55=>K14 [t55] w13) (K14 [u_] w13)) (λs15 _d16 w17=>
 zb t48 tr_ (s15.getD 0 u_) λt56=>za (λK18=>gIf t56 false (px 28 t0 (s11.getD 0 u_) λt60=>fl w17 t60 36 0 3 λt62=>pp (Builtin.len_ #[44] 3 #[t1]) λt64=>bf .geq 3 t62 t64 λt65=>K18 [t65] w17) (K18 [u_] w17)) (λs19 _d20 w21=>
 zb t56 tr_ (s19.getD 0 u_) λt66=>za (λK22=>gIf t66 false (px 28 t0 (s11.getD 0 u_) λt70=>fl w21 t70 36 1 3 λt72=>pp (Builtin.len_ #[44] 3 #[t1]) λt74=>bf .geq 3 t72 t74 λt75=>K22 [t75] w21) (K22 [u_] w21)) (λs23 _d24 w25=>
 zb t66 tr_ (s23.getD 0 u_) λt76=>zc t76 (K (.tuple #[(i6 0),(i6 0),fa_,(i6 2)]) w25) (bt .add 3 (s11.getD 0 u_) (i6 1) λt42=>K10 [t42] w25))))) (zx [(i6 0)] w13 (λs27 _d28 w29 K26=>
 pp (Builtin.len_ #[28] 3 #[t0]) λt79=>bf .lss 3 (s27.getD 0 u_) t79 λt80=>zc t80 (px 28 t0 (s27.getD 0 u_) λt87=>fl w29.drew t87 36 0 3 λt89=>xl w29.drew 44 t1 t89 48 λt91=>px 28 t0 (s27.getD 0 u_) λt95=>fl w29.drew t95 36 1 3 λt97=>xl w29.drew 44 t1 t97 48 λt99=>ca j5 #[t91,t99] w29.drew λt100 w30=>
 pe t100 0 λt101=>pe t100 1 λt102=>zc t102 (K (.tuple #[(s27.getD 0 u_),t101,fa_,(i6 0)]) w30) (bt .add 3 (s27.getD 0 u_) (i6 1) λt82=>K26 [t82] w30)) (K (.tuple #[(i6 0),(i6 0),tr_,(i6 0)]) w29))))))
theorem VB(h:YP t0 t1 w K):zd prog kO #[t0,t1] w K:=
 okC false (.s (.r (rz 4 0 0)) (.s (.s (.r (rz 1 0 0)) (.b (.lp [8] (.s (.s (.r (rz 4 0 0)) (.c (.n) (.n))) (.s (.b (.s (.r (ra 7 0 576 (.grp 25 false (ri 10 7 65792) [35] (rz 1 17 0)))) (.c (.s (.r (rz 4 0 0)) (.n)) (.n)))) (.r (rz 3 0 0))))))) (.s (.s (.r (rz 1 0 0)) (.b (.lp [9] (.s (.s (.r (rz 4 0 0)) (.c (.n) (.n))) (.s (.b (.s (.r (ra 7 0 256 (.grp 49 false (ri 6 7 256) [55] (ra 2 13 0 (.grp 57 false (ri 8 15 256) [65] (ra 2 23 0 (.grp 67 false (ri 8 25 256) [75] (rz 1 33 0)))))))) (.c (.s (.r (rz 4 0 0)) (.n)) (.n)))) (.r (rz 3 0 0))))))) (.s (.s (.r (rz 1 0 0)) (.b (.lp [10] (.s (.s (.r (rz 4 0 0)) (.c (.n) (.n))) (.s (.b (.s (.r (rz 22 0 9730802688)) (.s (.r (rz 1 0 0)) (.c (.s (.r (rz 6 0 0)) (.n)) (.n))))) (.r (rz 3 0 0))))))) (.s (.r (rz 4 0 0)) (.n)))))) func22 rfl (by kernel_rfl) (by kernel_rfl) h
def Qg(t0 t1 t2:Value)(w:World)(K:VW):Prop:=
 bt .lss 3 t1 (i6 0) λt15=>za (λK1=>gIf t15 false (bt .gtr 3 t1 (i6 512) λt18=>K1 [t18] w) (K1 [u_] w)) (λs2 _d3 w4=>
 zb t15 tr_ (s2.getD 0 u_) λt19=>za (λK5=>gIf t19 false (bt .lss 3 t2 (i6 0) λt22=>K5 [t22] w4) (K5 [u_] w4)) (λs6 _d7 w8=>
 zb t19 tr_ (s6.getD 0 u_) λt23=>za (λK9=>gIf t23 false (bf .geq 3 t2 t1 λt27=>K9 [t27] w8) (K9 [u_] w8)) (λs10 _d11 w12=>
 zb t23 tr_ (s10.getD 0 u_) λt28=>zc t28 (K (.tuple #[(Value.slice Option.none 0 0),(i6 2)]) w12) (zx [(i6 0)] w12 (λs14 _d15 w16 K13=>
 pp (Builtin.len_ #[28] 3 #[t0]) λt31=>bf .lss 3 (s14.getD 0 u_) t31 λt32=>zc t32 (px 28 t0 (s14.getD 0 u_) λt37=>fl w16 t37 36 0 3 λt39=>bt .lss 3 t39 (i6 0) λt40=>za (λK17=>gIf t40 false (px 28 t0 (s14.getD 0 u_) λt44=>fl w16 t44 36 1 3 λt46=>bt .lss 3 t46 (i6 0) λt47=>K17 [t47] w16) (K17 [u_] w16)) (λs18 _d19 w20=>
 zb t40 tr_ (s18.getD 0 u_) λt48=>za (λK21=>gIf t48 false (px 28 t0 (s14.getD 0 u_) λt52=>fl w20 t52 36 0 3 λt54=>bf .geq 3 t54 t1 λt56=>K21 [t56] w20) (K21 [u_] w20)) (λs22 _d23 w24=>
 zb t48 tr_ (s22.getD 0 u_) λt57=>za (λK25=>gIf t57 false (px 28 t0 (s14.getD 0 u_) λt61=>fl w24 t61 36 1 3 λt63=>bf .geq 3 t63 t1 λt65=>K25 [t65] w24) (K25 [u_] w24)) (λs26 _d27 w28=>
 zb t57 tr_ (s26.getD 0 u_) λt66=>zc t66 (K (.tuple #[(Value.slice Option.none 0 0),(i6 2)]) w28) (bt .add 3 (s14.getD 0 u_) (i6 1) λt34=>K13 [t34] w28))))) (pw w16 (Instr.makeSlice 144 t1 t1) λt68 w29=>
 px 144 t68 t2 λt71=>so w29 4 t71 tr_ λw30=>zx [tr_] w30 (λs32 _d33 w34 K31=>
 zc (s32.getD 0 u_) (zx [fa_,(i6 0)] w34 (λs36 _d37 w38 K35=>
 pp (Builtin.len_ #[28] 3 #[t0]) λt75=>bf .lss 3 (s36.getD 1 u_) t75 λt76=>zc t76 (za (λK39=>
 px 28 t0 (s36.getD 1 u_) λt82=>fl w38 t82 36 1 3 λt84=>xl w38 144 t68 t84 4 λt86=>za (λK43=>gIf t86 true (px 28 t0 (s36.getD 1 u_) λt91=>fl w38 t91 36 0 3 λt93=>xl w38 144 t68 t93 4 λt95=>pp (Op.unary .not t95) λt96=>K43 [t96] w38) (K43 [u_] w38)) (λs44 _d45 w46=>
 zb t86 (s44.getD 0 u_) fa_ λt97=>zc t97 (px 28 t0 (s36.getD 1 u_) λt101=>fl w46 t101 36 0 3 λt103=>px 144 t68 t103 λt104=>so w46 4 t104 tr_ λw47=>K39 [tr_] w47) (K39 [(s36.getD 0 u_)] w46))) (λs40 _d41 w42=>
 bt .add 3 (s36.getD 1 u_) (i6 1) λt78=>K35 [(s40.getD 0 u_),t78] w42)) (K31 [(s36.getD 0 u_)] w38))) (zx [(Value.slice Option.none 0 0),(i6 0)] w34 (λs49 _d50 w51 K48=>
 bf .lss 3 (s49.getD 1 u_) t1 λt107=>zc t107 (za (λK52=>
 xl w51 144 t68 (s49.getD 1 u_) 4 λt113=>zc t113 (pw w51 (Instr.buildSlice 55 1 #[(0,(s49.getD 1 u_))]) λt116 w56=>
 pw w56 (Builtin.append_ #[55,55] 55 #[(s49.getD 0 u_),t116]) λt117 w57=>
 K52 [t117] w57) (K52 [(s49.getD 0 u_)] w51)) (λs53 _d54 w55=>
 bt .add 3 (s49.getD 1 u_) (i6 1) λt109=>K48 [(s53.getD 0 u_),t109] w55)) (K (.tuple #[(s49.getD 0 u_),(i6 0)]) w51))))))))))
theorem abn{t2:Value}(h:Qg t0 t1 t2 w K):zd prog Zf #[t0,t1,t2] w K:=
 okC false (.s (.r (rz 2 0 0)) (.s (.s (.r (ra 3 0 0 (.grp 16 false (ri 2 3 0) [18] (ra 2 5 0 (.grp 20 false (ri 2 7 0) [22] (ra 2 9 0 (.grp 24 false (ri 3 11 0) [27] (rz 1 14 0)))))))) (.c (.s (.r (rz 2 0 0)) (.n)) (.n))) (.s (.s (.r (rz 1 0 0)) (.b (.lp [8] (.s (.s (.r (rz 4 0 0)) (.c (.n) (.n))) (.s (.b (.s (.r (ra 7 0 256 (.grp 41 false (ri 6 7 256) [47] (ra 2 13 0 (.grp 49 false (ri 7 15 256) [56] (ra 2 22 0 (.grp 58 false (ri 7 24 256) [65] (rz 1 31 0)))))))) (.c (.s (.r (rz 2 0 0)) (.n)) (.n)))) (.r (rz 3 0 0))))))) (.s (.r (rz 3 0 8)) (.s (.r (rz 4 0 128)) (.s (.s (.r (rz 1 0 0)) (.b (.lp [10] (.s (.s (.r (rz 1 0 0)) (.c (.n) (.n))) (.b (.s (.r (rz 1 0 0)) (.s (.r (rz 1 0 0)) (.b (.lp [10,11] (.s (.s (.r (rz 4 0 0)) (.c (.n) (.n))) (.j [10] (.b (.s (.r (ra 9 0 17408 (.grp 87 true (ri 9 9 17408) [96] (rz 1 18 0)))) (.c (.s (.r (rz 8 0 33792)) (.r (rz 1 0 0))) (.n)))) (.r (rz 3 0 0))))))))))))) (.s (.r (rz 1 0 0)) (.s (.s (.r (rz 1 0 0)) (.b (.lp [12,13] (.s (.s (.r (rz 3 0 0)) (.c (.n) (.n))) (.j [12] (.b (.s (.r (rz 4 0 64)) (.c (.r (rz 5 0 160)) (.n)))) (.r (rz 3 0 0))))))) (.s (.r (rz 3 0 0)) (.n)))))))))) func24 rfl (by kernel_rfl) (by kernel_rfl) h
end Go.Proofs.Tryz
end
section
namespace Go.Proofs
open Go.Sh Go.RowKit
variable {r:Gh} {w:World} {t:TyD} {l:List CnD} {K:Value→World→Prop}
theorem af1:∀u∈cns l,u.oneCell'=true:=λu hu=>by
 rw[cns,List.mem_flatMap]at hu
 obtain⟨x,_,hx⟩:=hu
 simp only[List.mem_cons,List.not_mem_nil,or_false]at hx
 rcases hx with rfl|rfl<;>rfl
theorem ahI{p:Option Addr}{n cap:Nat}(hr:Holds r w)(h:SlG 2 r CnC (.slice p n cap) l):Sl w p (cns l):=λi v hv=>by
 have hi:i<l.length*2:=by
  have:=(List.getElem?_eq_some_iff.1 hv).1
  rw[aam]at this;exact this
 have hk:i/2<l.length:=by omega
 obtain⟨b,off,hE,_,_,_,hc⟩:=kJ h hk
 refine⟨b,off,hE,?_⟩
 have h2:((cns l).drop (i/2*2)).take 2=[.int .i64 l[i/2].1,.int .i64 l[i/2].2]:=qR.2 (i/2) hk
 have h3:(((cns l).drop (i/2*2)).take 2)[i%2]? = some v:=by
  rw[List.getElem?_take,if_pos (by omega),List.getElem?_drop,show i/2*2+i%2=i by omega];exact hv
 rw[h2]at h3
 have:=hc (i%2) v h3 w hr
 rwa[show off+i/2*2+i%2=off+i by omega]at this
theorem agX{s:Int}{n:Nat}(h:zw s n t=true)(hk:t.k≠4):t.m=false:=by
 cases n with
 |zero=>cases h
 |succ n=>
  rw[yo]at h
  split at h
  ·simp only[Bool.and_eq_true,Bool.not_eq_true']at h;exact h.1.1.1
  split at h
  ·simp only[Bool.and_eq_true,Bool.not_eq_true']at h;exact h.1.1.1.1
  split at h
  ·simp only[Bool.and_eq_true,Bool.not_eq_true']at h;exact h.1.1.1
  ·first|cases h|(rw[if_neg hk]at h;cases h)
theorem aat{s0:Int}:∀(n:Nat){t u:TyD}{both:Bool}{r:Gh}{w:World}{vt vu:Value}{K:Value→World→Prop},n≤1000→zw s0 n t=true→zw s0 n u=true→bare t=bare u→Holds r w→TyG r vt t→TyG r vu u→
  (∀v' w',Ext w w'→w'.ownsRow w.heap.size 36 2 v' (yu both n t u).length (cns (yu both n t u))→K v' w')→zd Tryz.prog Tryz.xU #[vt,vu,.bool both] w K:=by
 intro n
 induction n with
 |zero=>intro t u both r w vt vu K _ h;cases h
 |succ n ih=>
  intro t u both r w vt vu K hn ht hu hb hr gt gu h
  refine Tryz.aar ?_
  unfold Tryz.Xs
  obtain⟨p1,cap1,rfl,_,_,hof⟩:=gt
  obtain⟨p2,cap2,rfl,_,_,huf⟩:=gu
  have S:=St.start hr
  refine S.box λb3 w1 S=>?_
  refine S.box λb4 w2 S=>?_
  have S:=S.ownNil 36 2
  have S:StX noX w r w2 [.row (.slice none 0 0) 36 2 0 [],.cell b4 (tyL u p2 cap2) 43,.cell b3 (tyL t p1 cap1) 43]:=S
  refine zr (λx w'=>∃v',x=[.bool (both||t.m),v']∧StX noX w r w' [.row v' 36 2 (yF both t u).length (cns (yF both t u)),.cell b4 (tyL u p2 cap2) 43,.cell b3 (tyL t p1 cap1) 43]) (λK3 hK3=>?_) ?_
  ·refine gg_ ?_
   refine zj (λhk=>?_) (λhk=>?_)
   ·refine gg_ ?_
    refine S.lit (e:=36) (cs:=[.int .i64 t.re,.int .i64 u.re]) (by kernel_rfl) λb7 w7 S=>?_
    refine S.ap (v:=.slice none 0 0) (m':=1) (Sl.blk (S.blk b7)) (λv8 w8 S=>?_) (by omega)
    have S:StX noX w r w8 [.row v8 36 2 1 (cns [(t.re,u.re)]),.cell b4 (tyL u p2 cap2) 43,.cell b3 (tyL t p1 cap1) 43]:=S.tl
    refine zr (λx w'=>∃v',x=[v']∧StX noX w r w' [.row v' 36 2 (yF both t u).length (cns (yF both t u)),.cell b4 (tyL u p2 cap2) 43,.cell b3 (tyL t p1 cap1) 43]) (λK4 hK4=>?_) ?_
    ·refine c_b (λhbo=>?_) (λhbo=>?_)
     ·refine gg_ ?_
      refine S.lit (e:=36) (cs:=[.int .i64 u.re,.int .i64 t.re]) (by kernel_rfl) λb9 w9 S=>?_
      refine S.ap (v:=v8) (m':=1) (Sl.blk (S.blk b9)) (λv10 w10 S=>?_) (by omega)
      have e:yF both t u=[(t.re,u.re),(u.re,t.re)]:=by rw[yF,if_pos hk,if_pos hbo]
      refine hK4 _ _ ⟨v10,rfl,?_⟩
      rw[e]
      exact S.tl
     ·have e:yF both t u=[(t.re,u.re)]:=by rw[yF,if_pos hk,if_neg (by rw[hbo];decide)]
      refine hK4 _ _ ⟨v8,rfl,?_⟩
      rw[e]
      exact S
    ·repeat clear S
     rintro _ w9 ⟨v',rfl,S⟩ d
     refine zi (c:=t.m) (λ_ K2 hK2=>by refine gg_ ?_;exact hK2) ?_
     exact hK3 _ _ ⟨v',rfl,S⟩
   ·have e:yF both t u=[]:=by rw[yF,if_neg hk]
    refine hK3 _ _ ⟨.slice none 0 0,by rw[agX ht hk,Bool.or_false],?_⟩
    rw[e]
    exact S
  repeat clear S
  rintro _ w6 ⟨v6,rfl,S⟩ d
  simp only[gdz,gds]
  have hf1:(yF both t u).length≤2:=by
   rw[yF]
   split
   ·split<;>simp
   ·simp
  refine zr (λx w'=>∃v',x=[v']∧StX noX w r w' [.row v' 36 2 (yu both (n+1) t u).length (cns (yu both (n+1) t u)),.cell b4 (tyL u p2 cap2) 43,.cell b3 (tyL t p1 cap1) 43]) (λK3 hK3=>?_) ?_
  ·refine gg_ ?_
   rcases ZZ ht hu hb with⟨h1,h2,h3⟩|⟨x,y,h1,h2,h3,h4,h5⟩
   ·refine c_f (by rw[h1];rfl) ?_
    refine hK3 _ _ ⟨v6,rfl,?_⟩
    rw[aaR h1 h3]
    rwa[yF,if_neg h3]at S
   ·have l1:t.of.length=1:=by rw[h1];rfl
    have l2:u.of.length=1:=by rw[h2];rfl
    obtain⟨ba,oa,rfl,c,hc,hcell,hx⟩:=NdG.of hof (i:=0) (by omega)
    obtain⟨bb,ob,rfl,c',hc',hcell',hy⟩:=NdG.of huf (i:=0) (by omega)
    have hx:TyG r (.agg c.toArray) x:=by simpa [h1]using hx
    have hy:TyG r (.agg c'.toArray) y:=by simpa [h2]using hy
    refine c_t (by rw[l1];rfl) ?_
    have S:=S.go (Ext.drew _)
    refine gg_ ?_
    refine zt (n:=5) hc (λj v hj=>by simpa using S.at (hcell j v hj)) ?_
    refine gg_ ?_
    refine zt (n:=5) hc' (λj v hj=>by simpa using S.at (hcell' j v hj)) ?_
    refine ih (by omega) h3 h4 h5 S.holds hx hy λv9 w9 e9 h9=>?_
    obtain⟨s9,T,h9,_,_⟩:=(S.take e9 h9).doneRow (l:=yu (both||t.m) n x y) qR (by decide) rfl
    have hfw:=JA n (both:=both||t.m) (t:=x) (u:=y)
    obtain⟨p9,cap9,rfl,hp9,_⟩:=h9.shape
    have hsl:=ahI (T.holds.le (h:=inferInstance)) h9
    refine T.ap (v:=v6) (m':=(yu (both||t.m) n x y).length) hsl (λv10 w10 S=>?_) (by omega) aam hp9 af1
    refine hK3 _ _ ⟨v10,rfl,?_⟩
    have S:StX noX w r w10 _:=S.less (λb o h=>.inl h) (List.Sublist.refl _)
    have ec:cns (yu both (n+1) t u)=cns (yF both t u)++cns (yu (both||t.m) n x y):=by
     rw[X5 h1 h2,cns,cns,cns,List.flatMap_append]
    have el:(yu both (n+1) t u).length=(yF both t u).length+(yu (both||t.m) n x y).length:=by
     rw[X5 h1 h2,List.length_append]
    rw[ec,el]
    exact S
  ·repeat clear S
   rintro _ w9 ⟨v',rfl,S⟩ d
   rw[gdz]
   exact h _ _ S.ext (S.give v')
theorem abo{s0:Int}(n:Nat){u:TyD}{both:Bool}{vt vu:Value}{K:Value→World→Prop}(hn:n≤1000)(ht:zw s0 n t=true)(hu:zw s0 n u=true)(hb:bare t=bare u)(hr:Holds r w)(gt:TyG r vt t)(gu:TyG r vu u)
  (h:∀v' s w',Ext w w'→New w s w'→SlG 2 s CnC v' (yu both n t u)→K v' w'):zd Tryz.prog Tryz.xU #[vt,vu,.bool both] w K:=
 aat n hn ht hu hb hr gt gu λv' w' e hw=>by
  obtain⟨s3,T,hs,_,ha3⟩:=((St.start hr).take e hw).doneRow (l:=yu both n t u) qR (by decide) rfl
  exact h _ s3 _ T.ext (StX.newOf (q:=s3) T λb o ho=>(ha3 b o ho).resolve_right id) hs
theorem abp{u:TyD}{vt vu:Value}{K:Value→World→Prop}(hr:Holds r w)(ht:TyG r vt t)(hu:TyG r vu u)
  (h:∀v' s w',Ext w w'→New w s w'→SlG 2 s CnC v' (xQ t u).1→K (.tuple #[v',.int .i64 (xQ t u).2]) w'):zd Tryz.prog Tryz.j6 #[vt,vu] w K:=by
 refine Tryz.aas ?_
 unfold Tryz.Xt
 have ht0:=ht;have hu0:=hu
 obtain⟨p1,cap1,rfl,_⟩:=ht
 obtain⟨p2,cap2,rfl,_⟩:=hu
 have S:=St.start hr
 refine S.box λb2 w1 S=>?_
 refine S.box λb3 w2 S=>?_
 have S:StX noX w r w2 [.cell b3 (tyL u p2 cap2) 43,.cell b2 (tyL t p1 cap1) 43]:=S
 refine S.ldB (b:=b2) ?_ rfl
 refine vK S.holds ht0 λw3 e3=>?_
 have S:=S.go e3
 refine gp_ ?_
 refine y8 (c:=!isB u) (λ_ K2 hK2=>?_) λw5 e5=>?_
 ·refine S.ldB (b:=b3) ?_ rfl
  refine vK S.holds hu0 λw5 e5=>?_
  refine gp_ ?_
  exact hK2 _ e5
 have S:=S.go e5
 refine c_b (λhb=>?_) (λhb=>?_)
 ·have e:xQ t u=([],2):=by
   rw[xQ,if_pos]
   cases hx:isB t<;>cases hy:isB u<;>rw [hx,hy]at hb<;>first|rfl|cases hb
  rw[e]at h
  exact h _ nothing _ S.ext New.nothing SlG.nil
 simp only[Bool.or_eq_false_iff,Bool.not_eq_false']at hb
 obtain⟨hBt,hBu⟩:=hb
 refine S.ldB (b:=b2) ?_ rfl
 refine S.ldB (b:=b3) ?_ rfl
 refine aa6 S.holds ht0 hu0 λw6 e6=>?_
 have S:=S.go e6
 refine gp_ ?_
 refine c_b (λha=>?_) (λha=>?_)
 ·have e:xQ t u=([],150):=by
   rw[xQ,hBt,hBu,if_neg (by decide),if_neg]
   simpa using ha
  rw[e]at h
  exact h _ nothing _ S.ext New.nothing SlG.nil
 have ha:zQ yb t u=true:=by simpa using ha
 have e:xQ t u=(kp false t u,0):=by rw[xQ,hBt,hBu,if_neg (by decide),if_pos ha]
 rw[e]at h
 refine S.ldB (b:=b2) ?_ rfl
 refine S.ldB (b:=b3) ?_ rfl
 refine abo 48 (by decide) hBt hBu ((Vm hBt hBu).1 ha) S.holds ht0 hu0 λv' s w' e n h9=>?_
 obtain⟨S,_,ha9⟩:=S.tell e n
 exact h _ s _ S.ext (S.newOf ha9) h9
end Go.Proofs
end
section
namespace Go.Proofs
open Go.Sh
end Go.Proofs
end
section
namespace Go.Proofs
open Go.Sh Go.RowKit
end Go.Proofs
end
section
namespace Go.Proofs
open Go.Sh
end Go.Proofs
end
section
namespace Go.Proofs
open Go.Sh Go.RowKit
variable {m:List Bool} {l:List CnD} {a:Int} {n:Nat}
structure MkS(l:List CnD)(n:Nat)(a:Int)(m:List Bool):Prop where
 len:m.length=n
 sound:∀x:Nat,m[x]? = some true→Up l a (x:Int)
 first:m[a.toNat]? = some true
theorem MkS.start(h:0≤a∧a<n):MkS l n a ((List.replicate n false).set a.toNat true):=by
 have hl:a.toNat<n:=by omega
 refine⟨by rw[List.length_set,List.length_replicate],λx hx=>?_,by rw[List.getElem?_set_self (by rw[List.length_replicate];exact hl)]⟩
 by_cases e:a.toNat=x
 ·have :(x:Int)=a:=by omega
  rw[this];exact .base
 ·rw[List.getElem?_set_ne e,List.getElem?_replicate]at hx
  split at hx<;>cases hx
theorem MkS.add{c:CnD}(hl:kG l n=true)(h:MkS l n a m)(hc:c∈l)(hs:m[c.2.toNat]? = some true):MkS l n a (m.set c.1.toNat true):=by
 have hi:=kH.1 hl _ hc
 have hlen:=h.len
 refine⟨by rw[List.length_set,h.len],λx hx=>?_,?_⟩
 ·by_cases e:c.1.toNat=x
  ·have h1:=h.sound _ hs
   rw[show ((c.2.toNat:Nat):Int)=c.2 by omega]at h1
   rw[show (x:Int)=c.1 by omega]
   exact .step h1 hc
  ·rw[List.getElem?_set_ne e]at hx;exact h.sound x hx
 ·by_cases e:c.1.toNat=a.toNat
  ·rw[← e,List.getElem?_set_self (by omega)]
  ·rw[List.getElem?_set_ne e];exact h.first
theorem MkS.end(ha:0≤a)(hl:kG l n=true)(h:MkS l n a m)(hd:∀c∈l,m[c.2.toNat]? = some true→m[c.1.toNat]? = some true)(x:Nat)(hx:x<n):m[x]? = some true↔Up l a (x:Int):=by
 refine⟨h.sound x,λhu=>?_⟩
 have key:∀y:Int,Up l a y→m[y.toNat]? = some true:=λy hy=>by
  induction hy with
  |base=>exact h.first
  |@step g s hs hm ih=>exact hd _ hm ih
 have:=key _ hu
 rwa[tnc]at this
open Classical in
theorem MkS.upL(ha:0≤a)(hl:kG l n=true)(h:MkS l n a m)(hd:∀c∈l,m[c.2.toNat]? = some true→m[c.1.toNat]? = some true):
  ((List.range n).filter λx=>decide (m[x]? = some true)).map (λx:Nat=>(x:Int))=upL l n a:=by
 rw[Go.Proofs.upL]
 congr 1
 refine List.filter_congr λx hx=>?_
 exact decide_eq_decide.2 (h.end ha hl hd x (List.mem_range.1 hx))
theorem YQ{x:Int}(h0:0≤x)(h:x<m.length):mk' m x=true↔m[x.toNat]? = some true:=by
 rw[mk',List.getD_eq_getElem?_getD,gqg (show x.toNat<m.length by omega),Option.getD_some,Option.some.injEq]
open Classical in
noncomputable def upM(m:List Bool)(i:Nat):List Int:=((List.range i).filter λx=>decide (m[x]? = some true)).map (λx:Nat=>(x:Int))
open Classical in
theorem acN{i:Nat}:upM m (i+1)=if m[i]? = some true then upM m i++[(i:Int)]else upM m i:=by
 rw[upM,List.range_succ,List.filter_append,List.map_append]
 by_cases h:m[i]? = some true
 ·rw[if_pos h,List.filter_cons,if_pos (decide_eq_true h)];rfl
 ·rw[if_neg h,List.filter_cons,if_neg (by simpa using h)];simp[upM]
theorem agY{i:Nat}:(upM m i).length≤i:=by
 rw[upM,List.length_map]
 exact Nat.le_trans (List.length_filter_le ..) (by simp)
theorem acO{ct a:Int}{v:Value}{w:World}{r:Gh}{K:Value→World→Prop}(hr:Holds r w)(hl:SlG 2 r CnC v l)(hb:l.length≤1000000)
  (h:∀v' s w',Ext w w'→New w s w'→SlG 1 s kD v' (frD l ct a).1→K (.tuple #[v',.int .i64 (frD l ct a).2]) w'):zd Tryz.prog Tryz.Zf #[v,.int .i64 ct,.int .i64 a] w K:=by
 refine Tryz.abn ?_
 unfold Tryz.Qg
 have S:=St.start hr
 obtain⟨p,cap,rfl,_,_⟩:=hl.shape
 have hE:frD l ct a=if (((ct<0∨512<ct)∨a<0)∨ct≤a)∨xR l ct=false then([],2)else(upL l ct.toNat a,0):=rfl
 refine gp_ ?_
 refine zi (c:=decide (ct>512)) (λ_ K2 hK2=>by refine gp_ ?_;exact hK2) ?_
 refine zi (c:=decide (a<0)) (λ_ K2 hK2=>by refine gp_ ?_;exact hK2) ?_
 refine zi (c:=decide (a≥ct)) (λ_ K2 hK2=>by refine gp_ ?_;exact hK2) ?_
 refine c_b (λhbad=>?_) (λhgood=>?_)
 ·have hE:frD l ct a=([],2):=by
   rw[hE,if_pos]
   simp only[Bool.or_eq_true,decide_eq_true_eq]at hbad
   exact .inl hbad
  rw[hE]at h
  exact h _ nothing _ S.ext New.nothing SlG.nil
 simp only[Bool.or_eq_false_iff,decide_eq_false_iff_not]at hgood
 obtain⟨⟨⟨k1,k2⟩,k3⟩,k4⟩:=hgood
 refine zk (ι:=Nat) (λi=>[.int .i64 (i:Nat)]) (λi w'=>i≤l.length∧(∀k (hk:k<l.length),k<i→Ym ct l[k]=false)∧StX noX w r w' []) (λi=>l.length-i) 0 rfl ⟨Nat.zero_le _,λk hk h0=>absurd h0 (Nat.not_lt_zero _),S⟩ ?_
 repeat clear S
 rintro i d w6 ⟨hi,hin,S⟩ K4 hK4
 rw[gdz]
 refine gp_ ?_
 refine gp_ ?_
 refine zj (λhlt=>?_) (λhge=>?_)
 ·have hlt:i<l.length:=by omega
  obtain⟨b,off,hpE,_,hc1,hc2,_⟩:=kJ hl hlt
  rw[hpE]
  have ld1:∀{K:Value→Prop},K (.int .i64 l[i].1)→opQ Tryz.prog w6 (Instr.loadAt 3 (.pointer (some ⟨b,off+i*2,none⟩))) K:=fun {K} hK=>zh (S.at hc1) hK
  have ld2:∀{K:Value→Prop},K (.int .i64 l[i].2)→opQ Tryz.prog w6 (Instr.loadAt 3 (.pointer (some ⟨b,off+i*2+1,none⟩))) K:=fun {K} hK=>zh (S.at hc2) hK
  refine gg_ ?_
  refine zh (v:=.int .i64 l[i].1) (by simpa using S.at hc1) ?_
  refine gp_ ?_
  refine zi (c:=decide (l[i].2<0)) (λ_ K2 hK2=>by refine gg_ ?_;refine zh (v:=.int .i64 l[i].2) (by simpa using S.at hc2) ?_;refine gp_ ?_;exact hK2) ?_
  refine zi (c:=decide (l[i].1≥ct)) (λ_ K2 hK2=>by refine gg_ ?_;refine zh (v:=.int .i64 l[i].1) (by simpa using S.at hc1) ?_;refine gp_ ?_;exact hK2) ?_
  refine zi (c:=decide (l[i].2≥ct)) (λ_ K2 hK2=>by refine gg_ ?_;refine zh (v:=.int .i64 l[i].2) (by simpa using S.at hc2) ?_;refine gp_ ?_;exact hK2) ?_
  refine c_b (λhbad=>?_) (λhok=>?_)
  ·have hE:frD l ct a=([],2):=by
    rw[hE,if_pos]
    refine .inr ?_
    rw[xR,Bool.not_eq_false',List.any_eq_true]
    refine⟨_,List.getElem_mem hlt,?_⟩
    simp only[Bool.or_eq_true,decide_eq_true_eq]at hbad
    rw[Ym,Bool.or_eq_true,decide_eq_true_eq,decide_eq_true_eq]
    omega
   rw[hE]at h
   exact h _ nothing _ S.ext New.nothing SlG.nil
  ·refine gp_ ?_
   refine hK4 (i+1) _ ⟨hlt,λk hk hki=>?_,S⟩ (by omega)
   rcases Nat.lt_or_ge k i with h|h
   ·exact hin k hk h
   ·obtain rfl:k=i:=by omega
    simp only[Bool.or_eq_false_iff,decide_eq_false_iff_not]at hok
    rw[Ym,Bool.or_eq_false_iff,decide_eq_false_iff_not,decide_eq_false_iff_not]
    omega
 obtain rfl:i=l.length:=by omega
 clear hK4
 have k5:xR l ct=true:=by
  rw[xR,Bool.not_eq_true',List.any_eq_false]
  intro c hc
  obtain⟨k,hk,rfl⟩:=List.getElem_of_mem hc
  rw[hin k hk hk];decide
 have hE:frD l ct a=(upL l ct.toNat a,0):=by rw[hE,if_neg];rw[k5];simp;omega
 rw[hE]at h
 obtain⟨n,rfl⟩:∃n:Nat,ct=(n:Int):=⟨ct.toNat,by omega⟩
 rw[tnc]at h
 rw[j0]at k5
 refine S.mkS (by omega) (by omega) λb15 w7 S=>?_
 rw[tnc]at S⊢
 rw[agS]at S
 refine gp_ ?_
 refine S.st (b:=b15) (λw8 S=>?_) (by rw[ady,List.length_replicate];omega)
 have S:StX noX w r w8 [.cell b15 (bls (Jz (List.replicate n false) a)) 4]:=by rw[← adz (by omega)];exact S
 refine zk (ι:=Bool×List Bool) (λi=>[.bool i.1]) (λi w'=>MkS l n a i.2∧(i.1=false→∀c∈l,i.2[c.2.toNat]? = some true→i.2[c.1.toNat]? = some true)∧StX noX w r w' [.cell b15 (bls i.2) 4]) (λi=>2*off i.2+(if i.1=true then 1 else 0)) (true,Jz (List.replicate n false) a) rfl ⟨MkS.start (by omega),(λh=>by cases h),S⟩ ?_
 repeat clear S
 rintro⟨bm,m⟩ d w9 ⟨hM,hcl,S⟩ K5 hK5
 rw[gdz]
 have hM:MkS l n a m:=hM
 have hlen:=hM.len
 have S:StX noX w r w9 [.cell b15 (bls m) 4]:=S
 refine c_b (λhbm=>?_) (λhbm=>?_)
 ·refine zk (ι:=(Bool×List Bool)×Nat) (λj=>[.bool j.1.1,.int .i64 (j.2:Nat)]) (λj w'=>MkS l n a j.1.2∧j.2≤l.length∧(j.1.1=false→j.1.2=m∧∀k (hk:k<l.length),k<j.2→m[l[k].2.toNat]? = some true→m[l[k].1.toNat]? = some true)∧(j.1.1=true→off j.1.2<off m)∧StX noX w r w' [.cell b15 (bls j.1.2) 4]) (λj=>l.length-j.2) ((false,m),0) rfl ⟨hM,Nat.zero_le _,λ_=>⟨rfl,λk hk h0=>absurd h0 (Nat.not_lt_zero _)⟩,(λh=>by cases h),S⟩ ?_
  repeat clear S
  rintro⟨⟨b2,m2⟩,j⟩ d w10 ⟨hM2,hj,hf,ht,S⟩ K6 hK6
  simp only[gdz,gds]
  have hM2:MkS l n a m2:=hM2
  have hj:j≤l.length:=hj
  have hf:b2=false→m2=m∧∀k (hk:k<l.length),k<j→m[l[k].2.toNat]? = some true→m[l[k].1.toNat]? = some true:=hf
  have ht:b2=true→off m2<off m:=ht
  have S:StX noX w r w10 [.cell b15 (bls m2) 4]:=S
  have hlen2:=hM2.len
  refine gp_ ?_
  refine gp_ ?_
  refine zj (λhltj=>?_) (λhgej=>?_)
  ·have hltj:j<l.length:=by omega
   have hjx:=kH.1 k5 _ (List.getElem_mem hltj)
   refine zr (λx w'=>∃b3 m3,x=[.bool b3]∧MkS l n a m3∧(b3=false→m3=m∧∀k (hk:k<l.length),k<j+1→m[l[k].2.toNat]? = some true→m[l[k].1.toNat]? = some true)∧(b3=true→off m3<off m)∧StX noX w r w' [.cell b15 (bls m3) 4]) (λK3 hK3=>?_) ?_
   ·obtain⟨b,o,hpE,_,hc1,hc2,_⟩:=kJ hl hltj
    rw[hpE]
    refine gg_ ?_
    refine zh (v:=.int .i64 l[j].2) (by simpa using S.at hc2) ?_
    refine gp_ ?_
    refine S.ld (b:=b15) ?_ (acu (by omega))
    refine zo (c:=!mk' m2 l[j].1) (λhb K2 hK2=>?_) ?_
    ·refine gg_ ?_
     refine zh (v:=.int .i64 l[j].1) (by simpa using S.at hc1) ?_
     refine gp_ ?_
     refine S.ld (b:=b15) ?_ (acu (by omega))
     refine gp_ ?_
     exact hK2
    refine c_b (λhy=>?_) (λhn=>?_)
    ·simp only[Bool.and_eq_true,Bool.not_eq_true']at hy
     obtain⟨y1,y2⟩:=hy
     refine gg_ ?_
     refine zh (v:=.int .i64 l[j].1) (by simpa using S.at hc1) ?_
     refine gp_ ?_
     refine S.st (b:=b15) (λw11 S=>?_) (by rw[ady];omega)
     have ho:=agL (m:=m2) (q:=l[j].1) (by omega) y2
     refine hK3 _ _ ⟨true,Jz m2 l[j].1,rfl,hM2.add k5 (List.getElem_mem hltj) ((YQ (by omega) (by omega)).1 y1),(λh=>by cases h),λ_=>?_,?_⟩
     ·cases b2 with
      |true=>have h3:off m2<off m:=ht rfl;omega
      |false=>rw [(hf rfl).1]at ho⊢;omega
     ·rw[← adz (by omega)];exact S
    ·refine hK3 _ _ ⟨b2,m2,rfl,hM2,λh2=>⟨(hf h2).1,λk hk hkj hx=>?_⟩,ht,S⟩
     rcases Nat.lt_or_ge k j with h1|h1
     ·exact(hf h2).2 k hk h1 hx
     ·obtain rfl:k=j:=by omega
      have hm2:=(hf h2).1
      rw[hm2]at hn
      rw[(YQ (by omega) (by omega)).2 hx]at hn
      exact(YQ (by omega) (by omega)).1 (by simpa using hn)
   ·repeat clear S
    rintro _ w11 ⟨b3,m3,rfl,hM3,hf3,ht3,S⟩ d
    rw[gdz]
    refine gp_ ?_
    exact hK6 ((b3,m3),j+1) _ ⟨hM3,hltj,hf3,ht3,S⟩ (by show l.length-(j+1)<l.length-j;omega)
  ·obtain rfl:j=l.length:=by omega
   refine hK5 (b2,m2) _ ⟨hM2,λh2 c hc hx=>?_,S⟩ ?_
   ·have h2:b2=false:=h2
    have hm2:=(hf h2).1
    subst hm2
    obtain⟨k,hk,rfl⟩:=List.getElem_of_mem hc
    exact(hf h2).2 k hk hk hx
   ·show 2*off m2+(if b2=true then 1 else 0)<2*off m+(if bm=true then 1 else 0)
    rw[if_pos hbm]
    cases b2 with
    |true=>have h3:off m2<off m:=ht rfl;rw[if_pos rfl];omega
    |false=>rw [(hf rfl).1,if_neg (by decide)];omega
 ·have hcl:∀c∈l,m[c.2.toNat]? = some true→m[c.1.toNat]? = some true:=hcl hbm
  have hup:upM m n=upL l n a:=hM.upL (by omega) k5 hcl
  have S:=S.ownNil 3 1
  refine zk (ι:=Value×Nat) (λi=>[i.1,.int .i64 (i.2:Nat)]) (λi w'=>i.2≤n∧StX noX w r w' [.row i.1 3 1 (upM m i.2).length (ints (upM m i.2)),.cell b15 (bls m) 4]) (λi=>n-i.2) (.slice none 0 0,0) rfl ⟨Nat.zero_le _,S⟩ ?_
  repeat clear S
  rintro⟨v,i⟩ d w10 ⟨hi,S⟩ K6 hK6
  simp only[gdz,gds]
  have hi:i≤n:=hi
  have S:StX noX w r w10 [.row v 3 1 (upM m i).length (ints (upM m i)),.cell b15 (bls m) 4]:=S
  have hfew:=agY (m:=m) (i:=i)
  refine gp_ ?_
  refine zj (λhlt=>?_) (λhge=>?_)
  ·have hlt:i<n:=by omega
   refine zr (λx w'=>∃v',x=[v']∧StX noX w r w' [.row v' 3 1 (upM m (i+1)).length (ints (upM m (i+1))),.cell b15 (bls m) 4]) (λK3 hK3=>?_) ?_
   ·refine gp_ ?_
    refine S.ld (b:=b15) ?_ (acu (by omega))
    refine c_b (λhy=>?_) (λhn=>?_)
    ·refine S.lit (e:=3) (cs:=[.int .i64 (i:Nat)]) (by kernel_rfl) λb12 w12 S=>?_
     refine S.ap (v:=v) (m':=1) (Sl.blk (S.blk b12)) (λv4 w13 S=>?_) (by omega)
     refine hK3 _ _ ⟨v4,rfl,?_⟩
     rw[acN,if_pos (by simpa using(YQ (m:=m) (x:=(i:Int)) (by omega) (by omega)).1 hy)]
     have hi2:ints (upM m i++[(i:Int)])=ints (upM m i)++[.int .i64 (i:Nat)]:=by rw[ints,List.map_append];rfl
     rw[hi2,List.length_append,List.length_singleton]
     exact S.tl
    ·refine hK3 _ _ ⟨v,rfl,?_⟩
     rw[acN,if_neg λh2=>?_]
     ·exact S
     ·rw[(YQ (m:=m) (x:=(i:Int)) (by omega) (by omega)).2 (by simpa using h2)]at hn;cases hn
   ·repeat clear S
    rintro _ w11 ⟨v',rfl,S⟩ d
    rw[gdz]
    refine gp_ ?_
    exact hK6 (v',i+1) _ ⟨hlt,S⟩ (by show n-(i+1)<n-i;omega)
  ·obtain rfl:i=n:=by omega
   obtain⟨s,T,hs,_,ha⟩:=S.doneRow (l:=upM m i) jM (by decide) rfl
   rw[hup]at hs
   exact h _ s _ T.ext (StX.newOf (q:=s) T λb o ho=>(ha b o ho).resolve_right id) hs
end Go.Proofs
end
section
namespace Go.Proofs.Tryz
open Go.Sh
variable {w:World} {K:VW} {t0 t1:Value}
def jo(t0 t1 t2 t3 t4 t5:Value)(w:World)(K:VW):Prop:=
 pw w (Instr.box 43 t0) λt6 w1=>
 pw w1 (Instr.box 43 t1) λt7 w2=>
 lo w2 43 t6 λt27=>ca xb #[t27,(i6 60)] w2 λt28 w3=>
 pp (Op.unary .not t28) λt29=>za (λK4=>gIf t29 false (lo w3 43 t7 λt31=>ca xb #[t31,(i6 60)] w3 λt32 w8=>
 pp (Op.unary .not t32) λt33=>K4 [t33] w8) (K4 [u_] w3)) (λs5 _d6 w7=>
 zb t29 tr_ (s5.getD 0 u_) λt34=>za (λK9=>gIf t34 false (pp (Builtin.len_ #[28] 3 #[t2]) λt37=>bt .gtr 3 t37 (i6 600) λt38=>K9 [t38] w7) (K9 [u_] w7)) (λs10 _d11 w12=>
 zb t34 tr_ (s10.getD 0 u_) λt39=>za (λK13=>gIf t39 false (pp (Builtin.len_ #[44] 3 #[t3]) λt42=>bt .gtr 3 t42 (i6 600) λt43=>K13 [t43] w12) (K13 [u_] w12)) (λs14 _d15 w16=>
 zb t39 tr_ (s14.getD 0 u_) λt44=>zc t44 (ca xV #[] w16 λt45 w17=>
 K t45 w17) (zx [(i6 0)] w16 (λs19 _d20 w21 K18=>
 pp (Builtin.len_ #[44] 3 #[t3]) λt48=>bf .lss 3 (s19.getD 0 u_) t48 λt49=>zc t49 (px 44 t3 (s19.getD 0 u_) λt54=>fl w21 t54 48 1 46 λt56=>pp (Builtin.len_ #[46] 3 #[t56]) λt57=>bt .gtr 3 t57 (i6 100) λt58=>zc t58 (ca xV #[] w21 λt59 w22=>
 K t59 w22) (bt .add 3 (s19.getD 0 u_) (i6 1) λt51=>K18 [t51] w21)) (lo w21 43 t6 λt61=>lo w21 43 t7 λt62=>ca km #[t61,t62] w21 λt63 w23=>
 pe t63 0 λt64=>pe t63 1 λt65=>lo w23 43 t6 λt67=>lo w23 43 t7 λt68=>ca j6 #[t67,t68] w23 λt69 w24=>
 pe t69 0 λt70=>pe t69 1 λt71=>bf .neq 3 t65 t71 λt74=>za (λK25=>gIf t74 false (ca Zg #[t64,t70] w24 λt78 w29=>
 pp (Op.unary .not t78) λt79=>K25 [t79] w29) (K25 [u_] w24)) (λs26 _d27 w28=>
 zb t74 tr_ (s26.getD 0 u_) λt80=>zc t80 (K fa_ w28) (ca xa #[t2,t3] w28 λt84 w30=>
 pe t84 0 λt85=>pe t84 1 λt86=>pe t84 2 λt87=>pe t84 3 λt88=>ca kO #[t2,t3] w30 λt92 w31=>
 pe t92 0 λt93=>pe t92 1 λt94=>pe t92 2 λt95=>pe t92 3 λt96=>bf .neq 3 t85 t93 λt99=>za (λK32=>gIf t99 false (bf .neq 3 t86 t94 λt103=>K32 [t103] w31) (K32 [u_] w31)) (λs33 _d34 w35=>
 zb t99 tr_ (s33.getD 0 u_) λt104=>za (λK36=>gIf t104 false (bf .neq 4 t87 t95 λt108=>K36 [t108] w35) (K36 [u_] w35)) (λs37 _d38 w39=>
 zb t104 tr_ (s37.getD 0 u_) λt109=>za (λK40=>gIf t109 false (bf .neq 3 t88 t96 λt113=>K40 [t113] w39) (K40 [u_] w39)) (λs41 _d42 w43=>
 zb t109 tr_ (s41.getD 0 u_) λt114=>zc t114 (K fa_ w43) (ca kN #[t2,t4,t5] w43 λt119 w44=>
 pe t119 0 λt120=>pe t119 1 λt121=>ca Zf #[t2,t4,t5] w44 λt126 w45=>
 pe t126 0 λt127=>pe t126 1 λt128=>bf .neq 3 t121 t128 λt131=>za (λK46=>gIf t131 false (pp (Builtin.len_ #[55] 3 #[t120]) λt134=>pp (Builtin.len_ #[55] 3 #[t127]) λt136=>bf .neq 3 t134 t136 λt137=>K46 [t137] w45) (K46 [u_] w45)) (λs47 _d48 w49=>
 zb t131 tr_ (s47.getD 0 u_) λt138=>zc t138 (K fa_ w49) (zx [(i6 0)] w49 (λs51 _d52 w53 K50=>
 pp (Builtin.len_ #[55] 3 #[t120]) λt141=>bf .lss 3 (s51.getD 0 u_) t141 λt142=>zc t142 (xl w53.drew 55 t120 (s51.getD 0 u_) 3 λt148=>xl w53.drew 55 t127 (s51.getD 0 u_) 3 λt152=>bf .neq 3 t148 t152 λt153=>zc t153 (K fa_ w53.drew) (bt .add 3 (s51.getD 0 u_) (i6 1) λt144=>K50 [t144] w53.drew)) (ca xV #[] w53 λt154 w54=>
 K t154 w54))))))))))))))))
theorem Xb{t2 t3 t4 t5:Value}(h:jo t0 t1 t2 t3 t4 t5 w K):zd prog jl #[t0,t1,t2,t3,t4,t5] w K:=
 okC false (.s (.r (rz 3 0 10)) (.s (.s (.r (ra 4 0 9 (.grp 30 false (ri 3 4 9) [33] (ra 2 7 0 (.grp 35 false (ri 3 9 0) [38] (ra 2 12 0 (.grp 40 false (ri 3 14 0) [43] (rz 1 17 0)))))))) (.c (.s (.r (rz 2 0 2)) (.n)) (.n))) (.s (.s (.r (rz 1 0 0)) (.b (.lp [13] (.s (.s (.r (rz 4 0 0)) (.c (.n) (.n))) (.s (.b (.s (.r (rz 7 0 256)) (.c (.s (.r (rz 2 0 2)) (.n)) (.n)))) (.r (rz 3 0 0))))))) (.s (.r (rz 8 0 37)) (.s (.r (rz 8 0 37)) (.s (.s (.r (ra 4 0 0 (.grp 75 false (ri 4 4 32) [79] (rz 1 8 0)))) (.c (.s (.r (rz 1 0 0)) (.n)) (.n))) (.s (.r (rz 12 0 32)) (.s (.r (rz 12 0 32)) (.s (.s (.r (ra 4 0 0 (.grp 100 false (ri 3 4 0) [103] (ra 2 7 0 (.grp 105 false (ri 3 9 0) [108] (ra 2 12 0 (.grp 110 false (ri 3 14 0) [113] (rz 1 17 0)))))))) (.c (.s (.r (rz 1 0 0)) (.n)) (.n))) (.s (.r (rz 9 0 128)) (.s (.r (rz 9 0 128)) (.s (.s (.r (ra 4 0 0 (.grp 132 false (ri 5 4 0) [137] (rz 1 9 0)))) (.c (.s (.r (rz 1 0 0)) (.n)) (.n))) (.s (.s (.r (rz 1 0 0)) (.b (.lp [26] (.s (.s (.r (rz 4 0 0)) (.c (.n) (.n))) (.s (.b (.s (.r (rz 9 0 16448)) (.c (.s (.r (rz 1 0 0)) (.n)) (.n)))) (.r (rz 3 0 0))))))) (.s (.r (rz 2 0 2)) (.n))))))))))))))) func4 rfl (by kernel_rfl) (by kernel_rfl) h
def Xu(w:World)(K:VW):Prop:=
 ca Zh #[] w λt14 w1=>
 pw w1 (Instr.alloc 25 true (.tuple #[])) λt1 w2=>
 so w2 25 t1 t14 λw3=>lo w3 25 t1 λt16=>ca qZ #[t16,(i6 0)] w3 λt17 w4=>
 pe t17 0 λt18=>pe t17 1 λt19=>lo w4 25 t1 λt21=>ca Ze #[t21,(i6 0),(i6 0)] w4 λt22 w5=>
 pe t22 0 λt23=>pe t22 1 λt24=>ca vI #[(i6 1)] w5 λt26 w6=>
 ca vI #[(i6 2)] w6 λt27 w7=>
 ca km #[t26,t27] w7 λt28 w8=>
 pe t28 0 λt29=>pe t28 1 λt30=>ca kN #[t18,(i6 2),(i6 0)] w8 λt33 w9=>
 pe t33 0 λt34=>pe t33 1 λt35=>pp (Instr.build 48 #[]) λt38=>pp (Instr.build 48 #[]) λt39=>pw w9 (Instr.buildSlice 44 2 #[(0,t38),(1,t39)]) λt40 w10=>
 ca xa #[t18,t40] w10 λt41 w11=>
 pe t41 0 λ_t42=>pe t41 1 λ_t43=>pe t41 2 λt44=>pe t41 3 λt45=>bt .eql 29 t19 (i6 0) λt47=>za (λK12=>gIf t47 true (pp (Builtin.len_ #[28] 3 #[t18]) λt50=>bt .eql 3 t50 (i6 1) λt51=>K12 [t51] w11) (K12 [u_] w11)) (λs13 _d14 w15=>
 zb t47 (s13.getD 0 u_) fa_ λt52=>za (λK16=>gIf t52 true (xl w15 28 t18 (i6 0) 36 λt56=>pp (Instr.build 36 #[(0,(i6 1)),(1,(i6 0))]) λt57=>pq w15 (zC .eql 36 false t56 t57) λt58=>K16 [t58] w15) (K16 [u_] w15)) (λs17 _d18 w19=>
 zb t52 (s17.getD 0 u_) fa_ λt59=>za (λK20=>gIf t59 true (bt .eql 29 t24 (i6 0) λt62=>K20 [t62] w19) (K20 [u_] w19)) (λs21 _d22 w23=>
 zb t59 (s21.getD 0 u_) fa_ λt63=>za (λK24=>gIf t63 true (pp (Builtin.len_ #[28] 3 #[t23]) λt66=>bt .eql 3 t66 (i6 1) λt67=>K24 [t67] w23) (K24 [u_] w23)) (λs25 _d26 w27=>
 zb t63 (s25.getD 0 u_) fa_ λt68=>za (λK28=>gIf t68 true (bt .eql 29 t30 (i6 0) λt71=>K28 [t71] w27) (K28 [u_] w27)) (λs29 _d30 w31=>
 zb t68 (s29.getD 0 u_) fa_ λt72=>za (λK32=>gIf t72 true (pp (Builtin.len_ #[28] 3 #[t29]) λt75=>bt .eql 3 t75 (i6 1) λt76=>K32 [t76] w31) (K32 [u_] w31)) (λs33 _d34 w35=>
 zb t72 (s33.getD 0 u_) fa_ λt77=>za (λK36=>gIf t77 true (bt .eql 29 t35 (i6 0) λt80=>K36 [t80] w35) (K36 [u_] w35)) (λs37 _d38 w39=>
 zb t77 (s37.getD 0 u_) fa_ λt81=>za (λK40=>gIf t81 true (pp (Builtin.len_ #[55] 3 #[t34]) λt84=>bt .eql 3 t84 (i6 2) λt85=>K40 [t85] w39) (K40 [u_] w39)) (λs41 _d42 w43=>
 zb t81 (s41.getD 0 u_) fa_ λt86=>za (λK44=>gIf t86 true (K44 [t44] w43) (K44 [u_] w43)) (λs45 _d46 w47=>
 zb t86 (s45.getD 0 u_) fa_ λt89=>za (λK48=>gIf t89 true (bt .eql 29 t45 (i6 0) λt92=>K48 [t92] w47) (K48 [u_] w47)) (λs49 _d50 w51=>
 zb t89 (s49.getD 0 u_) fa_ λt93=>K t93 w51))))))))))
theorem aau(h:Xu  w K):zd prog xV #[] w K:=
 okC false (.s (.r (rz 1 0 0)) (.s (.r (rz 3 0 42)) (.s (.r (rz 7 0 9)) (.s (.r (rz 7 0 9)) (.s (.r (rz 8 0 42)) (.s (.r (rz 7 0 8)) (.s (.r (rz 14 0 640)) (.s (.r (ra 3 0 0 (.grp 48 true (ri 3 3 0) [51] (ra 2 6 0 (.grp 53 true (ri 5 8 272) [58] (ra 2 13 0 (.grp 60 true (ri 2 15 0) [62] (ra 2 17 0 (.grp 64 true (ri 3 19 0) [67] (ra 2 22 0 (.grp 69 true (ri 2 24 0) [71] (ra 2 26 0 (.grp 73 true (ri 3 28 0) [76] (ra 2 31 0 (.grp 78 true (ri 2 33 0) [80] (ra 2 35 0 (.grp 82 true (ri 3 37 0) [85] (ra 2 40 0 (.grp 87 true (ri 1 42 0) [88] (ra 2 43 0 (.grp 90 true (ri 2 45 0) [92] (rz 2 47 0)))))))))))))))))))))) (.n))))))))) func12 rfl (by kernel_rfl) (by kernel_rfl) h
def Qh(t0 t1:Value)(w:World)(K:VW):Prop:=
 pp (Builtin.len_ #[28] 3 #[t0]) λt7=>pp (Builtin.len_ #[28] 3 #[t1]) λt9=>bf .neq 3 t7 t9 λt10=>zc t10 (K fa_ w) (zx [(i6 0)] w (λs2 _d3 w4 K1=>
 pp (Builtin.len_ #[28] 3 #[t0]) λt13=>bf .lss 3 (s2.getD 0 u_) t13 λt14=>zc t14 (xl w4.drew 28 t0 (s2.getD 0 u_) 36 λt20=>xl w4.drew 28 t1 (s2.getD 0 u_) 36 λt24=>pq w4.drew (zC .neq 36 false t20 t24) λt25=>zc t25 (K fa_ w4.drew) (bt .add 3 (s2.getD 0 u_) (i6 1) λt16=>K1 [t16] w4.drew)) (K tr_ w4)))
theorem abq(h:Qh t0 t1 w K):zd prog Zg #[t0,t1] w K:=
 okC false (.s (.r (rz 1 0 0)) (.s (.s (.r (rz 5 0 0)) (.c (.s (.r (rz 1 0 0)) (.n)) (.n))) (.s (.s (.r (rz 1 0 0)) (.b (.lp [5] (.s (.s (.r (rz 4 0 0)) (.c (.n) (.n))) (.s (.b (.s (.r (rz 9 0 81984)) (.c (.s (.r (rz 1 0 0)) (.n)) (.n)))) (.r (rz 3 0 0))))))) (.s (.r (rz 1 0 0)) (.n))))) func15 rfl (by kernel_rfl) (by kernel_rfl) h
def qD(t0 t1:Value)(w:World)(K:VW):Prop:=
 pw w (Instr.box 43 t0) λt2 w1=>
 bt .eql 3 t1 (i6 0) λt7=>za (λK2=>gIf t7 false (fl w1 t2 43 4 41 λt10=>pp (Builtin.len_ #[41] 3 #[t10]) λt11=>bt .gtr 3 t11 (i6 3) λt12=>K2 [t12] w1) (K2 [u_] w1)) (λs3 _d4 w5=>
 zb t7 tr_ (s3.getD 0 u_) λt13=>zc t13 (K fa_ w5) (zx [(i6 0)] w5 (λs7 _d8 w9 K6=>
 fl w9 t2 43 4 41 λt16=>pp (Builtin.len_ #[41] 3 #[t16]) λt17=>bf .lss 3 (s7.getD 0 u_) t17 λt18=>zc t18 (fl w9 t2 43 4 41 λt22=>xl w9 41 t22 (s7.getD 0 u_) 43 λt25=>bt .sub 3 t1 (i6 1) λt27=>pp (Builtin.min_ #[3,3] 3 #[(s7.getD 0 u_),(i6 1)]) λt29=>bt .mul 3 (i6 57) t29 λt30=>bt .sub 3 (i6 60) t30 λt31=>pp (Builtin.min_ #[3,3] 3 #[t27,t31]) λt32=>ca xb #[t25,t32] w9 λt33 w10=>
 pp (Op.unary .not t33) λt34=>zc t34 (K fa_ w10) (bt .add 3 (s7.getD 0 u_) (i6 1) λt20=>K6 [t20] w10)) (K tr_ w9))))
theorem vD(h:qD t0 t1 w K):zd prog xb #[t0,t1] w K:=
 okC false (.s (.r (rz 2 0 2)) (.s (.s (.r (ra 3 0 0 (.grp 8 false (ri 4 3 4) [12] (rz 1 7 0)))) (.c (.s (.r (rz 1 0 0)) (.n)) (.n))) (.s (.s (.r (rz 1 0 0)) (.b (.lp [5] (.s (.s (.r (rz 5 0 16)) (.c (.n) (.n))) (.s (.b (.s (.r (rz 14 0 33554692)) (.c (.s (.r (rz 1 0 0)) (.n)) (.n)))) (.r (rz 3 0 0))))))) (.s (.r (rz 1 0 0)) (.n))))) func18 rfl (by kernel_rfl) (by kernel_rfl) h
def Qi(w:World)(K:VW):Prop:=
 pw w (Instr.alloc 25 true (.tuple #[])) λt0 w1=>
 pw w1 (Instr.buildSlice 78 1 #[(0,(i6 (-1)))]) λt2 w2=>
 pp (Instr.build 80 #[(0,(i6 2)),(1,t2)]) λt3=>pw w2 (Instr.alloc 80 true (.tuple #[])) λt1 w3=>
 so w3 80 t1 t3 λw4=>pp (Instr.build 80 #[(0,(i6 2))]) λt9=>pp (Instr.build 80 #[(0,(i6 1))]) λt10=>pp (Instr.build 96 #[(0,(Value.int .u8 4)),(1,t9),(6,t10),(7,tr_),(10,(i6 1))]) λt11=>pp (Instr.build 80 #[(0,(i6 1))]) λt12=>lo w4.drew 80 t1 λt15=>pp (Instr.build 96 #[(0,(Value.int .u8 14))]) λt18=>((ca yZ #[] w4.drew λt4 w5=>
 Ext w4.drew w5∧
 ((ca yZ #[] w5 λt5 w6=>
 Ext w5 w6∧
 ((ca xr #[tr_] w6 λt6 w7=>
 Ext w6 w7∧
 ((pw w7 (Instr.buildSlice 41 3 #[(0,t4),(1,t5),(2,t6)]) λt7 w8=>
 Ext w7 w8∧
 ((pw w8 (Instr.makeSlice 98 (i6 3) (i6 3)) λt8 w9=>
 Ext w8 w9∧
 ca zm #[(i6 2)] w9 λt13 w10=>
 Ext w9 w10∧
 pp (Instr.build 96 #[(0,(Value.int .u8 1)),(1,t12),(2,t13),(10,(i6 2))]) λt14=>ca zm #[(i6 3)] w10 λt16 w11=>
 Ext w10 w11∧
 pp (Instr.build 96 #[(0,(Value.int .u8 1)),(1,t15),(2,t16),(10,(i6 3))]) λt17=>pw w11 (Instr.buildSlice 99 4 #[(0,t11),(1,t14),(2,t17),(3,t18)]) λt19 w12=>
 pp (Instr.build 101 #[(4,t7),(5,t8),(6,t19)]) λt20=>pw w12 (Instr.buildSlice 23 1 #[(0,t20)]) λt21 w13=>
 pp (Instr.build 25 #[(1,t21)]) λt22=>so w13 25 t0 t22 λw14=>pq w14 (ze 25 t0) λr15=>K r15 w14)∧
 (ca zm #[(i6 2)] w8 λt13_17 w16=>
 Ext w8 w16∧
 pp (Instr.build 96 #[(0,(Value.int .u8 1)),(1,t12),(2,t13_17),(10,(i6 2))]) λt14_18=>((pw w16 (Instr.makeSlice 98 (i6 3) (i6 3)) λt8_20 w19=>
 Ext w16 w19∧
 ca zm #[(i6 3)] w19 λt16_22 w21=>
 Ext w19 w21∧
 pp (Instr.build 96 #[(0,(Value.int .u8 1)),(1,t15),(2,t16_22),(10,(i6 3))]) λt17_23=>pw w21 (Instr.buildSlice 99 4 #[(0,t11),(1,t14_18),(2,t17_23),(3,t18)]) λt19_25 w24=>
 pp (Instr.build 101 #[(4,t7),(5,t8_20),(6,t19_25)]) λt20_26=>pw w24 (Instr.buildSlice 23 1 #[(0,t20_26)]) λt21_28 w27=>
 pp (Instr.build 25 #[(1,t21_28)]) λt22_29=>so w27 25 t0 t22_29 λw30=>pq w30 (ze 25 t0) λr31=>K r31 w30)∧
 (ca zm #[(i6 3)] w16 λt16_33 w32=>
 Ext w16 w32∧
 pp (Instr.build 96 #[(0,(Value.int .u8 1)),(1,t15),(2,t16_33),(10,(i6 3))]) λt17_34=>((pw w32 (Instr.makeSlice 98 (i6 3) (i6 3)) λt8_36 w35=>
 Ext w32 w35∧
 pw w35 (Instr.buildSlice 99 4 #[(0,t11),(1,t14_18),(2,t17_34),(3,t18)]) λt19_38 w37=>
 pp (Instr.build 101 #[(4,t7),(5,t8_36),(6,t19_38)]) λt20_39=>pw w37 (Instr.buildSlice 23 1 #[(0,t20_39)]) λt21_41 w40=>
 pp (Instr.build 25 #[(1,t21_41)]) λt22_42=>so w40 25 t0 t22_42 λw43=>pq w43 (ze 25 t0) λr44=>K r44 w43)∧
 (pw w32 (Instr.buildSlice 99 4 #[(0,t11),(1,t14_18),(2,t17_34),(3,t18)]) λt19_46 w45=>
 pw w45 (Instr.makeSlice 98 (i6 3) (i6 3)) λt8_48 w47=>
 Ext w45 w47∧
 pp (Instr.build 101 #[(4,t7),(5,t8_48),(6,t19_46)]) λt20_49=>pw w47 (Instr.buildSlice 23 1 #[(0,t20_49)]) λt21_51 w50=>
 pp (Instr.build 25 #[(1,t21_51)]) λt22_52=>so w50 25 t0 t22_52 λw53=>pq w53 (ze 25 t0) λr54=>K r54 w53)))))))∧
 (((pw w7 (Instr.makeSlice 98 (i6 3) (i6 3)) λt8_56 w55=>
 Ext w7 w55∧
 ((pw w55 (Instr.buildSlice 41 3 #[(0,t4),(1,t5),(2,t6)]) λt7_58 w57=>
 Ext w55 w57∧
 ca zm #[(i6 2)] w57 λt13_60 w59=>
 Ext w57 w59∧
 pp (Instr.build 96 #[(0,(Value.int .u8 1)),(1,t12),(2,t13_60),(10,(i6 2))]) λt14_61=>ca zm #[(i6 3)] w59 λt16_63 w62=>
 Ext w59 w62∧
 pp (Instr.build 96 #[(0,(Value.int .u8 1)),(1,t15),(2,t16_63),(10,(i6 3))]) λt17_64=>pw w62 (Instr.buildSlice 99 4 #[(0,t11),(1,t14_61),(2,t17_64),(3,t18)]) λt19_66 w65=>
 pp (Instr.build 101 #[(4,t7_58),(5,t8_56),(6,t19_66)]) λt20_67=>pw w65 (Instr.buildSlice 23 1 #[(0,t20_67)]) λt21_69 w68=>
 pp (Instr.build 25 #[(1,t21_69)]) λt22_70=>so w68 25 t0 t22_70 λw71=>pq w71 (ze 25 t0) λr72=>K r72 w71)∧
 (ca zm #[(i6 2)] w55 λt13_74 w73=>
 Ext w55 w73∧
 pp (Instr.build 96 #[(0,(Value.int .u8 1)),(1,t12),(2,t13_74),(10,(i6 2))]) λt14_75=>((pw w73 (Instr.buildSlice 41 3 #[(0,t4),(1,t5),(2,t6)]) λt7_77 w76=>
 Ext w73 w76∧
 ca zm #[(i6 3)] w76 λt16_79 w78=>
 Ext w76 w78∧
 pp (Instr.build 96 #[(0,(Value.int .u8 1)),(1,t15),(2,t16_79),(10,(i6 3))]) λt17_80=>pw w78 (Instr.buildSlice 99 4 #[(0,t11),(1,t14_75),(2,t17_80),(3,t18)]) λt19_82 w81=>
 pp (Instr.build 101 #[(4,t7_77),(5,t8_56),(6,t19_82)]) λt20_83=>pw w81 (Instr.buildSlice 23 1 #[(0,t20_83)]) λt21_85 w84=>
 pp (Instr.build 25 #[(1,t21_85)]) λt22_86=>so w84 25 t0 t22_86 λw87=>pq w87 (ze 25 t0) λr88=>K r88 w87)∧
 (ca zm #[(i6 3)] w73 λt16_90 w89=>
 Ext w73 w89∧
 pp (Instr.build 96 #[(0,(Value.int .u8 1)),(1,t15),(2,t16_90),(10,(i6 3))]) λt17_91=>((pw w89 (Instr.buildSlice 41 3 #[(0,t4),(1,t5),(2,t6)]) λt7_93 w92=>
 Ext w89 w92∧
 pw w92 (Instr.buildSlice 99 4 #[(0,t11),(1,t14_75),(2,t17_91),(3,t18)]) λt19_95 w94=>
 pp (Instr.build 101 #[(4,t7_93),(5,t8_56),(6,t19_95)]) λt20_96=>pw w94 (Instr.buildSlice 23 1 #[(0,t20_96)]) λt21_98 w97=>
 pp (Instr.build 25 #[(1,t21_98)]) λt22_99=>so w97 25 t0 t22_99 λw100=>pq w100 (ze 25 t0) λr101=>K r101 w100)∧
 (pw w89 (Instr.buildSlice 99 4 #[(0,t11),(1,t14_75),(2,t17_91),(3,t18)]) λt19_103 w102=>
 pw w102 (Instr.buildSlice 41 3 #[(0,t4),(1,t5),(2,t6)]) λt7_105 w104=>
 Ext w102 w104∧
 pp (Instr.build 101 #[(4,t7_105),(5,t8_56),(6,t19_103)]) λt20_106=>pw w104 (Instr.buildSlice 23 1 #[(0,t20_106)]) λt21_108 w107=>
 pp (Instr.build 25 #[(1,t21_108)]) λt22_109=>so w107 25 t0 t22_109 λw110=>pq w110 (ze 25 t0) λr111=>K r111 w110)))))))∧
 (ca zm #[(i6 2)] w7 λt13_113 w112=>
 Ext w7 w112∧
 pp (Instr.build 96 #[(0,(Value.int .u8 1)),(1,t12),(2,t13_113),(10,(i6 2))]) λt14_114=>((pw w112 (Instr.buildSlice 41 3 #[(0,t4),(1,t5),(2,t6)]) λt7_116 w115=>
 Ext w112 w115∧
 ((pw w115 (Instr.makeSlice 98 (i6 3) (i6 3)) λt8_118 w117=>
 Ext w115 w117∧
 ca zm #[(i6 3)] w117 λt16_120 w119=>
 Ext w117 w119∧
 pp (Instr.build 96 #[(0,(Value.int .u8 1)),(1,t15),(2,t16_120),(10,(i6 3))]) λt17_121=>pw w119 (Instr.buildSlice 99 4 #[(0,t11),(1,t14_114),(2,t17_121),(3,t18)]) λt19_123 w122=>
 pp (Instr.build 101 #[(4,t7_116),(5,t8_118),(6,t19_123)]) λt20_124=>pw w122 (Instr.buildSlice 23 1 #[(0,t20_124)]) λt21_126 w125=>
 pp (Instr.build 25 #[(1,t21_126)]) λt22_127=>so w125 25 t0 t22_127 λw128=>pq w128 (ze 25 t0) λr129=>K r129 w128)∧
 (ca zm #[(i6 3)] w115 λt16_131 w130=>
 Ext w115 w130∧
 pp (Instr.build 96 #[(0,(Value.int .u8 1)),(1,t15),(2,t16_131),(10,(i6 3))]) λt17_132=>((pw w130 (Instr.makeSlice 98 (i6 3) (i6 3)) λt8_134 w133=>
 Ext w130 w133∧
 pw w133 (Instr.buildSlice 99 4 #[(0,t11),(1,t14_114),(2,t17_132),(3,t18)]) λt19_136 w135=>
 pp (Instr.build 101 #[(4,t7_116),(5,t8_134),(6,t19_136)]) λt20_137=>pw w135 (Instr.buildSlice 23 1 #[(0,t20_137)]) λt21_139 w138=>
 pp (Instr.build 25 #[(1,t21_139)]) λt22_140=>so w138 25 t0 t22_140 λw141=>pq w141 (ze 25 t0) λr142=>K r142 w141)∧
 (pw w130 (Instr.buildSlice 99 4 #[(0,t11),(1,t14_114),(2,t17_132),(3,t18)]) λt19_144 w143=>
 pw w143 (Instr.makeSlice 98 (i6 3) (i6 3)) λt8_146 w145=>
 Ext w143 w145∧
 pp (Instr.build 101 #[(4,t7_116),(5,t8_146),(6,t19_144)]) λt20_147=>pw w145 (Instr.buildSlice 23 1 #[(0,t20_147)]) λt21_149 w148=>
 pp (Instr.build 25 #[(1,t21_149)]) λt22_150=>so w148 25 t0 t22_150 λw151=>pq w151 (ze 25 t0) λr152=>K r152 w151)))))∧
 (((pw w112 (Instr.makeSlice 98 (i6 3) (i6 3)) λt8_154 w153=>
 Ext w112 w153∧
 ((pw w153 (Instr.buildSlice 41 3 #[(0,t4),(1,t5),(2,t6)]) λt7_156 w155=>
 Ext w153 w155∧
 ca zm #[(i6 3)] w155 λt16_158 w157=>
 Ext w155 w157∧
 pp (Instr.build 96 #[(0,(Value.int .u8 1)),(1,t15),(2,t16_158),(10,(i6 3))]) λt17_159=>pw w157 (Instr.buildSlice 99 4 #[(0,t11),(1,t14_114),(2,t17_159),(3,t18)]) λt19_161 w160=>
 pp (Instr.build 101 #[(4,t7_156),(5,t8_154),(6,t19_161)]) λt20_162=>pw w160 (Instr.buildSlice 23 1 #[(0,t20_162)]) λt21_164 w163=>
 pp (Instr.build 25 #[(1,t21_164)]) λt22_165=>so w163 25 t0 t22_165 λw166=>pq w166 (ze 25 t0) λr167=>K r167 w166)∧
 (ca zm #[(i6 3)] w153 λt16_169 w168=>
 Ext w153 w168∧
 pp (Instr.build 96 #[(0,(Value.int .u8 1)),(1,t15),(2,t16_169),(10,(i6 3))]) λt17_170=>((pw w168 (Instr.buildSlice 41 3 #[(0,t4),(1,t5),(2,t6)]) λt7_172 w171=>
 Ext w168 w171∧
 pw w171 (Instr.buildSlice 99 4 #[(0,t11),(1,t14_114),(2,t17_170),(3,t18)]) λt19_174 w173=>
 pp (Instr.build 101 #[(4,t7_172),(5,t8_154),(6,t19_174)]) λt20_175=>pw w173 (Instr.buildSlice 23 1 #[(0,t20_175)]) λt21_177 w176=>
 pp (Instr.build 25 #[(1,t21_177)]) λt22_178=>so w176 25 t0 t22_178 λw179=>pq w179 (ze 25 t0) λr180=>K r180 w179)∧
 (pw w168 (Instr.buildSlice 99 4 #[(0,t11),(1,t14_114),(2,t17_170),(3,t18)]) λt19_182 w181=>
 pw w181 (Instr.buildSlice 41 3 #[(0,t4),(1,t5),(2,t6)]) λt7_184 w183=>
 Ext w181 w183∧
 pp (Instr.build 101 #[(4,t7_184),(5,t8_154),(6,t19_182)]) λt20_185=>pw w183 (Instr.buildSlice 23 1 #[(0,t20_185)]) λt21_187 w186=>
 pp (Instr.build 25 #[(1,t21_187)]) λt22_188=>so w186 25 t0 t22_188 λw189=>pq w189 (ze 25 t0) λr190=>K r190 w189)))))∧
 (ca zm #[(i6 3)] w112 λt16_192 w191=>
 Ext w112 w191∧
 pp (Instr.build 96 #[(0,(Value.int .u8 1)),(1,t15),(2,t16_192),(10,(i6 3))]) λt17_193=>((pw w191 (Instr.buildSlice 41 3 #[(0,t4),(1,t5),(2,t6)]) λt7_195 w194=>
 Ext w191 w194∧
 ((pw w194 (Instr.makeSlice 98 (i6 3) (i6 3)) λt8_197 w196=>
 Ext w194 w196∧
 pw w196 (Instr.buildSlice 99 4 #[(0,t11),(1,t14_114),(2,t17_193),(3,t18)]) λt19_199 w198=>
 pp (Instr.build 101 #[(4,t7_195),(5,t8_197),(6,t19_199)]) λt20_200=>pw w198 (Instr.buildSlice 23 1 #[(0,t20_200)]) λt21_202 w201=>
 pp (Instr.build 25 #[(1,t21_202)]) λt22_203=>so w201 25 t0 t22_203 λw204=>pq w204 (ze 25 t0) λr205=>K r205 w204)∧
 (pw w194 (Instr.buildSlice 99 4 #[(0,t11),(1,t14_114),(2,t17_193),(3,t18)]) λt19_207 w206=>
 pw w206 (Instr.makeSlice 98 (i6 3) (i6 3)) λt8_209 w208=>
 Ext w206 w208∧
 pp (Instr.build 101 #[(4,t7_195),(5,t8_209),(6,t19_207)]) λt20_210=>pw w208 (Instr.buildSlice 23 1 #[(0,t20_210)]) λt21_212 w211=>
 pp (Instr.build 25 #[(1,t21_212)]) λt22_213=>so w211 25 t0 t22_213 λw214=>pq w214 (ze 25 t0) λr215=>K r215 w214)))∧
 (((pw w191 (Instr.makeSlice 98 (i6 3) (i6 3)) λt8_217 w216=>
 Ext w191 w216∧
 ((pw w216 (Instr.buildSlice 41 3 #[(0,t4),(1,t5),(2,t6)]) λt7_219 w218=>
 Ext w216 w218∧
 pw w218 (Instr.buildSlice 99 4 #[(0,t11),(1,t14_114),(2,t17_193),(3,t18)]) λt19_221 w220=>
 pp (Instr.build 101 #[(4,t7_219),(5,t8_217),(6,t19_221)]) λt20_222=>pw w220 (Instr.buildSlice 23 1 #[(0,t20_222)]) λt21_224 w223=>
 pp (Instr.build 25 #[(1,t21_224)]) λt22_225=>so w223 25 t0 t22_225 λw226=>pq w226 (ze 25 t0) λr227=>K r227 w226)∧
 (pw w216 (Instr.buildSlice 99 4 #[(0,t11),(1,t14_114),(2,t17_193),(3,t18)]) λt19_229 w228=>
 pw w228 (Instr.buildSlice 41 3 #[(0,t4),(1,t5),(2,t6)]) λt7_231 w230=>
 Ext w228 w230∧
 pp (Instr.build 101 #[(4,t7_231),(5,t8_217),(6,t19_229)]) λt20_232=>pw w230 (Instr.buildSlice 23 1 #[(0,t20_232)]) λt21_234 w233=>
 pp (Instr.build 25 #[(1,t21_234)]) λt22_235=>so w233 25 t0 t22_235 λw236=>pq w236 (ze 25 t0) λr237=>K r237 w236)))∧
 (pw w191 (Instr.buildSlice 99 4 #[(0,t11),(1,t14_114),(2,t17_193),(3,t18)]) λt19_239 w238=>
 ((pw w238 (Instr.buildSlice 41 3 #[(0,t4),(1,t5),(2,t6)]) λt7_241 w240=>
 Ext w238 w240∧
 pw w240 (Instr.makeSlice 98 (i6 3) (i6 3)) λt8_243 w242=>
 Ext w240 w242∧
 pp (Instr.build 101 #[(4,t7_241),(5,t8_243),(6,t19_239)]) λt20_244=>pw w242 (Instr.buildSlice 23 1 #[(0,t20_244)]) λt21_246 w245=>
 pp (Instr.build 25 #[(1,t21_246)]) λt22_247=>so w245 25 t0 t22_247 λw248=>pq w248 (ze 25 t0) λr249=>K r249 w248)∧
 (pw w238 (Instr.makeSlice 98 (i6 3) (i6 3)) λt8_251 w250=>
 Ext w238 w250∧
 pw w250 (Instr.buildSlice 41 3 #[(0,t4),(1,t5),(2,t6)]) λt7_253 w252=>
 Ext w250 w252∧
 pp (Instr.build 101 #[(4,t7_253),(5,t8_251),(6,t19_239)]) λt20_254=>pw w252 (Instr.buildSlice 23 1 #[(0,t20_254)]) λt21_256 w255=>
 pp (Instr.build 25 #[(1,t21_256)]) λt22_257=>so w255 25 t0 t22_257 λw258=>pq w258 (ze 25 t0) λr259=>K r259 w258)))))))))))))))∧
 (pw w6 (Instr.makeSlice 98 (i6 3) (i6 3)) λt8_261 w260=>
 Ext w6 w260∧
 ca xr #[tr_] w260 λt6_263 w262=>
 Ext w260 w262∧
 ((pw w262 (Instr.buildSlice 41 3 #[(0,t4),(1,t5),(2,t6_263)]) λt7_265 w264=>
 Ext w262 w264∧
 ca zm #[(i6 2)] w264 λt13_267 w266=>
 Ext w264 w266∧
 pp (Instr.build 96 #[(0,(Value.int .u8 1)),(1,t12),(2,t13_267),(10,(i6 2))]) λt14_268=>ca zm #[(i6 3)] w266 λt16_270 w269=>
 Ext w266 w269∧
 pp (Instr.build 96 #[(0,(Value.int .u8 1)),(1,t15),(2,t16_270),(10,(i6 3))]) λt17_271=>pw w269 (Instr.buildSlice 99 4 #[(0,t11),(1,t14_268),(2,t17_271),(3,t18)]) λt19_273 w272=>
 pp (Instr.build 101 #[(4,t7_265),(5,t8_261),(6,t19_273)]) λt20_274=>pw w272 (Instr.buildSlice 23 1 #[(0,t20_274)]) λt21_276 w275=>
 pp (Instr.build 25 #[(1,t21_276)]) λt22_277=>so w275 25 t0 t22_277 λw278=>pq w278 (ze 25 t0) λr279=>K r279 w278)∧
 (ca zm #[(i6 2)] w262 λt13_281 w280=>
 Ext w262 w280∧
 pp (Instr.build 96 #[(0,(Value.int .u8 1)),(1,t12),(2,t13_281),(10,(i6 2))]) λt14_282=>((pw w280 (Instr.buildSlice 41 3 #[(0,t4),(1,t5),(2,t6_263)]) λt7_284 w283=>
 Ext w280 w283∧
 ca zm #[(i6 3)] w283 λt16_286 w285=>
 Ext w283 w285∧
 pp (Instr.build 96 #[(0,(Value.int .u8 1)),(1,t15),(2,t16_286),(10,(i6 3))]) λt17_287=>pw w285 (Instr.buildSlice 99 4 #[(0,t11),(1,t14_282),(2,t17_287),(3,t18)]) λt19_289 w288=>
 pp (Instr.build 101 #[(4,t7_284),(5,t8_261),(6,t19_289)]) λt20_290=>pw w288 (Instr.buildSlice 23 1 #[(0,t20_290)]) λt21_292 w291=>
 pp (Instr.build 25 #[(1,t21_292)]) λt22_293=>so w291 25 t0 t22_293 λw294=>pq w294 (ze 25 t0) λr295=>K r295 w294)∧
 (ca zm #[(i6 3)] w280 λt16_297 w296=>
 Ext w280 w296∧
 pp (Instr.build 96 #[(0,(Value.int .u8 1)),(1,t15),(2,t16_297),(10,(i6 3))]) λt17_298=>((pw w296 (Instr.buildSlice 41 3 #[(0,t4),(1,t5),(2,t6_263)]) λt7_300 w299=>
 Ext w296 w299∧
 pw w299 (Instr.buildSlice 99 4 #[(0,t11),(1,t14_282),(2,t17_298),(3,t18)]) λt19_302 w301=>
 pp (Instr.build 101 #[(4,t7_300),(5,t8_261),(6,t19_302)]) λt20_303=>pw w301 (Instr.buildSlice 23 1 #[(0,t20_303)]) λt21_305 w304=>
 pp (Instr.build 25 #[(1,t21_305)]) λt22_306=>so w304 25 t0 t22_306 λw307=>pq w307 (ze 25 t0) λr308=>K r308 w307)∧
 (pw w296 (Instr.buildSlice 99 4 #[(0,t11),(1,t14_282),(2,t17_298),(3,t18)]) λt19_310 w309=>
 pw w309 (Instr.buildSlice 41 3 #[(0,t4),(1,t5),(2,t6_263)]) λt7_312 w311=>
 Ext w309 w311∧
 pp (Instr.build 101 #[(4,t7_312),(5,t8_261),(6,t19_310)]) λt20_313=>pw w311 (Instr.buildSlice 23 1 #[(0,t20_313)]) λt21_315 w314=>
 pp (Instr.build 25 #[(1,t21_315)]) λt22_316=>so w314 25 t0 t22_316 λw317=>pq w317 (ze 25 t0) λr318=>K r318 w317)))))))))∧
 (pw w5 (Instr.makeSlice 98 (i6 3) (i6 3)) λt8_320 w319=>
 Ext w5 w319∧
 ca yZ #[] w319 λt5_322 w321=>
 Ext w319 w321∧
 ca xr #[tr_] w321 λt6_324 w323=>
 Ext w321 w323∧
 ((pw w323 (Instr.buildSlice 41 3 #[(0,t4),(1,t5_322),(2,t6_324)]) λt7_326 w325=>
 Ext w323 w325∧
 ca zm #[(i6 2)] w325 λt13_328 w327=>
 Ext w325 w327∧
 pp (Instr.build 96 #[(0,(Value.int .u8 1)),(1,t12),(2,t13_328),(10,(i6 2))]) λt14_329=>ca zm #[(i6 3)] w327 λt16_331 w330=>
 Ext w327 w330∧
 pp (Instr.build 96 #[(0,(Value.int .u8 1)),(1,t15),(2,t16_331),(10,(i6 3))]) λt17_332=>pw w330 (Instr.buildSlice 99 4 #[(0,t11),(1,t14_329),(2,t17_332),(3,t18)]) λt19_334 w333=>
 pp (Instr.build 101 #[(4,t7_326),(5,t8_320),(6,t19_334)]) λt20_335=>pw w333 (Instr.buildSlice 23 1 #[(0,t20_335)]) λt21_337 w336=>
 pp (Instr.build 25 #[(1,t21_337)]) λt22_338=>so w336 25 t0 t22_338 λw339=>pq w339 (ze 25 t0) λr340=>K r340 w339)∧
 (ca zm #[(i6 2)] w323 λt13_342 w341=>
 Ext w323 w341∧
 pp (Instr.build 96 #[(0,(Value.int .u8 1)),(1,t12),(2,t13_342),(10,(i6 2))]) λt14_343=>((pw w341 (Instr.buildSlice 41 3 #[(0,t4),(1,t5_322),(2,t6_324)]) λt7_345 w344=>
 Ext w341 w344∧
 ca zm #[(i6 3)] w344 λt16_347 w346=>
 Ext w344 w346∧
 pp (Instr.build 96 #[(0,(Value.int .u8 1)),(1,t15),(2,t16_347),(10,(i6 3))]) λt17_348=>pw w346 (Instr.buildSlice 99 4 #[(0,t11),(1,t14_343),(2,t17_348),(3,t18)]) λt19_350 w349=>
 pp (Instr.build 101 #[(4,t7_345),(5,t8_320),(6,t19_350)]) λt20_351=>pw w349 (Instr.buildSlice 23 1 #[(0,t20_351)]) λt21_353 w352=>
 pp (Instr.build 25 #[(1,t21_353)]) λt22_354=>so w352 25 t0 t22_354 λw355=>pq w355 (ze 25 t0) λr356=>K r356 w355)∧
 (ca zm #[(i6 3)] w341 λt16_358 w357=>
 Ext w341 w357∧
 pp (Instr.build 96 #[(0,(Value.int .u8 1)),(1,t15),(2,t16_358),(10,(i6 3))]) λt17_359=>((pw w357 (Instr.buildSlice 41 3 #[(0,t4),(1,t5_322),(2,t6_324)]) λt7_361 w360=>
 Ext w357 w360∧
 pw w360 (Instr.buildSlice 99 4 #[(0,t11),(1,t14_343),(2,t17_359),(3,t18)]) λt19_363 w362=>
 pp (Instr.build 101 #[(4,t7_361),(5,t8_320),(6,t19_363)]) λt20_364=>pw w362 (Instr.buildSlice 23 1 #[(0,t20_364)]) λt21_366 w365=>
 pp (Instr.build 25 #[(1,t21_366)]) λt22_367=>so w365 25 t0 t22_367 λw368=>pq w368 (ze 25 t0) λr369=>K r369 w368)∧
 (pw w357 (Instr.buildSlice 99 4 #[(0,t11),(1,t14_343),(2,t17_359),(3,t18)]) λt19_371 w370=>
 pw w370 (Instr.buildSlice 41 3 #[(0,t4),(1,t5_322),(2,t6_324)]) λt7_373 w372=>
 Ext w370 w372∧
 pp (Instr.build 101 #[(4,t7_373),(5,t8_320),(6,t19_371)]) λt20_374=>pw w372 (Instr.buildSlice 23 1 #[(0,t20_374)]) λt21_376 w375=>
 pp (Instr.build 25 #[(1,t21_376)]) λt22_377=>so w375 25 t0 t22_377 λw378=>pq w378 (ze 25 t0) λr379=>K r379 w378)))))))))∧
 (pw w4.drew (Instr.makeSlice 98 (i6 3) (i6 3)) λt8_381 w380=>
 Ext w4.drew w380∧
 ca yZ #[] w380 λt4_383 w382=>
 Ext w380 w382∧
 ca yZ #[] w382 λt5_385 w384=>
 Ext w382 w384∧
 ca xr #[tr_] w384 λt6_387 w386=>
 Ext w384 w386∧
 ((pw w386 (Instr.buildSlice 41 3 #[(0,t4_383),(1,t5_385),(2,t6_387)]) λt7_389 w388=>
 Ext w386 w388∧
 ca zm #[(i6 2)] w388 λt13_391 w390=>
 Ext w388 w390∧
 pp (Instr.build 96 #[(0,(Value.int .u8 1)),(1,t12),(2,t13_391),(10,(i6 2))]) λt14_392=>ca zm #[(i6 3)] w390 λt16_394 w393=>
 Ext w390 w393∧
 pp (Instr.build 96 #[(0,(Value.int .u8 1)),(1,t15),(2,t16_394),(10,(i6 3))]) λt17_395=>pw w393 (Instr.buildSlice 99 4 #[(0,t11),(1,t14_392),(2,t17_395),(3,t18)]) λt19_397 w396=>
 pp (Instr.build 101 #[(4,t7_389),(5,t8_381),(6,t19_397)]) λt20_398=>pw w396 (Instr.buildSlice 23 1 #[(0,t20_398)]) λt21_400 w399=>
 pp (Instr.build 25 #[(1,t21_400)]) λt22_401=>so w399 25 t0 t22_401 λw402=>pq w402 (ze 25 t0) λr403=>K r403 w402)∧
 (ca zm #[(i6 2)] w386 λt13_405 w404=>
 Ext w386 w404∧
 pp (Instr.build 96 #[(0,(Value.int .u8 1)),(1,t12),(2,t13_405),(10,(i6 2))]) λt14_406=>((pw w404 (Instr.buildSlice 41 3 #[(0,t4_383),(1,t5_385),(2,t6_387)]) λt7_408 w407=>
 Ext w404 w407∧
 ca zm #[(i6 3)] w407 λt16_410 w409=>
 Ext w407 w409∧
 pp (Instr.build 96 #[(0,(Value.int .u8 1)),(1,t15),(2,t16_410),(10,(i6 3))]) λt17_411=>pw w409 (Instr.buildSlice 99 4 #[(0,t11),(1,t14_406),(2,t17_411),(3,t18)]) λt19_413 w412=>
 pp (Instr.build 101 #[(4,t7_408),(5,t8_381),(6,t19_413)]) λt20_414=>pw w412 (Instr.buildSlice 23 1 #[(0,t20_414)]) λt21_416 w415=>
 pp (Instr.build 25 #[(1,t21_416)]) λt22_417=>so w415 25 t0 t22_417 λw418=>pq w418 (ze 25 t0) λr419=>K r419 w418)∧
 (ca zm #[(i6 3)] w404 λt16_421 w420=>
 Ext w404 w420∧
 pp (Instr.build 96 #[(0,(Value.int .u8 1)),(1,t15),(2,t16_421),(10,(i6 3))]) λt17_422=>((pw w420 (Instr.buildSlice 41 3 #[(0,t4_383),(1,t5_385),(2,t6_387)]) λt7_424 w423=>
 Ext w420 w423∧
 pw w423 (Instr.buildSlice 99 4 #[(0,t11),(1,t14_406),(2,t17_422),(3,t18)]) λt19_426 w425=>
 pp (Instr.build 101 #[(4,t7_424),(5,t8_381),(6,t19_426)]) λt20_427=>pw w425 (Instr.buildSlice 23 1 #[(0,t20_427)]) λt21_429 w428=>
 pp (Instr.build 25 #[(1,t21_429)]) λt22_430=>so w428 25 t0 t22_430 λw431=>pq w431 (ze 25 t0) λr432=>K r432 w431)∧
 (pw w420 (Instr.buildSlice 99 4 #[(0,t11),(1,t14_406),(2,t17_422),(3,t18)]) λt19_434 w433=>
 pw w433 (Instr.buildSlice 41 3 #[(0,t4_383),(1,t5_385),(2,t6_387)]) λt7_436 w435=>
 Ext w433 w435∧
 pp (Instr.build 101 #[(4,t7_436),(5,t8_381),(6,t19_434)]) λt20_437=>pw w435 (Instr.buildSlice 23 1 #[(0,t20_437)]) λt21_439 w438=>
 pp (Instr.build 25 #[(1,t21_439)]) λt22_440=>so w438 25 t0 t22_440 λw441=>pq w441 (ze 25 t0) λr442=>K r442 w441))))))))
theorem abr(h:Qi  w K):zd prog Zh #[] w K:=
 okC false (.s (.r (rz 1 0 2)) (.s (.r (rz 4 0 162)) (.s (.r (ra 4 5 0 (ra 1 11 1 (ra 1 14 0 (.alt 0 .u (.alt 1 .u (.alt 2 .u (.alt 3 .u (.alt 4 .u (ra 2 9 3 (ra 2 12 3 (rz 5 15 546))) (ra 2 9 3 (.alt 4 .u (ra 2 12 3 (rz 5 15 546)) (ra 2 12 3 (.alt 4 .u (rz 5 15 546) (ra 1 15 2 (ra 1 4 3 (rz 4 16 136)))))))) (.alt 4 .u (.alt 3 .u (ra 2 9 3 (ra 2 12 3 (rz 5 15 546))) (ra 2 9 3 (.alt 3 .u (ra 2 12 3 (rz 5 15 546)) (ra 2 12 3 (.alt 3 .u (rz 5 15 546) (ra 1 15 2 (ra 1 3 3 (rz 4 16 136)))))))) (ra 2 9 3 (.alt 3 .u (.alt 4 .u (ra 2 12 3 (rz 5 15 546)) (ra 2 12 3 (.alt 4 .u (rz 5 15 546) (ra 1 15 2 (ra 1 4 3 (rz 4 16 136)))))) (.alt 4 .u (.alt 3 .u (ra 2 12 3 (rz 5 15 546)) (ra 2 12 3 (.alt 3 .u (rz 5 15 546) (ra 1 15 2 (ra 1 3 3 (rz 4 16 136)))))) (ra 2 12 3 (.alt 3 .u (.alt 4 .u (rz 5 15 546) (ra 1 15 2 (ra 1 4 3 (rz 4 16 136)))) (.alt 4 .u (.alt 3 .u (rz 5 15 546) (ra 1 15 2 (ra 1 3 3 (rz 4 16 136)))) (ra 1 15 2 (.alt 3 .u (ra 1 4 3 (rz 4 16 136)) (ra 1 4 3 (ra 1 3 3 (rz 4 16 136))))))))))))) (ra 1 4 3 (ra 1 2 3 (.alt 3 .u (ra 2 9 3 (ra 2 12 3 (rz 5 15 546))) (ra 2 9 3 (.alt 3 .u (ra 2 12 3 (rz 5 15 546)) (ra 2 12 3 (.alt 3 .u (rz 5 15 546) (ra 1 15 2 (ra 1 3 3 (rz 4 16 136))))))))))) (ra 1 4 3 (ra 2 1 15 (.alt 3 .u (ra 2 9 3 (ra 2 12 3 (rz 5 15 546))) (ra 2 9 3 (.alt 3 .u (ra 2 12 3 (rz 5 15 546)) (ra 2 12 3 (.alt 3 .u (rz 5 15 546) (ra 1 15 2 (ra 1 3 3 (rz 4 16 136))))))))))) (ra 1 4 3 (ra 3 0 63 (.alt 3 .u (ra 2 9 3 (ra 2 12 3 (rz 5 15 546))) (ra 2 9 3 (.alt 3 .u (ra 2 12 3 (rz 5 15 546)) (ra 2 12 3 (.alt 3 .u (rz 5 15 546) (ra 1 15 2 (ra 1 3 3 (rz 4 16 136))))))))))))))) (.n)))) func47 rfl (by kernel_rfl) (by kernel_rfl) h
def VC(t0:Value)(w:World)(K:VW):Prop:=
 pw w (Instr.alloc 43 true (.tuple #[])) λt2 w1=>
 ca xr #[fa_] w1 λt4 w2=>
 pw w2 (Instr.alloc 43 true (.tuple #[])) λt3 w3=>
 so w3 43 t3 t4 λw4=>pf 43 t3 2 λt6=>so w4 3 t6 t0 λw5=>lo w5 43 t3 λt7=>so w5 43 t2 t7 λw6=>pq w6 (ze 43 t2) λr7=>K r7 w6
theorem ade(h:VC t0 w K):zd prog vI #[t0] w K:=
 okC false (.s (.r (rz 1 0 2)) (.s (.r (rz 3 0 42)) (.s (.r (rz 3 0 32)) (.s (.r (rz 2 0 9)) (.n))))) func48 rfl (by kernel_rfl) (by kernel_rfl) h
def Q4(w:World)(K:VW):Prop:=
 pw w (Instr.alloc 43 true (.tuple #[])) λt0 w1=>
 pp (Instr.build 43 #[(0,(Value.int .u8 1))]) λt1=>so w1 43 t0 t1 λw2=>pq w2 (ze 43 t0) λr3=>K r3 w2
theorem acP(h:Q4  w K):zd prog yZ #[] w K:=
 okC false (.s (.r (rz 1 0 2)) (.s (.r (rz 2 0 8)) (.n))) func106 rfl (by kernel_rfl) (by kernel_rfl) h
def Q5(t0:Value)(w:World)(K:VW):Prop:=
 pw w (Instr.alloc 43 true (.tuple #[])) λt2 w1=>
 ca yZ #[] w1 λt4 w2=>
 pw w2 (Instr.buildSlice 41 1 #[(0,t4)]) λt5 w3=>
 pp (Instr.build 43 #[(0,(Value.int .u8 4)),(1,t0),(2,(i6 (-1))),(4,t5)]) λt6=>so w3 43 t2 t6 λw4=>pq w4 (ze 43 t2) λr5=>K r5 w4
theorem acQ(h:Q5 t0 w K):zd prog xr #[t0] w K:=
 okC false (.s (.r (rz 1 0 2)) (.s (.r (rz 5 0 552)) (.n))) func107 rfl (by kernel_rfl) (by kernel_rfl) h
def Q6(t0:Value)(w:World)(K:VW):Prop:=
 pw w (Instr.alloc 93 true (.tuple #[])) λt2 w1=>
 pp (Instr.build 93 #[(0,(Value.int .u8 1)),(1,t0)]) λt4=>so w1 93 t2 t4 λw2=>pq w2 (ze 93 t2) λr3=>K r3 w2
theorem acR(h:Q6 t0 w K):zd prog zm #[t0] w K:=
 okC false (.s (.r (rz 1 0 2)) (.s (.r (rz 3 0 32)) (.n))) func108 rfl (by kernel_rfl) (by kernel_rfl) h
end Go.Proofs.Tryz
end
section
namespace Go.Sh
theorem StX.any{X:Nat→Prop}{w0 w:World}{r:Gh}{L:List Asr}(S:StX X w0 r w L):∃σ,σ=r∧StX X w0 σ w L:=⟨r,rfl,S⟩
theorem aih{w:World}{A:(List Value→World→Prop)→Prop}{Z:Value→World→Prop}{b:Bool}(hA:b=false→∀K:List Value→World→Prop,(∀c w',Ext w w'→K [.bool c] w')→A K)(hZ:∀c w',Ext w w'→Z (.bool c) w'):
  za (λK=>gIf (.bool b) false (A K) (K [u_] w)) λs _ w'=>zb (.bool b) (.bool true) (s.getD 0 u_) λt=>Z t w':=by
 intro K hK
 cases b with
 |true=>exact hK _ _ λ_=>⟨true,rfl,by simpa using hZ true w (.refl w)⟩
 |false=>exact hA rfl K λc w' e=>hK _ _ λ_=>⟨false,rfl,by simpa using hZ c w' e⟩
end Go.Sh
namespace Go.Proofs
open Go.Sh Go.RowKit
set_option maxRecDepth 100000
theorem Q7{w:World}{K:Value→World→Prop}(h:∀w',Ext w w'→K ahA w'):zd Tryz.prog Tryz.yZ #[] w K:=by
 refine Tryz.acP ?_
 unfold Tryz.Q4
 have S:StX noX w nothing w []:=St.start (λ_ _ h=>h.elim)
 refine S.al λb0 w1 S=>?_
 refine zp (cs:=Zy.toArray) (by kernel_rfl) ?_
 refine S.stB (b:=b0) λw2 S=>?_
 refine S.ceB (b:=b0) ?_ rfl
 exact h _ S.ext
theorem adf{n:Int}{w:World}{K:Value→World→Prop}(h:∀w',Ext w w'→K (ahB n) w'):zd Tryz.prog Tryz.zm #[.int .i64 n] w K:=by
 refine Tryz.acR ?_
 unfold Tryz.Q6
 have S:StX noX w nothing w []:=St.start (λ_ _ h=>h.elim)
 refine S.al λb0 w1 S=>?_
 refine zp (cs:=#[.int .u8 1,.int .i64 n,.int .i64 0,.slice none 0 0]) (by kernel_rfl) ?_
 refine S.stB (b:=b0) λw2 S=>?_
 refine S.ceB (b:=b0) ?_ rfl
 exact h _ S.ext
theorem Q8{m:Bool}{w:World}{K:Value→World→Prop}(h:∀q cap sn w',Ext w w'→New w sn w'→TyG sn (tyV (.mk 4 m (-1) 0 [zK]) q cap) (.mk 4 m (-1) 0 [zK])→K (tyV (.mk 4 m (-1) 0 [zK]) q cap) w'):zd Tryz.prog Tryz.xr #[.bool m] w K:=by
 refine Tryz.acQ ?_
 unfold Tryz.Q5
 have S:StX noX w nothing w []:=St.start (λ_ _ h=>h.elim)
 refine S.al λb2 w1 S=>?_
 refine Q7 λw2 e2=>?_
 have S:=S.go e2
 refine S.lit (e:=43) (cs:=Zy) (by kernel_rfl) λb5 w3 S=>?_
 refine zp (cs:=#[.int .u8 4,.bool m,.int .i64 (-1),.int .i64 0,.slice (some ⟨b5,0,none⟩) 1 1]) (by kernel_rfl) ?_
 refine S.stB (b:=b2) λw4 S=>?_
 refine S.ceB (b:=b2) ?_ rfl
 obtain⟨S,_,ha⟩:=S.litNew b5 (sz:=5) (R:=TyC nothing) (l:=[zK]) (by exact(kF (c:=Zy) rfl (show TyC nothing Zy zK from Zu))) (by decide)
 exact h (some ⟨b5,0,none⟩) 1 (nothing.or (Go.Sh.one b5 Zy 43)) _ S.ext (S.newOf (Above.no.or' ha)) (J3 (u:=zK) (v:=ahA) Zu)
theorem acS{w:World}{K:Value→World→Prop}(h:∀v s w',Ext w w'→New w s w'→UnG s v zY→K v w'):zd Tryz.prog Tryz.Zh #[] w K:=by
 refine Tryz.abr ?_
 unfold Tryz.Qi
 have S:StX noX w nothing w []:=St.start (λ_ _ h=>h.elim)
 refine S.al λb0 w1 S=>?_
 refine S.lit (e:=84) (cs:=[.int .i64 (-1)]) (by kernel_rfl) λb2 w2 S=>?_
 refine zp (cs:=#[.int .i64 2,.slice (some ⟨b2,0,none⟩) 1 1]) (by kernel_rfl) ?_
 refine S.al λb1 w3 S=>?_
 refine S.stB (b:=b1) λw4 S=>?_
 have S:=S.go (Ext.drew _)
 refine zp (cs:=#[.int .i64 2,.slice none 0 0]) (by kernel_rfl) ?_
 refine zp (cs:=#[.int .i64 1,.slice none 0 0]) (by kernel_rfl) ?_
 refine zp (cs:=hl0.toArray) (by kernel_rfl) ?_
 refine zp (cs:=#[.int .i64 1,.slice none 0 0]) (by kernel_rfl) ?_
 refine S.ldB (b:=b1) ?_ rfl
 refine zp (cs:=hl3.toArray) (by kernel_rfl) ?_
 have S:=S.drop b1
 have fin:∀{w9:World}{b7 b8 b19 b21:Nat}{q6:Option Addr}{c6:Nat}{sn:Gh}{M M1 M2 M3 M4 M5:List Asr}(S:StX noX w (nothing.or sn) w9 M)
   [jx b7 M (Zy++(Zy++tyL X4 q6 c6)) 43 M1] [jx b8 M1 [.string ByteArray.empty,.string ByteArray.empty,.string ByteArray.empty] 9 M2] [jx b2 M2 [.int .i64 (-1)] 84 M3]
   [jx b19 M3 (hl0++(hl1++(hl2 b2++hl3))) 96 M4] [jx b21 M4 [.string ByteArray.empty,.int .i64 0,.slice none 0 0,.int .i64 0,.slice (some ⟨b7,0,none⟩) 3 3,.slice (some ⟨b8,0,none⟩) 3 3,.slice (some ⟨b19,0,none⟩) 4 4] 101 M5],
   Above w sn→TyG sn (tyV X4 q6 c6) X4→K (.agg #[.slice none 0 0,.slice (some ⟨b21,0,none⟩) 1 1,.int .i64 0]) w9:=by
  intro w9 b7 b8 b19 b21 q6 c6 sn M M1 M2 M3 M4 M5 S _ _ _ _ _ ha ht
  obtain⟨S,h7,a7⟩:=S.litNew b7 (sz:=5) (R:=TyC sn) (l:=[zK,zK,X4]) (by exact(xo rfl Zu (xo rfl Zu (kF rfl ht)))) (by decide)
  obtain⟨S,h8,a8⟩:=S.litNew b8 (sz:=1) (R:=aht) (l:=[ByteArray.empty,ByteArray.empty,ByteArray.empty]) (by exact(xo (c:=[.string ByteArray.empty]) rfl rfl (xo (c:=[.string ByteArray.empty]) rfl rfl (kF rfl rfl)))) (by decide)
  obtain⟨S,h2,a2⟩:=S.litNew b2 (sz:=1) (R:=Yi) (l:=[-1]) (by exact(kF rfl ⟨rfl,by unfold ahs;omega⟩)) (by decide)
  have hz:∀{r:Gh}{α:Type}{sz:Nat}{R:List Value→α→Prop},SlB sz r R (.slice none 0 0) ([]:List α):=aad
  obtain⟨S,h19,a19⟩:=S.litNew b19 (sz:=21) (R:=PtG (Go.Sh.one b2 [.int .i64 (-1)] 84)) (l:=[hp0,hp1,hp2,hp3])
   (by exact(xo rfl ⟨_,_,_,_,_,rfl,hz,hz,hz,hz,hz⟩ (xo rfl ⟨_,_,_,_,_,rfl,hz,hz,hz,hz,hz⟩ (xo rfl ⟨_,_,_,_,_,rfl,YH h2,hz,hz,hz,hz⟩ (kF rfl ⟨_,_,_,_,_,rfl,hz,hz,hz,hz,hz⟩))))) (by decide)
  obtain⟨S,h21,a21⟩:=S.litNew b21 (sz:=7) (R:=GrG (((((nothing.or sn).or (Go.Sh.one b7 (Zy++(Zy++tyL X4 q6 c6)) 43)).or (Go.Sh.one b8 [.string ByteArray.empty,.string ByteArray.empty,.string ByteArray.empty] 9)).or (Go.Sh.one b2 [.int .i64 (-1)] 84)).or (Go.Sh.one b19 (hl0++(hl1++(hl2 b2++hl3))) 96))) (l:=[xp])
   (by exact(kF rfl ⟨_,_,_,_,rfl,hz,YH (h7.up' inferInstance λc x hx=>TyG.up hx),YH h8.cells,YH (h19.up' inferInstance λc x hx=>PtG.up hx)⟩)) (by decide)
  exact h _ _ _ S.ext (S.newOf (((((Above.no.or' ha).or' a7).or' a8).or' a2).or' a19 |>.or' a21)) ⟨none,0,_,rfl,λ_=>rfl,Nat.zero_le _,trivial,Nat.zero_le _,YH (h21.up' inferInstance λc x hx=>GrG.up hx)⟩
 repeat' (first
  |(with_reducible refine Q7 λw9 e9=>⟨e9,?_⟩;have S:=S.go e9)
  |(with_reducible refine adf λw9 e9=>⟨e9,?_⟩;have S:=S.go e9)
  |(with_reducible refine Q8 λq6 c6 sn w9 e9 n9 t9=>⟨e9,?_⟩;obtain⟨S,d9,a9⟩:=S.tell e9 n9)
  |(with_reducible refine S.litU (t:=41) (e:=43) (cs:=Zy++(Zy++tyL X4 q6 c6)) (by kernel_rfl) λb7 w9 S=>?_)
  |(with_reducible refine S.mkSU (by decide) (by decide) λb8 w9 S=>?_)
  |(with_reducible refine zp (t:=96) (parts:=#[(0,.int .u8 1),(1,.agg #[.int .i64 1,.slice none 0 0]),(2,ahB 2),(10,.int .i64 2)]) (cs:=hl1.toArray) (by kernel_rfl) ?_)
  |(with_reducible refine zp (t:=96) (cs:=(hl2 b2).toArray) (by kernel_rfl) ?_)
  |(with_reducible refine S.lit (t:=99) (e:=96) (cs:=hl0++(hl1++(hl2 b2++hl3))) (by kernel_rfl) λb19 w9 S=>?_)
  |(with_reducible refine zp (t:=101) (cs:=#[.string ByteArray.empty,.int .i64 0,.slice none 0 0,.int .i64 0,.slice (some ⟨b7,0,none⟩) 3 3,.slice (some ⟨b8,0,none⟩) 3 3,.slice (some ⟨b19,0,none⟩) 4 4]) (by kernel_rfl) ?_)
  |(with_reducible refine S.lit (t:=23) (e:=101) (cs:=[.string ByteArray.empty,.int .i64 0,.slice none 0 0,.int .i64 0,.slice (some ⟨b7,0,none⟩) 3 3,.slice (some ⟨b8,0,none⟩) 3 3,.slice (some ⟨b19,0,none⟩) 4 4]) (by kernel_rfl) λb21 w9 S=>?_)
  |(with_reducible refine zp (t:=25) (cs:=#[.slice none 0 0,.slice (some ⟨b21,0,none⟩) 1 1,.int .i64 0]) (by kernel_rfl) ?_)
  |(with_reducible refine And.intro ?_ ?_)
  |(refine S.stB (b:=b0) λw9 S=>?_;refine S.ceB (b:=b0) ?_ rfl;exact fin (b7:=b7) (b8:=b8) (b19:=b19) (b21:=b21) S a9 t9)
)
theorem VD{k:Int}{w:World}{K:Value→World→Prop}(h:∀q cap sn w',Ext w w'→New w sn w'→TyG sn (tyV (.mk 4 false k 0 [zK]) q cap) (.mk 4 false k 0 [zK])→K (tyV (.mk 4 false k 0 [zK]) q cap) w'):zd Tryz.prog Tryz.vI #[.int .i64 k] w K:=by
 refine Tryz.ade ?_
 unfold Tryz.VC
 have S:StX noX w nothing w []:=St.start (λ_ _ h=>h.elim)
 refine S.al λb2 w1 S=>?_
 refine Q8 λq cap sn w2 e2 n2 t2=>?_
 obtain⟨S,_,a2⟩:=S.tell e2 n2
 refine S.al λb3 w3 S=>?_
 refine S.stB (b:=b3) λw4 S=>?_
 refine gp_ ?_
 refine S.st (b:=b3) (λw5 S=>?_) (by simp)
 refine S.ldB (b:=b3) ?_ rfl
 refine S.stB (b:=b2) λw6 S=>?_
 refine S.ceB (b:=b2) ?_ rfl
 refine h q cap sn _ S.ext (S.newOf a2) ?_
 obtain⟨p,c,hE,h1,h2,h3⟩:=t2
 cases hE
 exact⟨_,_,rfl,h1,h2,h3⟩
theorem ZG:∀(n:Nat){t:TyD}{w:World}{r:Gh}{v:Value}{deep:Int}{K:Value→World→Prop},0≤deep→deep≤n→n≤60→Holds r w→TyG r v t→
  (∀b w',Ext w w'→K (.bool b) w')→zd Tryz.prog Tryz.xb #[v,.int .i64 deep] w K:=by
 intro n
 induction n with
 |zero=>
  intro t w r v deep K h0 h1 _ hr hv h
  obtain rfl:deep=0:=by omega
  refine Tryz.vD ?_
  unfold Tryz.qD
  have S:=St.start hr
  refine S.box λb2 w1 S=>?_
  refine gG_ ?_
  refine VN (λ_=>?_) (λhn=>absurd rfl hn)
  exact c_T (h _ _ S.ext)
 |succ n ih=>
  intro t w r v deep K h0 h1 h2 hr hv h
  refine Tryz.vD ?_
  unfold Tryz.qD
  obtain⟨p,cap,rfl,_,_,hof⟩:=hv
  have S:=St.start hr
  refine S.box λb2 w1 S=>?_
  refine gG_ ?_
  refine VN (λ_=>?_) (λhz=>?_)
  ·exact c_T (h _ _ S.ext)
  intro K2 hK2;refine gG_ ?_;refine hK2 _ _ ?_;clear hK2 K2
  refine zj (λ_=>h _ _ S.ext) (λhlen=>?_)
  refine zk (ι:=Nat) (λi=>[.int .i64 i]) (λi w'=>i≤t.of.length∧St w r w' _) (λi=>t.of.length-i) 0 rfl ⟨Nat.zero_le _,S⟩ ?_
  clear S
  rintro i d w9 ⟨hi,S⟩ K6 hK6
  simp only[gdz]
  refine gG_ ?_
  refine zj (λhlt=>?_) (λ_=>h _ _ S.ext)
  have hlt:i<t.of.length:=by omega
  obtain⟨b,off,c,rfl,hc,hcell,ht⟩:=qM S hof hlt
  refine gG_ ?_
  refine zt (n:=5) hc (by simpa using hcell) ?_
  refine gG_ ?_
  refine ih (by omega) (by omega) (by omega) S.holds ht λbb w10 e10=>?_
  have S:=S.go e10
  refine gG_ ?_
  refine c_b (λ_=>h _ _ S.ext) (λ_=>?_)
  refine gG_ ?_
  exact hK6 (i+1) _ ⟨hlt,S⟩ (by omega)
theorem acT{l m:List CnD}{v vm:Value}{w:World}{r:Gh}{K:Value→World→Prop}(hr:Holds r w)(hl:SlG 2 r CnC v l)(hm:SlG 2 r CnC vm m)(hlf:l.length≤1000000)(hmf:m.length≤1000000)
  (h:∀w',Ext w w'→K (.bool (decide (l=m))) w'):zd Tryz.prog Tryz.Zg #[v,vm] w K:=by
 refine Tryz.abq ?_
 unfold Tryz.Qh
 obtain⟨p,cap,rfl,_,_⟩:=hl.shape
 obtain⟨pm,cm,rfl,_,_⟩:=hm.shape
 have S:=St.start hr
 refine gg_ ?_
 refine zj (λhne=>?_) (λheq=>?_)
 ·have:=h _ S.ext
  have hn:¬l=m:=λe=>hne (by rw[e])
  rwa[decide_eq_false hn]at this
 have heq:l.length=m.length:=by omega
 refine zk (ι:=Nat) (λi=>[.int .i64 (i:Nat)]) (λi w'=>i≤l.length∧(∀k (h1:k<l.length) (h2:k<m.length),k<i→l[k]=m[k])∧StX noX w r w' []) (λi=>l.length-i) 0 rfl ⟨Nat.zero_le _,λk _ _ h0=>absurd h0 (Nat.not_lt_zero _),S⟩ ?_
 repeat clear S
 rintro i d w6 ⟨hi,hno,S⟩ K4 hK4
 rw[gdz]
 refine gp_ ?_
 refine gp_ ?_
 refine zj (λhlt=>?_) (λhge=>?_)
 ·have hlt:i<l.length:=by omega
  have hlt2:i<m.length:=by omega
  have S:=S.go (Ext.drew _)
  obtain⟨b,off,hE,_,_,_,hc⟩:=kJ hl hlt
  obtain⟨b2,off2,hE2,_,_,_,hc2⟩:=kJ hm hlt2
  subst hE
  subst hE2
  refine gg_ ?_
  refine zt (n:=2) rfl (λj v hj=>by rw[tnc];exact S.at (hc j v hj)) ?_
  refine gg_ ?_
  refine zt (n:=2) rfl (λj v hj=>by rw[tnc];exact S.at (hc2 j v hj)) ?_
  refine gg_ ?_
  have he:(decide (l[i].1=m[i].1)&&decide (l[i].2=m[i].2))=decide (l[i]=m[i]):=by
   rw[Bool.eq_iff_iff,Bool.and_eq_true,decide_eq_true_eq,decide_eq_true_eq,decide_eq_true_eq,Prod.ext_iff]
  rw[he]
  refine c_b (λhb=>?_) (λhb=>?_)
  ·have:=h _ S.ext
   have hne:¬l=m:=λe=>by subst e;simp at hb
   rwa[decide_eq_false hne]at this
  ·refine gg_ ?_
   refine hK4 (i+1) _ ⟨hlt,λk h1 h2 hk=>?_,S⟩ (by omega)
   rcases Nat.lt_or_ge k i with h|h
   ·exact hno k h1 h2 h
   ·obtain rfl:k=i:=by omega
    simpa using hb
 ·have hil:i=l.length:=by omega
  have:=h _ S.ext
  have hy:l=m:=List.ext_getElem heq λk h1 h2=>hno k h1 h2 (by omega)
  rwa[decide_eq_true hy]at this
end Go.Proofs
end
section
namespace Go.Proofs
open Go.Sh Go.RowKit Go.BM
theorem adC:zf zY xp=⟨0,4,2,[zK,zK,jj 0],[1,-1,-1,-1]⟩:=by kernel_rfl
theorem adE:ym (yv zY 0 (-1))=(⟨0,4,2,[zK,zK,jj 0],[1,-1,-1,-1]⟩,0):=by rw[afH (by decide)];rfl
theorem acU{t:TyD}(ht:mayB [] t=true):(yB [] [t] ⟨0,[]⟩).1=t:=by
 have ho:yJ [] [t] ⟨0,[]⟩=true:=by
  rw[yJ,hst]
  show(((decide ((0:Int)≤0)&&decide ((0:Int)<1))&&decide (0≤8))&&(true&&(mayB [] t&&true)))=true
  rw[ht];rfl
 rw[yB,yK,if_pos ho];rfl
theorem ahJ:yq [] [zK,zK,jj 0] (plD 1)=zK:=acU (by rw[hmay];kernel_rfl)
theorem ahK:yq [] [zK,zK,jj 0] (plD 2)=jj 0:=acU (by rw[hmay];kernel_rfl)
theorem ae3:yx zY [zK,zK,jj 0] hp0 1=[(1,0)]:=by
 rw[yx,if_neg (by decide),if_neg (by decide),if_pos (by decide)]
 show kp false (.mk 4 true 1 0 [yq [] _ (plD 1)]) (yq [] _ (plD 2))++[]=_
 rw[ahJ,ahK];rfl
theorem ahL:cnU zY xp=[(1,0)]:=by
 have h1:yx zY [zK,zK,jj 0] hp1 (-1)=[]:=by rw[yx,if_pos (by decide),flO,if_neg (by decide)]
 have h2:yx zY [zK,zK,jj 0] hp2 (-1)=[]:=by rw[yx,if_pos (by decide),flO,if_neg (by decide)]
 have h3:yx zY [zK,zK,jj 0] hp3 (-1)=[]:=by rw[yx,if_neg (by decide),if_neg (by decide),if_neg (by decide),if_neg (by decide)]
 rw[cnU,adC]
 show yx zY [zK,zK,jj 0] hp0 1++(yx zY [zK,zK,jj 0] hp1 (-1)++(yx zY [zK,zK,jj 0] hp2 (-1)++(yx zY [zK,zK,jj 0] hp3 (-1)++[])))=_
 rw[ae3,h1,h2,h3];rfl
theorem ahM:ofD zY 0=([(1,0)],0):=by
 rw[ofD,adE,if_neg (by decide)]
 show(ddL (cnU zY xp),(0:Int))=_
 rw[ahL];rfl
theorem ahN:atD zY 0 0=([(1,0)],0):=by
 rw[atD,adE,if_neg (by decide)]
 show(if(0:Int)≠0 then _ else(yx zY (zf zY xp).tys hp0 ((zf zY xp).at'.getD 0 0),(0:Int)))=_
 rw[if_neg (by decide),adC]
 exact congrArg (·,(0:Int)) ae3
theorem ahO:xQ (.mk 4 false 1 0 [zK]) (.mk 4 false 2 0 [zK])=([(1,2)],0):=by kernel_rfl
theorem ahP:frD [(1,0)] 2 0=([0,1],0):=by
 rw[frD,if_neg (by decide)]
 congr 1
 refine Y8 Vo (by decide) λx=>?_
 rw[adw]
 simp only[List.mem_cons,List.not_mem_nil,or_false]
 constructor
 ·rintro⟨h,_⟩;omega
 ·rintro(rfl|rfl)
  ·exact⟨by decide,.base⟩
  ·exact⟨by decide,.step .base (by simp)⟩
theorem agZ:BM.mayB 0 []=true:=BM.mayB_true ⟨by decide,by decide,by decide,λk _ h=>by simp at h⟩
theorem ag0:([(0,[]),(0,[])]:List yr).any (xt [(0,[]),(0,[])])=false:=by
 have :xt [(0,[]),(0,[])] (0,[])=false:=by rw[xt,agZ];rfl
 simp only[List.any_cons,List.any_nil,this];rfl
theorem vi{w:World}{r:Gh}{K:Value→World→Prop}(hr:Holds r w)(hT:TabG r)(h:∀w',Ext w w'→K (.bool true) w'):zd Tryz.prog Tryz.xV #[] w K:=by
 refine Tryz.aau ?_
 unfold Tryz.Xu
 have S:=St.start hr
 refine acS λv2 s2 w2 e2 n2 hu=>?_
 obtain⟨S,_,_⟩:=S.tell e2 n2
 refine S.al λb1 w3 S=>?_
 obtain⟨p0,cap0,vf,rfl,_,_,_,_,hfn⟩:=id hu
 obtain⟨qf,capf,rfl,_,_⟩:=hfn.sl.shape
 refine S.stB (b:=b1) λw4 S=>?_
 have S:StX noX w (r.or s2) w4 [.cell b1 [.slice p0 0 cap0,.slice qf 1 capf,.int .i64 0] 25]:=S
 have hu:UnG (r.or s2) (.agg #[.slice p0 0 cap0,.slice qf 1 capf,.int .i64 0]) zY:=UnG.up hu
 have hT:TabG (r.or s2):=hT.up
 generalize r.or s2=ρ at S hu hT
 refine S.ldB (b:=b1) ?_ rfl
 refine acL S.holds hu λv5 s5 w5 e5 n5 h5=>?_
 rw[ahM]at h5⊢
 obtain⟨S,_,_⟩:=S.tell e5 n5
 obtain⟨p5,c5,rfl,_,_⟩:=h5.shape
 refine gp_ ?_
 refine gp_ ?_
 refine S.ldB (b:=b1) ?_ rfl
 refine acI S.holds hu.up λv6 s6 w6 e6 n6 h6=>?_
 rw[ahN]at h6⊢
 obtain⟨S,_,_⟩:=S.tell e6 n6
 obtain⟨p6,c6,rfl,_,_⟩:=h6.shape
 refine gp_ ?_
 refine gp_ ?_
 refine VD λq7 c7 s7 w7 e7 n7 t7=>?_
 obtain⟨S,_,_⟩:=S.tell e7 n7
 refine VD λq8 c8 s8 w8 e8 n8 t8=>?_
 obtain⟨S,_,_⟩:=S.tell e8 n8
 refine Z3 S.holds t7.up t8.up λv9 s9 w9 e9 n9 h9=>?_
 rw[ahO]at h9⊢
 obtain⟨S,_,_⟩:=S.tell e9 n9
 obtain⟨p9,c9,rfl,_,_⟩:=h9.shape
 refine gp_ ?_
 refine gp_ ?_
 obtain⟨σ,hσ,S⟩:=S.any
 have l5:Le s5 σ:=by rw[hσ];infer_instance
 have l0:Le ρ σ:=by rw[hσ];infer_instance
 clear hσ
 have h5:SlG 2 σ CnC (.slice p5 ([(1,0)]:List CnD).length c5) [(1,0)]:=h5.cells
 refine YO S.holds h5 (by decide) λv10 s10 w10 e10 n10 h10=>?_
 rw[ahP]at h10⊢
 obtain⟨S,_,_⟩:=S.tell e10 n10
 obtain⟨p10,c10,rfl,_,_⟩:=h10.shape
 refine gp_ ?_
 refine gp_ ?_
 refine zp (cs:=#[.int .i64 0,.slice none 0 0]) (by kernel_rfl) ?_
 refine zp (cs:=#[.int .i64 0,.slice none 0 0]) (by kernel_rfl) ?_
 refine S.lit (t:=44) (e:=48) (cs:=[.int .i64 0,.slice none 0 0,.int .i64 0,.slice none 0 0]) (by kernel_rfl) λb11 w11 S=>?_
 obtain⟨S,h11,_⟩:=S.litNew b11 (sz:=2) (R:=RwbC nothing) (l:=[(0,[]),(0,[])]) (by exact(xo (c:=[.int .i64 0,.slice none 0 0]) rfl ⟨none,0,rfl,aad⟩ (kF (c:=[.int .i64 0,.slice none 0 0]) rfl ⟨none,0,rfl,aad⟩))) (by decide)
 obtain⟨τ,hτ,S⟩:=S.any
 have l1:Le σ τ:=by rw[hτ];infer_instance
 have l2:Le ρ τ:=by rw[hτ];exact⟨λb o h=>.inl (.inl (l0.le b o h))⟩
 have l3:Le (Go.Sh.one b11 [.int .i64 0,.slice none 0 0,.int .i64 0,.slice none 0 0] 48) τ:=by rw[hτ];infer_instance
 have h11:=h11.up' l3 λc x h=>RwbC.up (s:=τ) h
 have hT:TabG τ:=hT.up
 have h5:SlG 2 τ CnC (.slice p5 ([(1,0)]:List CnD).length c5) [(1,0)]:=h5.cells
 have hins:xR [((1:Int),(0:Int))] 2=true:=by decide
 refine ZF S.holds h5 (by decide) h11 (by decide) hT (λhb=>?_) (λ_ _ i hi _ hne=>?_) λ_ _ _ w12 e12=>?_
 ·exfalso
  rcases hb with hb|hb
  ·rw[ag0]at hb;cases hb
  ·rw[show (([(0,[]),(0,[])]:List yr).length:Int)=2 by rfl,hins]at hb;cases hb
 ·exfalso
  have :i=0:=by have :i<1:=hi;omega
  subst this
  exact hne rfl
 have S:=S.go e12
 obtain⟨bq,oq,hq,_,g1,g2,gg⟩:=kJ h5 (i:=0) (by decide)
 subst hq
 refine gS_ ?_
 iterate 1 refine zo (c:=true) (λ_ K2 hK2=>by refine gg_ ?_;exact hK2) ?_
 refine zo (c:=true) (λ_ K2 hK2=>?_) ?_
 ·refine gg_ ?_
  refine s_c (by decide) ?_
  refine zt (n:=2) rfl (λj v hj=>by simpa using S.at (gg j v hj)) ?_
  refine zp (cs:=#[.int .i64 1,.int .i64 0]) (by kernel_rfl) ?_
  refine gg_ ?_
  exact hK2
 iterate 6 refine zo (c:=true) (λ_ K2 hK2=>by refine gg_ ?_;exact hK2) ?_
 refine zo (c:=true) (λ_ K2 hK2=>hK2) ?_
 refine zo (c:=true) (λ_ K2 hK2=>by refine gg_ ?_;exact hK2) ?_
 exact h _ S.ext
end Go.Proofs
end
section
namespace Go.Proofs
open Go.Sh Go.RowKit
theorem af2{l:List CnD}{ct a:Int}:(frD l ct a=([],2))∨(((0≤ct∧ct≤512)∧0≤a∧a<ct)∧kG l ct=true∧frD l ct a=(upL l ct.toNat a,0)):=by
 by_cases h:(((ct<0∨512<ct)∨a<0)∨ct≤a)∨xR l ct=false
 ·exact .inl (by rw[frD,if_pos h])
 ·refine .inr ?_
  rw[not_or,not_or,not_or,not_or,Bool.not_eq_false,j0]at h
  refine⟨by omega,h.2,?_⟩
  rw[frD,if_neg]
  rw[j0,h.2];simp;omega
end Go.Proofs
end
section
namespace Go.Proofs
open Go.Sh
end Go.Proofs
end
section
namespace Go.Proofs
open Go.Sh Go.RowKit
end Go.Proofs
end
section
namespace Go.Proofs
open Go.Sh Go.RowKit Go.BM
end Go.Proofs
end
section
namespace Go.Proofs.Tryz
open Go.Sh
end Go.Proofs.Tryz
end
section
namespace Go.Sh
section
variable {w:World} {b c d:Bool} {A1:(List Value→World→Prop)→Prop} {A2:(List Value→World→Prop)→World→Prop} {Z:Value→World→Prop}
end
end Go.Sh
end
section
namespace Go.Proofs
open Go.Sh Go.RowKit
end Go.Proofs
end
section
namespace Go.Proofs
open Go.Sh Go.RowKit Go.BM
variable {W:Int} {ws vs:List (BitVec 64)} {w:World} {r:Gh} {K:Value→World→Prop}
theorem ae4{c:List Value}{K:Value→World→Prop}(hr:Holds r w)(hx:RwbC r c (W,ws))
  (h:∀w',Ext w w'→K (.bool (BM.mayB W ws)) w'):zd Tryz.prog Tryz.Z7 #[.agg c.toArray] w K:=by
 refine Tryz.acv ?_
 unfold Tryz.QY
 obtain⟨p,cap,rfl,hS⟩:=hx
 have hfew:ws.length≤9223372036854775807:=hS.few
 have S:=St.start hr
 refine S.box λb1 w1 S=>?_
 have S:StX noX w r w1 [.cell b1 [.int .i64 W,.slice p ws.length cap] 48]:=S
 refine gg_ ?_
 refine zi (c:=decide (1032<W)) (λ_ K2 hK2=>by refine gg_ ?_;exact hK2) ?_
 refine zi (c:=decide ((ws.length:Int)≠(W+63)/64)) (λhb K2 hK2=>?_) ?_
 ·simp only[Bool.or_eq_false_iff,decide_eq_false_iff_not]at hb
  refine gg_ ?_
  exact hK2
 refine c_b (λhb=>?_) (λhb=>?_)
 ·rw[BM.mayB_false (λhm=>by
   simp only[Bool.or_eq_true,decide_eq_true_eq]at hb
   have:=hm.1;have:=hm.2.1;have:=hm.2.2.1
   omega)]at h
  exact h _ S.ext
 simp only[Bool.or_eq_false_iff,decide_eq_false_iff_not,Decidable.not_not]at hb
 obtain⟨⟨h0,h1⟩,h2⟩:=hb
 obtain⟨k,rfl⟩:∃k:Nat,W=(k:Int):=⟨W.toNat,by omega⟩
 refine gg_ ?_
 refine zk (ι:=Nat) (λi=>[.int .i64 (i:Nat)]) (λi w'=>k≤i∧i≤64*ws.length∧(∀j,k≤j→j<i→bit ws j=false)∧StX noX w r w' [.cell b1 [.int .i64 k,.slice p ws.length cap] 48]) (λi=>64*ws.length-i) k rfl ⟨Nat.le_refl _,by omega,λj h1 h2=>by omega,S⟩ ?_
 repeat clear S
 rintro i d w13 ⟨hki,hi,hz,S⟩ K10 hK10
 rw[gdz]
 refine gg_ ?_
 refine zj (λhlt=>?_) (λhge=>?_)
 ·have hlt:i<64*ws.length:=by omega
  have hlt2:i/64<ws.length:=by omega
  obtain⟨b2,o2,rfl,_,hc⟩:=YI hS.sl hlt2
  have hB:bit ws i=decide (((ws[i/64] >>> (i%64)) &&& BitVec.ofInt 64 1).toNat=(1:Int)):=by
   rw[bit,List.getD_eq_getElem?_getD,gqg hlt2,Option.getD_some,Bool.eq_iff_iff,decide_eq_true_eq,QX]
  have hzn:bit ws i=false→∀j,k≤j→j<i+1→bit ws j=false:=λhh j h1 h2=>by
   rcases Nat.lt_or_ge j i with h3|h3
   ·exact hz j h1 h3
   ·rw[show j=i by omega];exact hh
  have hmb:bit ws i=true→BM.mayB k ws=false:=λhh=>BM.mayB_false λhm=>by
   rw[hm.2.2.2 i (by omega) hlt]at hh;cases hh
  rw[hB]at hzn hmb
  generalize ws[i/64]=x at hc hzn hmb
  refine gg_ ?_
  refine zh (by rw[show ((i:Int)/64).toNat=i/64 by omega];exact S.at hc) ?_
  refine gg_ ?_
  rw[show ((i:Int)%64).toNat=i%64 by omega]
  refine c_b (λhb=>?_) (λhb=>?_)
  ·rw[hmb hb]at h
   exact h _ S.ext
  ·refine gp_ ?_
   exact hK10 (i+1) _ ⟨by omega,hlt,hzn hb,S⟩ (by omega)
 ·have hie:i=64*ws.length:=by omega
  rw[BM.mayB_true ⟨by omega,by omega,by omega,λj h1 h2=>hz j (by omega) (by omega)⟩]at h
  exact h _ S.ext
theorem ag1{k:Nat}(hk:k<W.toNat)(hb:(bit vs k && !bit ws k)=true)(h:∀j,j<k→(bit vs j && !bit ws j)=false):∃l,lackL W ws vs=k::l:=by
 obtain⟨m,hm⟩:∃m,W.toNat=k+(m+1):=⟨W.toNat-k-1,by omega⟩
 have h0:(List.range k).filter (λk=>bit vs k && !bit ws k)=[]:=by
  rw[List.filter_eq_nil_iff];intro j hj;rw[h j (List.mem_range.1 hj)];decide
 refine⟨((List.range m).map λx=>k+(x+1)).filter (λk=>bit vs k && !bit ws k),?_⟩
 rw[lackL,hm,List.range_add,List.filter_append,h0,List.nil_append,List.range_succ_eq_map,List.map_cons,Nat.add_zero,List.filter_cons,if_pos hb,List.map_map]
 rfl
theorem ag2(h:∀j,j<W.toNat→(bit vs j && !bit ws j)=false):lackL W ws vs=[]:=by
 rw[lackL,List.filter_eq_nil_iff];intro k hk;rw[h k (List.mem_range.1 hk)];decide
theorem adg{x y:yr}{cx cy:List Value}{K:Value→World→Prop}(hr:Holds r w)(hx:RwbC r cx x)(hy:RwbC r cy y)(hm:BM.mayB x.1 x.2=true)(hm2:BM.mayB y.1 y.2=true)(he:x.1=y.1)
  (h:∀w',Ext w w'→K (.tuple #[.int .i64 (((lackL x.1 x.2 y.2).headD 0:Nat):Int),.bool (!(lackL x.1 x.2 y.2).isEmpty)]) w'):zd Tryz.prog Tryz.j5 #[.agg cx.toArray,.agg cy.toArray] w K:=by
 refine Tryz.aaj ?_
 unfold Tryz.Xq
 have hx0:=hx;have hy0:=hy
 obtain⟨W,ws⟩:=x
 obtain⟨V,vs⟩:=y
 obtain rfl:W=V:=he
 obtain⟨p,cap,rfl,hS⟩:=hx
 obtain⟨q,caq,rfl,hQ⟩:=hy
 have hM:=jX hm
 have hM2:=jX hm2
 simp only at hM hM2 h hS hQ
 have l1:=hM.2.2.1;have l2:=hM2.2.2.1;have l3:=hM.2.1;have l4:=hM.1
 have S:=St.start hr
 refine S.box λb2 w1 S=>?_
 refine S.box λb3 w2 S=>?_
 have S:StX noX w r w2 [.cell b3 [.int .i64 W,.slice q vs.length caq] 48,.cell b2 [.int .i64 W,.slice p ws.length cap] 48]:=S
 refine zk (ι:=Nat) (λi=>[.int .i64 (i:Nat)]) (λi w'=>i≤W.toNat∧(∀j,j<i→(bit vs j && !bit ws j)=false)∧StX noX w r w' [.cell b3 [.int .i64 W,.slice q vs.length caq] 48,.cell b2 [.int .i64 W,.slice p ws.length cap] 48])
  (λi=>W.toNat-i) 0 rfl ⟨Nat.zero_le _,λj hj=>absurd hj (Nat.not_lt_zero _),S⟩ ?_
 repeat clear S
 rintro i d w3 ⟨hi,hno,S⟩ K3 hK3
 rw[gdz]
 refine gg_ ?_
 refine zj (λhlt=>?_) (λhge=>?_)
 ·have hlt:i<W.toNat:=by omega
  refine S.ldB (b:=b3) ?_ rfl
  refine Vr (W:=W) (ws:=vs) S.holds hy0 (by omega) (by omega) (by omega) λw4 e4=>?_
  have S:=S.go e4
  rw[tnc]
  refine zL (c:=!bit ws i) (λhb K2 hK2=>?_) λw5 e5=>?_
  ·refine S.ldB (b:=b2) ?_ rfl
   refine Vr (W:=W) (ws:=ws) S.holds hx0 (by omega) (by omega) (by omega) λw5 e5=>?_
   rw[tnc]
   refine gp_ ?_
   exact hK2 _ e5
  have S:=S.go e5
  refine c_b (λhb=>?_) (λhb=>?_)
  ·have hk:=h _ S.ext
   obtain⟨l,hl⟩:=ag1 hlt hb hno
   rw[hl]at hk;exact hk
  ·refine gp_ ?_
   refine hK3 (i+1) _ ⟨hlt,λj hj=>?_,S⟩ (by omega)
   rcases Nat.lt_or_ge j i with h1|h1
   ·exact hno j h1
   ·rw[show j=i by omega];exact hb
 ·have hk:=h _ S.ext
  rw[ag2 (λj hj=>hno j (by omega))]at hk;exact hk
theorem aav{R:List yr}{l:List CnD}{v vr:Value}{K:Value→World→Prop}(hr:Holds r w)(hl:SlG 2 r CnC v l)(hb:l.length≤1000000)(hR:SlG 2 r (RwbC r) vr R)(hRb:R.length≤1000000)
  (h1:R.any (xt R)=true∨xR l R.length=false→∀w',Ext w w'→K (.tuple #[.int .i64 0,.int .i64 0,.bool false,.int .i64 2]) w')
  (h2:R.any (xt R)=false→kG l R.length=true→∀(i:Nat)(hi:i<l.length),(∀k (hk:k<l.length),k<i→yG R l[k]=[])→yG R l[i]≠[]→∀w',Ext w w'→K (.tuple #[.int .i64 (i:Nat),.int .i64 ((yG R l[i]).headD 0:Nat),.bool false,.int .i64 0]) w')
  (h3:R.any (xt R)=false→kG l R.length=true→(∀k (hk:k<l.length),yG R l[k]=[])→∀w',Ext w w'→K (.tuple #[.int .i64 0,.int .i64 0,.bool true,.int .i64 0]) w'):
  zd Tryz.prog Tryz.kO #[v,vr] w K:=by
 refine Tryz.VB ?_
 unfold Tryz.YP
 obtain⟨p,cap,rfl,_,_⟩:=hl.shape
 obtain⟨pr,capr,rfl,_,_⟩:=hR.shape
 have S:=St.start hr
 refine zk (ι:=Nat) (λi=>[.int .i64 (i:Nat)]) (λi w'=>i≤R.length∧(∀k (hk:k<R.length),k<i→xt R R[k]=false)∧StX noX w r w' []) (λi=>R.length-i) 0 rfl ⟨Nat.zero_le _,λk hk h0=>absurd h0 (Nat.not_lt_zero _),S⟩ ?_
 repeat clear S
 rintro i d w4 ⟨hi,hno,S⟩ K4 hK4
 rw[gdz]
 refine gp_ ?_
 refine gp_ ?_
 refine zj (λhlt=>?_) (λhge=>?_)
 ·have hlt:i<R.length:=by omega
  have S:=S.go (Ext.drew _)
  obtain⟨ba,oa,ca,hEa,_,hca,hcella⟩:=hR.get (by decide) hlt
  obtain⟨bz,oz,cz,hEz,_,hcz,hcellz⟩:=hR.get (by decide) (i:=0) (by omega)
  have hca0:=hca
  obtain⟨pa,wa,rfl,_⟩:=hca
  obtain⟨pz,wz,rfl,_⟩:=hcz
  have hh:(R.headD (0,[])).1=R[0].1:=by rw[List.headD_eq_head?_getD,List.head?_eq_getElem?,gqg (show 0<R.length by omega),Option.getD_some]
  have hbd:xt R R[i]=(!(BM.mayB R[i].1 R[i].2)||decide (R[i].1≠R[0].1)):=by rw[xt,hh]
  rw[hEa]at hEz
  cases hEz
  subst hEa
  refine gg_ ?_
  refine zt (n:=2) rfl (λj v hj=>by rw[tnc];exact S.at (hcella j v hj)) ?_
  refine ae4 (W:=R[i].1) (ws:=R[i].2) S.holds hca0 λw5 e5=>?_
  have S:=S.go e5
  refine gp_ ?_
  refine zi (c:=decide (R[i].1≠R[0].1)) (λ_ K2 hK2=>?_) ?_
  ·refine gg_ ?_
   refine zh (v:=.int .i64 R[i].1) (by rw[tnc];exact S.at (hcella 0 _ rfl)) ?_
   refine gg_ ?_
   refine zh (v:=.int .i64 R[0].1) (by simpa using S.at (hcellz 0 _ rfl)) ?_
   refine gp_ ?_
   exact hK2
  rw[← hbd]
  refine c_b (λhbad=>?_) (λhok=>?_)
  ·exact h1 (.inl (List.any_eq_true.2 ⟨_,List.getElem_mem hlt,hbad⟩)) _ S.ext
  ·refine gp_ ?_
   refine hK4 (i+1) _ ⟨hlt,λk hk hki=>?_,S⟩ (by omega)
   rcases Nat.lt_or_ge k i with h|h
   ·exact hno k hk h
   ·obtain rfl:k=i:=by omega
    exact hok
 have hgood:R.any (xt R)=false:=by
  rw[List.any_eq_false]
  intro x hx
  obtain⟨k,hk,rfl⟩:=List.getElem_of_mem hx
  rw[hno k hk (by omega)];decide
 clear hK4 hno hi hge
 refine zk (ι:=Nat) (λi=>[.int .i64 (i:Nat)]) (λi w'=>i≤l.length∧(∀k (hk:k<l.length),k<i→Ym R.length l[k]=false)∧StX noX w r w' []) (λi=>l.length-i) 0 rfl ⟨Nat.zero_le _,λk hk h0=>absurd h0 (Nat.not_lt_zero _),S⟩ ?_
 repeat clear S
 rintro i d w6 ⟨hi,hin,S⟩ K4 hK4
 rw[gdz]
 refine gp_ ?_
 refine gp_ ?_
 refine zj (λhlt=>?_) (λhge=>?_)
 ·have hlt:i<l.length:=by omega
  obtain⟨b,off,hpE,_,hc1,hc2,_⟩:=kJ hl hlt
  subst hpE
  refine gg_ ?_
  refine zh (v:=.int .i64 l[i].1) (by simpa using S.at hc1) ?_
  refine gp_ ?_
  refine zi (c:=decide (l[i].2<0)) (λ_ K2 hK2=>by refine gg_ ?_;refine zh (v:=.int .i64 l[i].2) (by simpa using S.at hc2) ?_;refine gp_ ?_;exact hK2) ?_
  refine zi (c:=decide (l[i].1≥(R.length:Int))) (λ_ K2 hK2=>by refine gg_ ?_;refine zh (v:=.int .i64 l[i].1) (by simpa using S.at hc1) ?_;refine gg_ ?_;exact hK2) ?_
  refine zi (c:=decide (l[i].2≥(R.length:Int))) (λ_ K2 hK2=>by refine gg_ ?_;refine zh (v:=.int .i64 l[i].2) (by simpa using S.at hc2) ?_;refine gg_ ?_;exact hK2) ?_
  refine c_b (λhbad=>?_) (λhok=>?_)
  ·refine h1 (.inr ?_) _ S.ext
   rw[xR,Bool.not_eq_false',List.any_eq_true]
   refine⟨_,List.getElem_mem hlt,?_⟩
   simp only[Bool.or_eq_true,decide_eq_true_eq]at hbad
   rw[Ym,Bool.or_eq_true,decide_eq_true_eq,decide_eq_true_eq]
   omega
  ·refine gp_ ?_
   refine hK4 (i+1) _ ⟨hlt,λk hk hki=>?_,S⟩ (by omega)
   rcases Nat.lt_or_ge k i with h|h
   ·exact hin k hk h
   ·obtain rfl:k=i:=by omega
    simp only[Bool.or_eq_false_iff,decide_eq_false_iff_not]at hok
    rw[Ym,Bool.or_eq_false_iff,decide_eq_false_iff_not,decide_eq_false_iff_not]
    omega
 have k2:kG l R.length=true:=by
  rw[← j0,xR,Bool.not_eq_true',List.any_eq_false]
  intro c hc
  obtain⟨k,hk,rfl⟩:=List.getElem_of_mem hc
  rw[hin k hk (by omega)];decide
 clear hK4 hin hi hge h1
 have hma:∀x∈R,BM.mayB x.1 x.2=true∧x.1=(R.headD (0,[])).1:=λx hx=>by
  have:=List.any_eq_false.1 hgood x hx
  rw[xt]at this
  simpa using this
 refine zk (ι:=Nat) (λi=>[.int .i64 (i:Nat)]) (λi w'=>i≤l.length∧(∀k (hk:k<l.length),k<i→yG R l[k]=[])∧StX noX w r w' []) (λi=>l.length-i) 0 rfl ⟨Nat.zero_le _,λk hk h0=>absurd h0 (Nat.not_lt_zero _),S⟩ ?_
 repeat clear S
 rintro i d w6 ⟨hi,hno,S⟩ K4 hK4
 rw[gdz]
 refine gp_ ?_
 refine gp_ ?_
 refine zj (λhlt=>?_) (λhge=>?_)
 ·have hlt:i<l.length:=by omega
  have hix:=kH.1 k2 _ (List.getElem_mem hlt)
  obtain⟨b,off,hpE,_,hc1,hc2,_⟩:=kJ hl hlt
  subst hpE
  have ha:l[i].1.toNat<R.length:=by omega
  have hb2:l[i].2.toNat<R.length:=by omega
  obtain⟨ba,oa,ca,hEa,_,hca,hcella⟩:=hR.get (by decide) ha
  obtain⟨bb,ob,cb,hEb,_,hcb,hcellb⟩:=hR.get (by decide) hb2
  rw[hEa]at hEb
  cases hEb
  subst hEa
  have hca0:=hca
  have hcb0:=hcb
  obtain⟨pa,wa,rfl,_⟩:=hca
  obtain⟨pb,wb,rfl,_⟩:=hcb
  obtain⟨m1,m2⟩:=hma _ (List.getElem_mem ha)
  obtain⟨m3,m4⟩:=hma _ (List.getElem_mem hb2)
  have S:=S.go (Ext.drew _)
  refine gg_ ?_
  refine zh (v:=.int .i64 l[i].1) (by simpa using S.at hc1) ?_
  refine gg_ ?_
  refine zt (n:=2) rfl (λj v hj=>S.at (hcella j v hj)) ?_
  refine gg_ ?_
  refine zh (v:=.int .i64 l[i].2) (by simpa using S.at hc2) ?_
  refine gg_ ?_
  refine zt (n:=2) rfl (λj v hj=>S.at (hcellb j v hj)) ?_
  refine adg S.holds hca0 hcb0 m1 m3 (by rw[m2,m4]) λw9 e9=>?_
  have S:=S.go e9
  have hlk:lackL R[l[i].1.toNat].1 R[l[i].1.toNat].2 R[l[i].2.toNat].2=yG R l[i]:=by rw[yG,Qv ha,Qv hb2]
  rw[hlk]
  refine gS_ ?_
  refine c_b (λhy=>?_) (λhn=>?_)
  ·exact h2 hgood k2 i hlt hno (by intro e;rw[e]at hy;cases hy) _ S.ext
  ·refine gp_ ?_
   refine hK4 (i+1) _ ⟨hlt,λk hk hki=>?_,S⟩ (by omega)
   rcases Nat.lt_or_ge k i with h|h
   ·exact hno k hk h
   ·obtain rfl:k=i:=by omega
    simpa using hn
 ·exact h3 hgood k2 (λk hk=>hno k hk (by omega)) _ S.ext
end Go.Proofs
end
section
namespace Go.Proofs
open Go.Sh Go.RowKit
theorem aee{p:Nat→Bool}{n i:Nat}(hi:i<n)(hp:p i=true)(h:∀j,j<i→p j=false):(List.range n).find? p=some i:=by
 obtain⟨m,rfl⟩:∃m,n=i+(m+1):=⟨n-i-1,by omega⟩
 have h0:(List.range i).find? p=none:=List.find?_eq_none.2 λj hj=>by rw[h j (List.mem_range.1 hj)];decide
 rw[List.range_add,List.find?_append,h0,List.range_succ_eq_map,List.map_cons,Nat.add_zero,List.find?_cons,hp]
 rfl
noncomputable def clD(R:List yr)(l:List CnD):Int×Int×Bool×Int:=
 if R.any (xt R)=true∨xR l R.length=false then(0,0,false,2)else match (List.range l.length).find? λk=>!(yG R (l.getD k (0,0))).isEmpty with
 |some k=>((k:Nat),((yG R (l.getD k (0,0))).headD 0:Nat),false,0)
 |none=>(0,0,true,0)
section
variable {R:List yr} {l:List CnD} {w:World} {K:Value→World→Prop}
theorem ahQ(h:∀w',Ext w w'→K (.tuple #[.int .i64 (clD R l).1,.int .i64 (clD R l).2.1,.bool (clD R l).2.2.1,.int .i64 (clD R l).2.2.2]) w')(hb:R.any (xt R)=true∨xR l R.length=false):∀w',Ext w w'→K (.tuple #[.int .i64 0,.int .i64 0,.bool false,.int .i64 2]) w':=λw' e=>by
 have:=h w' e
 rwa[clD,if_pos hb]at this
theorem ahR(h:∀w',Ext w w'→K (.tuple #[.int .i64 (clD R l).1,.int .i64 (clD R l).2.1,.bool (clD R l).2.2.1,.int .i64 (clD R l).2.2.2]) w')(h1:R.any (xt R)=false)(h2:kG l R.length=true)(i:Nat)(hi:i<l.length)(h3:∀k (hk:k<l.length),k<i→yG R l[k]=[])(h4:yG R l[i]≠[]):
  ∀w',Ext w w'→K (.tuple #[.int .i64 (i:Nat),.int .i64 ((yG R l[i]).headD 0:Nat),.bool false,.int .i64 0]) w':=λw' e=>by
 have:=h w' e
 have hg:∀{i:Nat}(hi:i<l.length),l.getD i (0,0)=l[i]:=λhi=>by rw[List.getD_eq_getElem?_getD,gqg hi,Option.getD_some]
 rw[clD,if_neg (by rw[h1,j0,h2];simp),aee (i:=i) hi (by rw[hg hi];cases hc:yG R l[i] with|nil=>exact absurd hc h4|cons a m=>rfl) (λj hj=>by rw[hg (by omega),h3 j (by omega) hj];rfl)]at this
 simp only[hg hi]at this
 exact this
theorem ahS(h:∀w',Ext w w'→K (.tuple #[.int .i64 (clD R l).1,.int .i64 (clD R l).2.1,.bool (clD R l).2.2.1,.int .i64 (clD R l).2.2.2]) w')(h1:R.any (xt R)=false)(h2:kG l R.length=true)(h3:∀k (hk:k<l.length),yG R l[k]=[]):∀w',Ext w w'→K (.tuple #[.int .i64 0,.int .i64 0,.bool true,.int .i64 0]) w':=λw' e=>by
 have:=h w' e
 have hn:((List.range l.length).find? λk=>!(yG R (l.getD k (0,0))).isEmpty)=none:=by
  rw[List.find?_eq_none]
  intro k hk
  have hk:=List.mem_range.1 hk
  rw[List.getD_eq_getElem?_getD,gqg hk,Option.getD_some,h3 k hk];decide
 rw[clD,if_neg (by rw[h1,j0,h2];simp),hn]at this
 exact this
end
theorem QJ{R:List yr}{l:List CnD}{v vr:Value}{w:World}{r:Gh}{K:Value→World→Prop}(hr:Holds r w)(hl:SlG 2 r CnC v l)(hb:l.length≤1000000)(hR:SlG 2 r (RwbC r) vr R)(hRb:R.length≤1000000)(hT:TabG r)
  (h:∀w',Ext w w'→K (.tuple #[.int .i64 (clD R l).1,.int .i64 (clD R l).2.1,.bool (clD R l).2.2.1,.int .i64 (clD R l).2.2.2]) w'):zd Tryz.prog Tryz.xa #[v,vr] w K:=ZF hr hl hb hR hRb hT (ahQ h) (ahR h) (ahS h)
theorem VE{R:List yr}{l:List CnD}{v vr:Value}{w:World}{r:Gh}{K:Value→World→Prop}(hr:Holds r w)(hl:SlG 2 r CnC v l)(hb:l.length≤1000000)(hR:SlG 2 r (RwbC r) vr R)(hRb:R.length≤1000000)
  (h:∀w',Ext w w'→K (.tuple #[.int .i64 (clD R l).1,.int .i64 (clD R l).2.1,.bool (clD R l).2.2.1,.int .i64 (clD R l).2.2.2]) w'):zd Tryz.prog Tryz.kO #[v,vr] w K:=aav hr hl hb hR hRb (ahQ h) (ahR h) (ahS h)
theorem adF{t u:TyD}:(xQ t u).1.length≤1000000:=by
 rw[xQ]
 split
 ·exact Nat.zero_le _
 split
 ·have:=qP (both:=false) (t:=t) (u:=u);show(kp false t u).length≤_;omega
 ·exact Nat.zero_le _
theorem ag3{l:List CnD}{ct a:Int}:(frD l ct a).1.length≤1000000:=by
 rcases af2 (l:=l) (ct:=ct) (a:=a)with h|⟨h1,_,h⟩
 ·rw[h];exact Nat.zero_le _
 ·rw[h]
  have:=agM (l:=l) (n:=ct.toNat) (a:=a)
  show(upL l ct.toNat a).length≤_
  omega
theorem XB{t u:TyD}{l:List CnD}{R:List yr}{ct a:Int}{vt vu v vr:Value}{w:World}{r:Gh}{K:Value→World→Prop}(hr:Holds r w)(ht:TyG r vt t)(hu:TyG r vu u)(hl:SlG 2 r CnC v l)(hR:SlG 2 r (RwbC r) vr R)(hT:TabG r)
  (h:∀w',Ext w w'→K (.bool true) w'):zd Tryz.prog Tryz.jl #[vt,vu,v,vr,.int .i64 ct,.int .i64 a] w K:=by
 refine Tryz.Xb ?_
 unfold Tryz.jo
 have ht0:=ht;have hu0:=hu
 have hl0:=hl;have hR0:=hR
 obtain⟨p1,cap1,rfl,_⟩:=ht
 obtain⟨p2,cap2,rfl,_⟩:=hu
 obtain⟨p,cap,rfl,_,_⟩:=hl.shape
 obtain⟨pr,capr,rfl,_,_⟩:=hR.shape
 have S:=St.start hr
 refine S.box λb2 w1 S=>?_
 refine S.box λb3 w2 S=>?_
 have S:StX noX w r w2 [.cell b3 (tyL u p2 cap2) 43,.cell b2 (tyL t p1 cap1) 43]:=S
 refine S.ldB (b:=b2) ?_ rfl
 refine ZG 60 (by decide) (by decide) (by decide) S.holds ht0 λx w3 e3=>?_
 have S:=S.go e3
 refine gp_ ?_
 refine aih (λ_ K2 hK2=>?_) λy w4 e4=>?_
 ·refine S.ldB (b:=b3) ?_ rfl
  refine ZG 60 (by decide) (by decide) (by decide) S.holds hu0 λx w3 e3=>?_
  refine gp_ ?_
  exact hK2 _ _ e3
 have S:=S.go e4
 refine zi (c:=decide (600<(l.length:Int))) (λ_ K2 hK2=>by refine gg_ ?_;exact hK2) ?_
 refine zi (c:=decide (600<(R.length:Int))) (λ_ K2 hK2=>by refine gg_ ?_;exact hK2) ?_
 refine c_b (λ_=>vi S.holds hT λw5 e5=>h _ (S.go e5).ext) (λhsm=>?_)
 simp only[Bool.or_eq_false_iff,decide_eq_false_iff_not]at hsm
 obtain⟨⟨_,hl3⟩,hR3⟩:=hsm
 refine zk (ι:=Nat) (λi=>[.int .i64 (i:Nat)]) (λi w'=>i≤R.length∧StX noX w r w' [.cell b3 (tyL u p2 cap2) 43,.cell b2 (tyL t p1 cap1) 43]) (λi=>R.length-i) 0 rfl ⟨Nat.zero_le _,S⟩ ?_
 repeat clear S
 rintro i d w3 ⟨hi,S⟩ K4 hK4
 rw[gdz]
 refine gp_ ?_
 refine gp_ ?_
 refine zj (λhlt=>?_) (λhge=>?_)
 ·have hlt:i<R.length:=by omega
  obtain⟨b,off,c,hE,hcl,hcR,hcell⟩:=hR.get (by decide) hlt
  generalize R[i]=rw at hcR
  obtain⟨pw,cw,rfl,hS⟩:=hcR
  have hfew:rw.2.length≤9223372036854775807:=hS.few
  subst hE
  refine gg_ ?_
  refine zh (by rw[tnc];exact S.at (hcell 1 _ rfl)) ?_
  refine gg_ ?_
  refine zj (λ_=>vi S.holds hT λw5 e5=>h _ (S.go e5).ext) (λhsm2=>?_)
  refine gg_ ?_
  exact hK4 (i+1) _ ⟨hlt,S⟩ (by omega)
 clear hK4 K4 hge hi d
 refine S.ldB (b:=b2) ?_ rfl
 refine S.ldB (b:=b3) ?_ rfl
 refine Z3 S.holds ht0 hu0 λv5 s5 w5 e5 n5 h5=>?_
 obtain⟨S,_,_⟩:=S.tell e5 n5
 refine gp_ ?_
 refine gp_ ?_
 refine S.ldB (b:=b2) ?_ rfl
 refine S.ldB (b:=b3) ?_ rfl
 refine abp S.holds ht0.up hu0.up λv6 s6 w6 e6 n6 h6=>?_
 obtain⟨S,_,_⟩:=S.tell e6 n6
 refine gp_ ?_
 refine gp_ ?_
 refine gp_ ?_
 refine y8 (c:=false) (λ_ K2 hK2=>?_) λw7 e7=>?_
 ·refine acT S.holds h5.cells h6.cells adF adF λw7 e7=>?_
  rw[decide_eq_true rfl]
  refine gp_ ?_
  exact hK2 _ e7
 have S:=S.go e7
 refine c_f (by simp) ?_
 refine QJ S.holds hl0.cells (by omega) (hR0.up' inferInstance λ_ _ h=>h.up) (by omega) hT.up λw8 e8=>?_
 have S:=S.go e8
 refine gS_ ?_
 refine VE S.holds hl0.cells (by omega) (hR0.up' inferInstance λ_ _ h=>h.up) (by omega) λw9 e9=>?_
 have S:=S.go e9
 generalize clD R l=cd
 obtain⟨ca,cb,cc,ce⟩:=cd
 dsimp only
 refine gS_ ?_
 refine zi (c:=false) (λ_ K2 hK2=>by refine gp_ ?_;rw[show decide (cb≠cb)=false by simp];exact hK2) ?_
 refine zi (c:=false) (λ_ K2 hK2=>by cases cc<;>(refine gp_ ?_;exact hK2)) ?_
 refine zi (c:=false) (λ_ K2 hK2=>by refine gp_ ?_;rw[show decide (ce≠ce)=false by simp];exact hK2) ?_
 refine c_f (by simp) ?_
 refine YO S.holds hl0.cells (by omega) λv10 s10 w10 e10 n10 h10=>?_
 obtain⟨S,_,_⟩:=S.tell e10 n10
 refine gp_ ?_
 refine gp_ ?_
 refine acO S.holds hl0.cells (by omega) λv11 s11 w11 e11 n11 h11=>?_
 obtain⟨S,_,_⟩:=S.tell e11 n11
 have hff:=ag3 (l:=l) (ct:=ct) (a:=a)
 generalize frD l ct a=fd at h10 h11 hff⊢
 obtain⟨F,fe⟩:=fd
 dsimp only at h10 h11 hff⊢
 obtain⟨p10,c10,rfl,_,_⟩:=h10.shape
 obtain⟨p11,c11,rfl,_,_⟩:=h11.shape
 refine gS_ ?_
 refine zi (c:=false) (λ_ K2 hK2=>by refine gg_ ?_;rw[show decide (((F.length:Nat):Int)≠((F.length:Nat):Int))=false by simp];exact hK2) ?_
 refine c_f (by simp) ?_
 obtain⟨σ,hσ,S⟩:=S.any
 have l10:Le s10 σ:=by rw[hσ];infer_instance
 have l11:Le s11 σ:=by rw[hσ];infer_instance
 have l12:Le r σ:=by rw[hσ];infer_instance
 clear hσ
 have hT:TabG σ:=hT.up
 have h10:SlG 1 σ kD (.slice p10 F.length c10) F:=h10.cells
 have h11:SlG 1 σ kD (.slice p11 F.length c11) F:=h11.cells
 refine zk (ι:=Nat) (λi=>[.int .i64 (i:Nat)]) (λi w'=>i≤F.length∧StX noX w σ w' []) (λi=>F.length-i) 0 rfl ⟨Nat.zero_le _,S.less (λ_ _ h=>h) (List.nil_sublist _)⟩ ?_
 repeat clear S
 rintro i d w12 ⟨hi,S⟩ K4 hK4
 rw[gdz]
 refine gp_ ?_
 refine gp_ ?_
 refine zj (λhlt=>?_) (λhge=>?_)
 ·have hlt:i<F.length:=by omega
  obtain⟨ba,oa,hpa,_,hca⟩:=qQ h10 hlt
  obtain⟨bb,ob,hpb,_,hcb⟩:=qQ h11 hlt
  subst hpa
  subst hpb
  have S:=S.go (Ext.drew _)
  refine gg_ ?_
  refine zh (by rw[tnc];exact S.at hca) ?_
  refine gg_ ?_
  refine zh (by rw[tnc];exact S.at hcb) ?_
  refine gp_ ?_
  refine c_f (by simp) ?_
  refine gp_ ?_
  exact hK4 (i+1) _ ⟨hlt,S⟩ (by omega)
 ·exact vi S.holds hT λw13 e13=>h _ (S.go e13).ext
end Go.Proofs
end
