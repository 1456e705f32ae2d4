/-
  Contracts and plain laws that the last text leans on.
-/
import Derived.Test.YtaadilcboiiopaaGreatQCh
import Derived.Test.YtaadilcboiiopaaGreatQCc
set_option maxRecDepth 100000
set_option maxHeartbeats 8000000
set_option linter.unusedVariables false
set_option linter.unusedSimpArgs false
namespace Go.Proofs
open Go.Sh Go.RowKit
section
theorem acE{α β:Type}{f:α→List β}{k:Nat}:∀{l:List α},(∀x∈l,(f x).length≤k)→(l.flatMap f).length≤k*l.length
 |[],_=>gzl _
 |x::l,h=>by
  have ih:=acE (l:=l) λy hy=>h y (List.mem_cons_of_mem _ hy)
  have:=h x List.mem_cons_self
  rw[List.flatMap_cons,gla,List.length_cons,Nat.mul_add]
  omega
noncomputable def exW(u:UnD)(g:GrD)(y:PlD):List PlD:=(pfxs (heldW u.ss g.tys y)).drop 1
def foE(n:Nat)(l:List PlD):List PlD:=l.foldl (λm p=>kp p m) (locsL n)
theorem ak8{n:Nat}{l:List PlD}{p:PlD}:foE n (l++[p])=kp p (foE n l):=by rw[foE,List.foldl_append];rfl
theorem aim:∀{l:List PlD}{p:PlD},(kp p l).length≤l.length+1
 |[],p=>Nat.le_refl _
 |q::l,p=>by
  have:=aim (l:=l) (p:=p)
  rw[kp]
  split
  ·rw[List.length_cons,List.length_cons];omega
  ·split
   ·omega
   ·rw[List.length_cons];omega
theorem alP{n:Nat}:∀{l:List PlD},(foE n l).length≤n+l.length:=fun {l}=>by
 rw[foE]
 have h0:∀(l m:List PlD),(l.foldl (λm p=>kp p m) m).length≤m.length+l.length:=λl=>by
  induction l with
  |nil=>intro m;exact Nat.le_refl _
  |cons p l ih=>
   intro m
   have h1:=ih (kp p m)
   have h2:=aim (l:=m) (p:=p)
   rw[List.foldl_cons,List.length_cons]
   omega
 have:=h0 l (locsL n)
 have h1:(locsL n).length=n:=by simp[locsL]
 omega
theorem ak9{n:Nat}:ZD (locsL n):=by
 refine List.pairwise_map.2 (List.pairwise_lt_range.imp fun {a b} h=>?_)
 show zJ ⟨(a:Int),[]⟩ ⟨(b:Int),[]⟩<0
 rw[zJ,if_neg (by show¬(a:Int)=(b:Int);omega)]
 exact jL.2 (by show(a:Int)<(b:Int);omega)
section
variable {u:UnD} {fn q:Int} {g:GrD} {p:PlD} {c:List Value} {v:Value} {w:World} {r:Gh} {K:Value→World→Prop}
theorem FnM.plsS(F:FnM u fn g){p:PtD}(hp:p∈g.pts):∀x∈zK p,OkS u g x:=λx hx=>by
 rw[zK,List.mem_append,List.mem_append]at hx
 rcases hx with hx|hx|hx
 ·obtain⟨o,ho,rfl⟩:=List.mem_map.1 hx
  rw[OkS,← xj F.may.ok F.fine];exact F.oper hp ho
 ·split at hx
  ·rename_i ho
   rw[List.mem_singleton.1 hx,OkS,← xj F.may.ok F.fine];exact acp (F.pts p hp) (by omega)
  ·cases hx
 ·split at hx
  ·rename_i ho
   rw[gba,gdt,gdt]at ho
   rw[List.mem_singleton.1 hx,OkS,← xj F.may.ok F.fine];exact JW (F.pts p hp) ho
  ·cases hx
theorem alQ(F:FnM u fn g):foE g.tys.length ((g.pts.flatMap zK).flatMap (exW u g))=zq u g:=by
 obtain⟨a1,a2⟩:=Va (l:=(g.pts.flatMap zK).flatMap (exW u g)) (m:=locsL g.tys.length) ak9
 refine aeu a1 aey λx=>?_
 rw[show (x∈foE g.tys.length ((g.pts.flatMap zK).flatMap (exW u g)))↔_ from a2 x,alL,List.mem_flatMap]
 have hl:∀y∈locsL g.tys.length,heldW u.ss g.tys y=y∧pfxs y=[y]:=λy hy=>by
  obtain⟨i,_,rfl⟩:=List.mem_map.1 hy
  exact⟨YA rfl,rfl⟩
 constructor
 ·rintro(⟨y,hy,hx⟩|hx)
  ·exact⟨y,List.mem_append_right _ hy,List.mem_of_mem_drop hx⟩
  ·exact⟨x,List.mem_append_left _ hx,by rw[(hl x hx).1];exact ak2⟩
 ·rintro⟨y,hy,hx⟩
  rcases List.mem_append.1 hy with hy|hy
  ·rw[(hl y hy).1,(hl y hy).2,List.mem_singleton]at hx
   exact .inr (hx▸hy)
  ·obtain⟨pt,hpt,hy2⟩:=List.mem_flatMap.1 hy
   obtain⟨h0,h1⟩:=J6 (F.plsS hpt y hy2)
   have e:pfxs (heldW u.ss g.tys y)=QT (heldW u.ss g.tys y) 0::(pfxs (heldW u.ss g.tys y)).drop 1:=by
    rw[pfxs,List.range_succ_eq_map,List.map_cons,List.drop_succ_cons,List.drop_zero]
   rw[e]at hx
   rcases List.mem_cons.1 hx with hx|hx
   ·right
    refine List.mem_map.2 ⟨y.l.toNat,List.mem_range.2 h1,?_⟩
    rw[hx,QT,Z5,List.take_zero]
    congr 1
    omega
   ·exact .inl ⟨y,hy,hx⟩
theorem aka(hr:Holds r w)(hu:UnG r v u)(F:FnM u fn g)(h:∀v s w',Ext w w'→New w s w'→SlG 2 (r.or s) (PlG (r.or s)) v (zq u g)→K v w'):zd Tryz.prog Tryz.QE #[v,.int .i64 fn] w K:=by
 refine Tryz.ag2 ?_
 unfold Tryz.abI
 have hu0:=hu
 obtain⟨p0,cap0,vf,rfl,_,_,hst,hsl,hfn⟩:=hu
 obtain⟨hltf,hge⟩:=List.getElem?_eq_some_iff.1 F.at'
 obtain⟨qf,capf,rfl,_,_⟩:=hfn.sl.shape
 obtain⟨bf,of,cf,hqE,hcf,hgc,hfo⟩:=hfn.sl.get (by decide) hltf
 cases hqE
 rw[hge]at hgc
 obtain⟨x1,x2,x3,x4,y1,y2,y3,y4,rfl,hg0⟩:=Xi hgc
 obtain⟨_,_,_,_,hEE,m1,m2,m3,m4⟩:=id hg0
 cases hEE
 have hf0:=F.fn0
 have hfl:u.fs.length≤9223372036854775807:=hfn.few
 have ht512:=F.head.ty512
 have hp1024:=F.head.pt1024
 rw[← alQ F]at h
 have S:=St.start hr
 refine S.box λb2 w1 S=>?_
 have S:StX noX w r w1 [.cell b2 [.slice p0 u.ss.length cap0,.slice (some ⟨bf,of,none⟩) u.fs.length capf,.int .i64 u.mn] 25]:=S
 refine gg_ ?_
 refine zp (n:=7) hcf (λj v hj=>by simpa using S.at (hfo j v hj)) ?_
 refine S.al λb5 w2 S=>?_
 refine S.stB (b:=b5) λw3 S=>?_
 have S:StX noX w r w3 [.cell b5 (grL g x1 x2 x3 x4 y1 y2 y3 y4) 74,.cell b2 [.slice p0 u.ss.length cap0,.slice (some ⟨bf,of,none⟩) u.fs.length capf,.int .i64 u.mn] 25]:=S
 have S:=S.ownNil 59 2
 refine zh (ι:=Value×Nat) (λi=>[i.1,.int .i64 (i.2:Nat)]) (λi w'=>i.2≤g.tys.length∧∃xs,RowOf 2 (PlG r) xs (locsL i.2)∧StX noX w r w' [.row i.1 59 2 i.2 xs,.cell b5 (grL g x1 x2 x3 x4 y1 y2 y3 y4) 74,.cell b2 [.slice p0 u.ss.length cap0,.slice (some ⟨bf,of,none⟩) u.fs.length capf,.int .i64 u.mn] 25]) (λi=>g.tys.length-i.2) (.slice none 0 0,0) rfl ⟨gzl _,[],RowOf.nil,S⟩ ?_
 clear S
 rintro⟨v,i⟩ d7 w7 ⟨hi,xs,hx,S⟩ K4 hK4
 simp only at hi hx S⊢
 simp only[gdz,gds]
 refine gg_ ?_
 refine zf (λhlt=>?_) (λhge1=>?_)
 ·have hlt:i<g.tys.length:=by omega
  refine zy (cs:=#[.int .i64 (i:Nat),.slice none 0 0]) (by kernel_rfl) ?_
  refine S.lit (e:=59) (cs:=[.int .i64 (i:Nat),.slice none 0 0]) (by kernel_rfl) λb4 w4 S=>?_
  refine S.ap (v:=v) (m':=1) (Sl.blk (S.blk b4)) (λv2 w5 S=>?_) (by omega)
  have S:=S.drop b4
  refine gp_ ?_
  rw[show ((i:Int)+1)=((i+1:Nat):Int)by omega]
  refine hK4 (v2,i+1) _ ⟨hlt,_,?_,S⟩ (by show g.tys.length-(i+1)<g.tys.length-i;omega)
  have e:locsL (i+1)=locsL i++[⟨(i:Int),[]⟩]:=by rw[locsL,List.range_succ,List.map_append];rfl
  rw[e]
  exact hx.snoc rfl ⟨_,rfl,jI⟩
 obtain rfl:i=g.tys.length:=by omega
 clear hK4
 obtain⟨s5,S,h5,_,a5⟩:=S.doneRow hx (by decide) (by simp[locsL])
 have h5:SlG 2 (r.or s5) (PlG (r.or s5)) v (locsL g.tys.length):=h5.up' inferInstance λ_ _ h=>PlG.up h
 have a5:Above w s5:=λb o ho=>(a5 b o ho).resolve_right id
 refine zh (ι:=Value×Nat) (λi=>[i.1,.int .i64 (i.2:Nat)]) (λi w'=>i.2≤g.pts.length∧∃s,Above w s∧SlG 2 (r.or s) (PlG (r.or s)) i.1 (foE g.tys.length (((g.pts.take i.2).flatMap zK).flatMap (exW u g)))∧StX noX w (r.or s) w' [.cell b5 (grL g x1 x2 x3 x4 y1 y2 y3 y4) 74,.cell b2 [.slice p0 u.ss.length cap0,.slice (some ⟨bf,of,none⟩) u.fs.length capf,.int .i64 u.mn] 25]) (λi=>g.pts.length-i.2) (v,0) rfl ⟨gzl _,s5,a5,h5,S⟩ ?_
 clear S hx h5 a5
 rintro⟨v,q⟩ d13 w13 ⟨hq,s,ha,hl,S⟩ K10 hK10
 simp only at hq hl S⊢
 simp only[gdz,gds]
 refine gg_ ?_
 refine zf (λhlt=>?_) (λhge2=>?_)
 rotate_left
 ·obtain rfl:q=g.pts.length:=by omega
  rw[List.take_length]at hl
  exact h v s _ S.ext (S.newOf ha) hl
 clear h
 have hlt:q<g.pts.length:=by omega
 obtain⟨bq,oq,cq,hqE2,hcq,hpc,hpo⟩:=m4.sl.get (by decide) hlt
 cases hqE2
 have hpm:=gem hlt
 have hargs:=jw F.may (F.pts _ hpm)
 replace hK10:=λ(v:Value) (w':World)=>hK10 (v,q+1) w'
 simp only at hK10
 rw[List.take_succ_eq_append_getElem hlt]at hK10
 have hpre:((g.pts.take q).flatMap zK).length≤1004*q:=by
  have h1:=acE (f:=zK) (k:=1004) (l:=g.pts.take q) λx hx=>aa3 (jw F.may (F.pts x (List.mem_of_mem_take hx)))
  rw[List.length_take,Nat.min_eq_left (by omega)]at h1
  exact h1
 have hpl:=aa3 hargs
 have hoS:=F.plsS hpm
 generalize g.pts[q]=p at *
 refine gg_ ?_
 refine zp (n:=21) hcq (λj v hj=>by simpa using S.at (hpo j v hj)) ?_
 refine ahr S.holds (PtG.up hpc) hargs λv3 s3 w14 e3 n3 h3=>?_
 obtain⟨S,_,a3⟩:=S.tell e3 n3
 have S:=S.reGh
 have h3:SlG 2 (r.or (s.or s3)) (PlG (r.or (s.or s3))) v3 (zK p):=h3.up' inferInstance λ_ _ h=>PlG.up h
 have hl:SlG 2 (r.or (s.or s3)) (PlG (r.or (s.or s3))) v (foE g.tys.length (((g.pts.take q).flatMap zK).flatMap (exW u g))):=hl.up' inferInstance λ_ _ h=>PlG.up h
 have ha:=ha.or' a3
 clear a3 n3
 replace hK10:∀v t w',Above w t→SlG 2 ((r.or (s.or s3)).or t) (PlG ((r.or (s.or s3)).or t)) v (foE g.tys.length (((g.pts.take q).flatMap zK++zK p).flatMap (exW u g)))→StX noX w ((r.or (s.or s3)).or t) w' [.cell b5 (grL g x1 x2 x3 (some ⟨bq,oq,none⟩) y1 y2 y3 y4) 74,.cell b2 [.slice p0 u.ss.length cap0,.slice (some ⟨bf,of,none⟩) u.fs.length capf,.int .i64 u.mn] 25]→K10 [v,.int .i64 ((q+1:Nat):Int)] w':=λv t w' at' hl S=>hK10 v w' ⟨hlt,(s.or s3).or t,ha.or' at',by
   rw[List.flatMap_append,List.flatMap_singleton];exact hl.up' inferInstance λ_ _ h=>PlG.up h,S.reGh⟩ (by show g.pts.length-(q+1)<g.pts.length-q;omega)
 have hhu:UnG (r.or (s.or s3)) (.agg #[.slice p0 u.ss.length cap0,.slice (some ⟨bf,of,none⟩) u.fs.length capf,.int .i64 u.mn]) u:=UnG.up hu0
 generalize r.or (s.or s3)=ρ at *
 obtain⟨q3,c3,rfl,_,_⟩:=h3.shape
 have S:=S.less (q:=ρ.or nothing) (λb o h=>Or.elim h id λh=>h.elim) (List.Sublist.refl _)
 refine zh (ι:=Value×Nat) (λi=>[i.1,.int .i64 (i.2:Nat)]) (λi w'=>i.2≤(zK p).length∧∃t,Above w t∧SlG 2 (ρ.or t) (PlG (ρ.or t)) i.1 (foE g.tys.length (((g.pts.take q).flatMap zK++(zK p).take i.2).flatMap (exW u g)))∧StX noX w (ρ.or t) w' [.cell b5 (grL g x1 x2 x3 (some ⟨bq,oq,none⟩) y1 y2 y3 y4) 74,.cell b2 [.slice p0 u.ss.length cap0,.slice (some ⟨bf,of,none⟩) u.fs.length capf,.int .i64 u.mn] 25]) (λi=>(zK p).length-i.2) (v,0) rfl ⟨gzl _,nothing,Above.no,by rw[List.take_zero,List.append_nil];exact hl.up' inferInstance λ_ _ h=>PlG.up h,S⟩ ?_
 clear S hl ha
 rintro⟨v,i⟩ d18 w18 ⟨hi,t,ha,hl,S⟩ K15 hK15
 simp only at hi hl S⊢
 simp only[gdz,gds]
 refine gp_ ?_
 refine gp_ ?_
 refine zf (λhlt3=>?_) (λhge3=>?_)
 rotate_left
 ·obtain rfl:i=(zK p).length:=by omega
  rw[List.take_length]at hl
  refine gp_ ?_
  rw[show ((q:Int)+1)=((q+1:Nat):Int)by omega]
  exact hK10 _ t _ ha hl S
 clear hK10
 have hlt3:i<(zK p).length:=by omega
 obtain⟨by',oy,cy,hyE,hcy,hyc,hyo⟩:=h3.get (by decide) hlt3
 cases hyE
 have hok:=hoS _ (gem hlt3)
 replace hK15:=λ(v:Value) (w':World)=>hK15 (v,i+1) w'
 simp only at hK15
 rw[List.take_succ_eq_append_getElem hlt3,← List.append_assoc]at hK15
 generalize (zK p)[i]=y at *
 have hh8:=acz hok.ok
 have hyl:=Z5 (ss:=u.ss) (tys:=g.tys) (p:=y)
 replace hK15:∀v t2 w',Above w t2→SlG 2 ((ρ.or t).or t2) (PlG ((ρ.or t).or t2)) v (foE g.tys.length (((g.pts.take q).flatMap zK++(zK p).take i).flatMap (exW u g)++exW u g y))→StX noX w ((ρ.or t).or t2) w' [.cell b5 (grL g x1 x2 x3 (some ⟨bq,oq,none⟩) y1 y2 y3 y4) 74,.cell b2 [.slice p0 u.ss.length cap0,.slice (some ⟨bf,of,none⟩) u.fs.length capf,.int .i64 u.mn] 25]→K15 [v,.int .i64 ((i+1:Nat):Int)] w':=λv t2 w' at' hl S=>hK15 v w' ⟨hlt3,t.or t2,ha.or' at',by
   rw[List.flatMap_append,List.flatMap_singleton];exact hl.up' inferInstance λ_ _ h=>PlG.up h,S.reGh⟩ (by show(zK p).length-(i+1)<(zK p).length-i;omega)
 have hfew:(((g.pts.take q).flatMap zK++(zK p).take i).flatMap (exW u g)).length≤9000000:=by
  have h1:=acE (f:=exW u g) (k:=8) (l:=(g.pts.take q).flatMap zK++(zK p).take i) λx hx=>by
   have h2:OkP u g x:=by
    rcases List.mem_append.1 hx with hx|hx
    ·obtain⟨p2,hp2,hx⟩:=List.mem_flatMap.1 hx
     exact F.pls (List.mem_of_mem_take hp2) x hx
    ·exact(hoS x (List.mem_of_mem_take hx)).ok
   have:=acz h2
   rw[exW,List.length_drop,Z4];omega
  rw[gla,List.length_take]at h1
  omega
 have hyw:exW u g y=(pfxs (heldW u.ss g.tys y)).drop 1:=rfl
 generalize ((g.pts.take q).flatMap zK++(zK p).take i).flatMap (exW u g)=E at *
 have hhu:UnG (ρ.or t) (.agg #[.slice p0 u.ss.length cap0,.slice (some ⟨bf,of,none⟩) u.fs.length capf,.int .i64 u.mn]) u:=UnG.up hhu
 have hyc:PlG (ρ.or t) cy y:=PlG.up hyc
 refine zn (λz w'=>∃bh v4 t2,z=[.pointer (some ⟨bh,0,none⟩)]∧Above w t2∧SlB 1 ((ρ.or t).or t2) yE v4 (heldW u.ss g.tys y).ps∧StX noX w ((ρ.or t).or t2) w' [.cell bh [.int .i64 y.l,v4] 59,.cell b5 (grL g x1 x2 x3 (some ⟨bq,oq,none⟩) y1 y2 y3 y4) 74,.cell b2 [.slice p0 u.ss.length cap0,.slice (some ⟨bf,of,none⟩) u.fs.length capf,.int .i64 u.mn] 25]) (λK19 hK19=>?_) ?_
 ·have S:=S.go (Ext.drew _)
  refine S.ldB (b:=b2) ?_
  refine gp_ ?_
  refine zp (n:=2) hcy (λj v hj=>by simpa using S.at (hyo j v hj)) ?_
  refine⟨?_,?_⟩
  ·refine ZE S.holds hhu F hyc hok λv1 s1 w5 e1 n1 h1=>?_
   obtain⟨S,_,a1⟩:=S.tell e1 n1
   obtain⟨q1,c1,rfl,_,_⟩:=h1.sl.shape
   refine gp_ ?_
   refine gp_ ?_
   refine S.alU λbh w6 S=>?_
   refine S.stB (b:=bh) λw8 S=>?_
   exact hK19 _ _ ⟨bh,_,s1,rfl,a1,h1.up' inferInstance λ_ _ h=>h,S⟩
  ·refine S.alU λbh w6 S=>?_
   refine ZE S.holds hhu F hyc hok λv1 s1 w5 e1 n1 h1=>?_
   obtain⟨S,_,a1⟩:=S.tell e1 n1
   obtain⟨q1,c1,rfl,_,_⟩:=h1.sl.shape
   refine gp_ ?_
   refine gp_ ?_
   refine S.stB (b:=bh) λw8 S=>?_
   exact hK19 _ _ ⟨bh,_,s1,rfl,a1,h1.up' inferInstance λ_ _ h=>h,S⟩
 clear S
 rintro _ w22 ⟨bh,v4,t2,rfl,at2,h4,S⟩ d22
 simp only[gdz]
 refine S.ldB (b:=bh) ?_
 refine aeG S.holds (p:=heldW u.ss g.tys y) ⟨v4,by rw[hyl],h4⟩ (by omega) λv6 s6 w33 e6 n6 h6=>?_
 obtain⟨S,_,a6⟩:=S.tell e6 n6
 have S:=S.drop bh
 have S:=S.reGh
 have h6:SlG 2 ((ρ.or t).or (t2.or s6)) (PlG ((ρ.or t).or (t2.or s6))) v6 (pfxs (heldW u.ss g.tys y)):=h6.up' inferInstance λ_ _ h=>PlG.up h
 have hl:SlG 2 ((ρ.or t).or (t2.or s6)) (PlG ((ρ.or t).or (t2.or s6))) v (foE g.tys.length E):=hl.up' inferInstance λ_ _ h=>PlG.up h
 have at3:=at2.or' a6
 replace hK15:∀v t3 w',Above w t3→SlG 2 (((ρ.or t).or (t2.or s6)).or t3) (PlG (((ρ.or t).or (t2.or s6)).or t3)) v (foE g.tys.length (E++exW u g y))→StX noX w (((ρ.or t).or (t2.or s6)).or t3) w' [.cell b5 (grL g x1 x2 x3 (some ⟨bq,oq,none⟩) y1 y2 y3 y4) 74,.cell b2 [.slice p0 u.ss.length cap0,.slice (some ⟨bf,of,none⟩) u.fs.length capf,.int .i64 u.mn] 25]→K15 [v,.int .i64 ((i+1:Nat):Int)] w':=λv t3 w' at' hl S=>hK15 v ((t2.or s6).or t3) w' (at3.or' at') (hl.up' inferInstance λ_ _ h=>PlG.up h) S.reGh
 have hpf:=Z4 (p:=heldW u.ss g.tys y)
 rw[hyw]at hK15
 clear hyw hyl
 generalize pfxs (heldW u.ss g.tys y)=l at *
 generalize (ρ.or t).or (t2.or s6)=κ at *
 obtain⟨q6,c6,rfl,_,_⟩:=h6.shape
 have S:=S.less (q:=κ.or nothing) (λb o h=>Or.elim h id λh=>h.elim) (List.Sublist.refl _)
 refine zh (ι:=Value×Nat) (λi=>[i.1,.int .i64 (i.2:Nat)]) (λi w'=>1≤i.2∧i.2≤l.length∧∃t,Above w t∧SlG 2 (κ.or t) (PlG (κ.or t)) i.1 (foE g.tys.length (E++(l.take i.2).drop 1))∧StX noX w (κ.or t) w' [.cell b5 (grL g x1 x2 x3 (some ⟨bq,oq,none⟩) y1 y2 y3 y4) 74,.cell b2 [.slice p0 u.ss.length cap0,.slice (some ⟨bf,of,none⟩) u.fs.length capf,.int .i64 u.mn] 25]) (λi=>l.length-i.2) (v,1) rfl ⟨Nat.le_refl _,by show 1≤l.length;omega,nothing,Above.no,by
  rw[show (l.take 1).drop 1=[]from List.drop_eq_nil_of_le (by rw[List.length_take];omega),List.append_nil];exact hl.up' inferInstance λ_ _ h=>PlG.up h,S⟩ ?_
 clear S hl
 rintro⟨v,j⟩ d37 w37 ⟨hj1,hj,t5,a5,hl,S⟩ K34 hK34
 simp only at hj1 hj hl S⊢
 simp only[gdz,gds]
 refine gp_ ?_
 refine gp_ ?_
 refine zf (λhlt4=>?_) (λhge4=>?_)
 ·have hlt4:j<l.length:=by omega
  obtain⟨bj,oj,cj,hjE,hcj,hjc,hjo⟩:=h6.get (by decide) hlt4
  cases hjE
  refine gp_ ?_
  refine zp (n:=2) hcj (λj v hj=>by simpa using S.at (hjo j v hj)) ?_
  have hff:=alP (n:=g.tys.length) (l:=E++(l.take j).drop 1)
  rw[gla,List.length_drop,List.length_take]at hff
  refine aj9 S.holds hl (PlG.up hjc) (by omega) λv7 s7 w38 e7 n7 h7=>?_
  obtain⟨S,_,a7⟩:=S.tell e7 n7
  refine gp_ ?_
  rw[show ((j:Int)+1)=((j+1:Nat):Int)by omega]
  refine hK34 (v7,j+1) _ ⟨by show 1≤j+1;omega,hlt4,t5.or s7,a5.or' a7,?_,S.reGh⟩ (by show l.length-(j+1)<l.length-j;omega)
  rw[List.take_succ_eq_append_getElem hlt4,List.drop_append_of_le_length (by rw[List.length_take];omega),← List.append_assoc,ak8]
  exact h7.up' inferInstance λ_ _ h=>PlG.up h
 ·obtain rfl:j=l.length:=by omega
  rw[List.take_length]at hl
  refine gp_ ?_
  rw[show ((i:Int)+1)=((i+1:Nat):Int)by omega]
  exact hK15 _ t5 _ a5 hl S
theorem ahs(hr:Holds r w)(hu:UnG r v u)
  (h0:∀e w',e≠0→ofE u fn q=e→Ext w w'→K (.tuple #[.slice none 0 0,.int .i64 e]) w')
  (h1:∀g v1 s w',ofE u fn q=0→FnM u fn g→(zq u g).length≤256→Ext w w'→New w s w'→SlG 2 (r.or s) (PlG (r.or s)) v1 (zq u g)→K (.tuple #[v1,.int .i64 0]) w'):
  zd Tryz.prog Tryz.JJ #[v,.int .i64 fn,.int .i64 q] w K:=by
 refine Tryz.ahK ?_
 unfold Tryz.adz
 have hu0:=hu
 obtain⟨p0,cap0,vf,rfl,_,_,hst,hsl,hfn⟩:=hu
 obtain⟨qf,capf,rfl,_,_⟩:=hfn.sl.shape
 have S:=St.start hr
 refine S.box λb3 w1 S=>?_
 have S:StX noX w r w1 [.cell b3 [.slice p0 u.ss.length cap0,.slice qf u.fs.length capf,.int .i64 u.mn] 25]:=S
 refine S.ldB (b:=b3) ?_ rfl
 refine aiP S.holds hu0 λw2 e2=>?_
 have S:=S.go e2
 cases hi:isU u fn q with
 |false=>
  refine gp_ ?_
  refine c_t rfl ?_
  exact h0 2 _ (by decide) (by rw[ofE,hi,if_pos rfl]) S.ext
 |true=>
  refine gp_ ?_
  refine c_f rfl ?_
  obtain⟨_,_,hlt,_,_⟩:=JV hi
  have hgg:u.fs[fn.toNat]? = some u.fs[fn.toNat]:=gqg hlt
  have F:=fnM hi hgg
  have hofe:ofE u fn q=if 256<(zq u u.fs[fn.toNat]).length then 5 else 0:=by rw[ofE,hi,if_neg (by decide),hgg]
  generalize u.fs[fn.toNat]=g at *
  refine S.ldB (b:=b3) ?_ rfl
  refine aka S.holds hu0 F λv1 s1 w3 e3 n3 h3=>?_
  obtain⟨S,_,a3⟩:=S.tell e3 n3
  obtain⟨q3,c3,rfl,_,_⟩:=h3.shape
  refine gp_ ?_
  refine gp_ ?_
  refine zf (λhlt=>?_) (λhge=>?_)
  ·have hlt:256<(zq u g).length:=by omega
   exact h0 5 _ (by decide) (by rw[hofe,if_pos hlt]) S.ext
  ·have hge:¬256<(zq u g).length:=by omega
   exact h1 g _ s1 _ (by rw[hofe,if_neg hge]) F (by omega) S.ext (S.newOf a3) h3
end
theorem ala{ρ:Gh}{q1:Option Addr}{c1 n:Nat}{ps:List Int}(h:SlG 1 ρ zQ (.slice q1 ps.length c1) ps)(hn:n≤ps.length):SlG 1 ρ zQ (.slice q1 n c1) (ps.take n):=by
 obtain⟨p',cap',hE,h2,h3,h4⟩:=h
 cases hE
 have hl:(ps.take n).length=n:=by rw[List.length_take];omega
 refine⟨q1,c1,by rw[hl],h2,by omega,λi hi=>?_⟩
 obtain⟨c,k1,k2,k3⟩:=h4 i (by omega)
 exact⟨c,k1,k2,by rw[List.getElem_take];exact k3⟩
theorem ai5{n:Nat}{f:Nat→Bool}:∃a:Int,(kq n f).getD (-1)=a∧(kq n f).getD 0=max a 0∧(kq n f).isSome=decide (a≥0):=by
 cases h:kq n f with
 |none=>exact ⟨-1,rfl,rfl,rfl⟩
 |some x=>
  have hx:x∈risI n f:=List.mem_of_mem_head? (by rw[kq]at h;rw[h];rfl)
  obtain⟨i,rfl,_,_⟩:=JB.1 hx
  refine⟨(i:Int),rfl,?_,?_⟩
  ·show(i:Int)=max (i:Int) 0
   omega
  ·exact(gde (by omega)).symm
theorem abS{l:List Int}{ql qo:Option Addr}{cl co:Nat}{w0 w:World}{r:Gh}{L:List Asr}{Kf Z:World→Prop}(S:StX noX w0 r w L)(hl:SlG 1 r zQ (.slice ql l.length cl) l)(ho:SlG 1 r zQ (.slice qo (l++[77]).length co) (l++[77]))(hf:l.length≤1000000)(hZ:∀w',StX noX w0 r w' L→Z w'):
  zo [Tryz.i6 0] w λs16 _ w18 K15=>Tryz.pp (Builtin.len_ #[26] 3 #[.slice ql l.length cl]) λt78=>Tryz.bf .lss 3 (s16.getD 0 u_) t78 λt79=>zc t79 (Tryz.xl w18.drew 26 (.slice qo (l++[77]).length co) (s16.getD 0 u_) 3 λt85=>Tryz.xl w18.drew 26 (.slice ql l.length cl) (s16.getD 0 u_) 3 λt89=>Tryz.bf .neq 3 t85 t89 λt90=>zc t90 (Kf w18.drew) (Tryz.bt .add 3 (s16.getD 0 u_) (Tryz.i6 1) λt81=>K15 [t81] w18.drew)) (Tryz.pp (Builtin.len_ #[26] 3 #[.slice ql l.length cl]) λt93=>Tryz.xl w18 26 (.slice qo (l++[77]).length co) t93 3 λt95=>Tryz.bt .neq 3 t95 (Tryz.i6 77) λt96=>zc t96 (Kf w18) (Z w18)):=by
 have hol:(l++[77]).length=l.length+1:=by simp
 refine zh (ι:=Nat) (λi=>[.int .i64 (i:Nat)]) (λi w'=>i≤l.length∧StX noX w0 r w' L) (λi=>l.length-i) 0 rfl ⟨gzl _,S⟩ ?_
 clear S
 rintro i d w5 ⟨hi,S⟩ K2 hK2
 rw[gdz]
 refine gp_ ?_
 refine gp_ ?_
 refine zf (λhlt=>?_) (λhge=>?_)
 ·have hlt:i<l.length:=by omega
  obtain⟨bo,oo,hE,_,hc⟩:=xz ho (i:=i) (by omega)
  cases hE
  obtain⟨bl,ol,hE,_,hcl⟩:=xz hl hlt
  cases hE
  have S:=S.go (Ext.drew _)
  have hg:(l++[(77:Int)])[i]=l[i]:=List.getElem_append_left hlt
  rw[hg]at hc
  refine gp_ ?_
  refine zg (v:=.int .i64 l[i]) (S.at hc) ?_
  refine gp_ ?_
  refine zg (v:=.int .i64 l[i]) (S.at hcl) ?_
  refine gp_ ?_
  refine c_f (by simp) ?_
  refine gp_ ?_
  rw[show ((i:Int)+1)=((i+1:Nat):Int)by omega]
  exact hK2 (i+1) _ ⟨hlt,S⟩ (by omega)
 ·obtain rfl:i=l.length:=by omega
  obtain⟨bo,oo,hE,_,hc⟩:=xz ho (i:=l.length) (by omega)
  cases hE
  have hg:(l++[(77:Int)])[l.length]=77:=by simp
  rw[hg]at hc
  refine gp_ ?_
  refine gp_ ?_
  refine zg (v:=.int .i64 77) (S.at hc) ?_
  refine gp_ ?_
  refine c_f (by simp) ?_
  exact hZ _ S
theorem acF{u:UnD}{fn q:Int}{l:List Int}{v vl:Value}{w:World}{r:Gh}{K:Value→World→Prop}(hr:Holds r w)(hu:UnG r v u)(hl:SlG 1 r zQ vl l)(h:∀w',Ext w w'→K (.bool true) w'):zd Tryz.prog Tryz.Xz #[v,.int .i64 fn,.int .i64 q,vl] w K:=by
 refine Tryz.abk ?_
 unfold Tryz.XZ
 have hu0:=hu
 obtain⟨p0,cap0,vf,rfl,_,_,hst,hsl,hfn⟩:=hu
 obtain⟨qf,capf,rfl,_,_⟩:=hfn.sl.shape
 obtain⟨ql,cl,rfl,hnil,hcl⟩:=hl.shape
 have S:=St.start hr
 refine S.box λb4 w1 S=>?_
 have S:StX noX w r w1 [.cell b4 [.slice p0 u.ss.length cap0,.slice qf u.fs.length capf,.int .i64 u.mn] 25]:=S
 have awk:∀{r':Gh}{w':World}{L:List Asr},StX noX w r' w' L→zd Tryz.prog Tryz.xO #[] w' λt w''=>K t w'':=λS=>qO S.holds λw'' e=>h _ (S.go e).ext
 refine S.ldB (b:=b4) ?_ rfl
 refine ahm S.holds hu0 λy w2 e2=>?_
 have S:=S.go e2
 refine gp_ ?_
 refine zj (c:=decide ((l.length:Int)>600)) (λ_ K2 hK2=>by refine gg_ ?_;exact hK2) ?_
 refine c_b (λhy=>?_) (λhy=>?_)
 ·exact awk S
 simp only[Bool.or_eq_false_iff,decide_eq_false_iff_not]at hy
 have hlf:l.length≤600:=by omega
 clear hy
 have S:=S.ownNil 3 1
 obtain⟨xs,hxr,hxs⟩:=vU (by decide) hl
 refine S.ap (v:=.slice none 0 0) (S.at hxs) (λv1 w8 S=>?_) (by omega) (by rw[hxr.1]) hnil (xU hxr (by decide) λc x hx=>by rw[show c=[.int .i64 x]from hx];simp[Value.oneCell'])
 rw[Nat.zero_add,List.nil_append]at S
 refine S.lit (e:=3) (cs:=[.int .i64 77]) (by kernel_rfl) λb9 w9 S=>?_
 refine S.ap (v:=v1) (m':=1) (Sl.blk (S.blk b9)) (λv2 w10 S=>?_) (by omega)
 have S:=S.drop b9
 obtain⟨s1,T,ho,_,a1⟩:=S.doneRow (l:=l++[77]) (aaG hxr (kJ (x:=(77:Int)) rfl rfl)) (by decide) (by simp)
 obtain⟨qo,co,rfl,_,hco⟩:=ho.shape
 repeat clear S
 have S:=T
 clear T
 have ho:SlG 1 (r.or s1) zQ _ (l++[77]):=ho.up' inferInstance λ_ _ h=>h
 have hl:SlG 1 (r.or s1) zQ (.slice ql l.length cl) l:=hl.up' inferInstance λ_ _ h=>h
 have hu:UnG (r.or s1) (.agg #[.slice p0 u.ss.length cap0,.slice qf u.fs.length capf,.int .i64 u.mn]) u:=UnG.up hu0
 generalize r.or s1=ρ at S ho hl hu
 have hol:(l++[(77:Int)]).length=l.length+1:=by simp
 have hcut:SlG 1 ρ zQ (.slice qo l.length co) l:=by
  have:=ala ho (n:=l.length) (by omega)
  rwa[List.take_left]at this
 refine S.ldB (b:=b4) ?_ rfl
 refine abN S.holds hu (λe w4 he hE e4=>?_) λg v5 v6 s4 w4 hof F hq0 hq hb e4 n4 hG hH=>?_
 ·have S:=S.go e4
  have bad0:∀{P:Prop},mvE u fn q=0→P:=λhh=>absurd (hE.symm.trans hh) he
  refine gp_ ?_
  refine gp_ ?_
  refine gp_ ?_
  refine S.ldB (b:=b4) ?_ rfl
  refine QX S.holds hu (λe5 w5 _ hE5 x5=>?_) λ_ _ _ _ hof=>bad0 hof
  obtain rfl:e=e5:=hE.symm.trans hE5
  have S:=S.go x5
  refine gp_ ?_
  refine gp_ ?_
  refine S.ldB (b:=b4) ?_ rfl
  refine XY S.holds hu (λe6 w6 _ hE6 x6=>?_) λ_ _ hof=>bad0 hof
  obtain rfl:e=e6:=hE.symm.trans hE6
  have S:=S.go x6
  refine gp_ ?_
  refine gp_ ?_
  refine gp_ ?_
  have S:=S.go (Ext.drew _)
  refine S.ldB (b:=b4) ?_ rfl
  refine gp_ ?_
  refine gp_ ?_
  rw[tnc]
  refine YU S.holds hu hcut (by omega) (λe7 w7 _ hE7 x7=>?_) (λ_ _ hof=>bad0 hof) λ_ _ _ _ hof=>bad0 hof
  obtain rfl:e=e7:=hE.symm.trans hE7
  have S:=S.go x7
  refine gp_ ?_
  refine gp_ ?_
  refine abS (Kf:=λw=>K (.bool false) w) S hl ho (by omega) λw8 S=>?_
  refine zn (λy w'=>y=[.int .i64 e,.slice none 0 0]∧StX noX w ρ w' [.cell b4 [.slice p0 u.ss.length cap0,.slice qf u.fs.length capf,.int .i64 u.mn] 25]) (λK19 hK19=>?_) ?_
  ·refine gp_ ?_
   refine zf (λhq=>?_) (λhq=>?_)
   ·refine S.ldB (b:=b4) ?_ rfl
    refine ahs S.holds hu (λe9 w9 _ hE9 x9=>?_) λ_ _ _ _ hof=>bad0 (by rw[mvE,if_neg (by omega)];exact hof)
    have S:=S.go x9
    obtain rfl:e=e9:=by rw[← hE,mvE,if_neg (by omega)];exact hE9
    refine gp_ ?_
    refine gp_ ?_
    exact hK19 _ _ ⟨rfl,S⟩
   ·obtain rfl:e=2:=by rw[← hE,mvE,if_pos (by omega)]
    exact hK19 _ _ ⟨rfl,S⟩
  clear S
  rintro _ w22 ⟨rfl,S⟩ d22
  simp only[gdz,gds]
  refine gp_ ?_
  refine zj (c:=false) (λ_ K2 hK2=>by refine gp_ ?_;simpa using hK2) ?_
  refine zj (c:=false) (λ_ K2 hK2=>by refine gp_ ?_;simpa using hK2) ?_
  refine c_f (by simp) ?_
  refine gp_ ?_
  refine c_t (by simp[he]) ?_
  refine gp_ ?_
  refine gp_ ?_
  refine zi (c:=true) (λ_ K2 hK2=>by refine gg_ ?_;simpa using hK2) ?_
  refine zi (c:=true) (λ_ K2 hK2=>by refine gg_ ?_;simpa using hK2) ?_
  refine zi (c:=true) (λ_ K2 hK2=>by refine gg_ ?_;simpa using hK2) ?_
  refine zi (c:=true) (λ_ K2 hK2=>by refine gg_ ?_;simpa using hK2) ?_
  refine zi (c:=true) (λ_ K2 hK2=>by refine gg_ ?_;simpa using hK2) ?_
  refine zi (c:=true) (λ_ K2 hK2=>by refine gg_ ?_;simpa using hK2) ?_
  refine zt (c:=true) (λ_ K5 hK5=>qO S.holds λw9 e9=>hK5 w9 e9) λw9 e9=>?_
  simpa using h _ (S.go e9).ext
 obtain⟨S,_,a4⟩:=S.tell e4 n4
 have hFg:∀g',FnM u fn g'→g=g':=λg' F'=>Option.some.inj (F.at'.symm.trans F'.at')
 have hofe:=(amN hof).2
 have hpe:g.pts[q.toNat]=g.pts[q.toNat]:=rfl
 generalize hpe':g.pts[q.toNat]=p at *
 clear hpe
 obtain⟨q5,c5,rfl,_,_⟩:=hG.shape
 obtain⟨q6,c6,rfl,_,_⟩:=hH.shape
 refine gp_ ?_
 refine gp_ ?_
 refine gp_ ?_
 refine S.ldB (b:=b4) ?_ rfl
 refine QX S.holds (UnG.up hu) (λe5 _ he5 hE5 _=>absurd (hE5.symm.trans hof) he5) λg' v7 s5 w5 _ F' _ _ _ e5 n5 hU=>?_
 obtain rfl:=hFg g' F'
 rw[hpe']at hU
 obtain⟨S,_,a5⟩:=S.tell e5 n5
 obtain⟨q7,c7,rfl,_,_⟩:=hU.shape
 refine gp_ ?_
 refine gp_ ?_
 refine S.ldB (b:=b4) ?_ rfl
 refine XY S.holds (UnG.up (UnG.up (s:=ρ.or s4) hu)) (λe6 _ he6 hE6 _=>absurd (hE6.symm.trans hof) he6) λg' w6 _ F' _ _ _ e6=>?_
 obtain rfl:=hFg g' F'
 rw[hpe']
 have S:=S.go e6
 refine gp_ ?_
 refine gp_ ?_
 refine gp_ ?_
 have S:=S.go (Ext.drew _)
 refine S.ldB (b:=b4) ?_ rfl
 refine gp_ ?_
 refine gp_ ?_
 rw[tnc]
 refine aj4 S.holds (UnG.up (UnG.up (s:=ρ.or s4) hu)) (hcut.up' inferInstance λ_ _ h=>h) (by omega) hof F hq hpe' λv8 s8 w7 e7 n7 hB=>?_
 obtain⟨S,_,a8⟩:=S.tell e7 n7
 obtain⟨q8,c8,rfl,_,_⟩:=hB.shape
 refine gp_ ?_
 refine gp_ ?_
 have hu:UnG (((ρ.or s4).or s5).or s8) (.agg #[.slice p0 u.ss.length cap0,.slice qf u.fs.length capf,.int .i64 u.mn]) u:=UnG.up (UnG.up (s:=(ρ.or s4).or s5) (UnG.up (s:=ρ.or s4) hu))
 have hl:SlG 1 (((ρ.or s4).or s5).or s8) zQ (.slice ql l.length cl) l:=hl.up' inferInstance λ_ _ h=>h
 have ho:SlG 1 (((ρ.or s4).or s5).or s8) zQ (.slice qo (l++[77]).length co) (l++[77]):=ho.up' inferInstance λ_ _ h=>h
 have hG:SlG 1 (((ρ.or s4).or s5).or s8) zQ _ _:=hG.up' inferInstance λ_ _ h=>h
 have hH:SlG 1 (((ρ.or s4).or s5).or s8) zQ _ _:=hH.up' inferInstance λ_ _ h=>h
 have hU:SlG 1 (((ρ.or s4).or s5).or s8) zQ _ _:=hU.up' inferInstance λ_ _ h=>h
 have hB:SlG 1 (((ρ.or s4).or s5).or s8) zQ _ _:=hB.up' inferInstance λ_ _ h=>h
 generalize ((ρ.or s4).or s5).or s8=κ at S hu hl ho hG hH hU hB
 refine abS (Kf:=λw=>K (.bool false) w) S hl ho (by omega) λw8 S=>?_
 clear ho hcut e4 n4 a4 e5 n5 a5 e6 e7 n7 a8
 refine zn (λy w'=>∃vp s,y=[.int .i64 0,vp]∧SlG 2 (κ.or s) (PlG (κ.or s)) vp (zq u g)∧StX noX w (κ.or s) w' [.cell b4 [.slice p0 u.ss.length cap0,.slice qf u.fs.length capf,.int .i64 u.mn] 25]) (λK19 hK19=>?_) ?_
 ·refine gp_ ?_
  refine zf (λ_=>?_) (λhn=>absurd hq0 hn)
  refine S.ldB (b:=b4) ?_ rfl
  refine ahs S.holds hu (λe9 _ he9 hE9 _=>absurd (hE9.symm.trans hofe) he9) λg' v9 s9 w9 _ F' _ e9 n9 h9=>?_
  obtain rfl:=hFg g' F'
  obtain⟨S,_,_⟩:=S.tell e9 n9
  refine gp_ ?_
  refine gp_ ?_
  exact hK19 _ _ ⟨_,s9,rfl,h9,S⟩
 clear S
 rintro _ w22 ⟨vp,s9,rfl,hps,S⟩ d22
 simp only[gdz,gds]
 have hu:UnG (κ.or s9) (.agg #[.slice p0 u.ss.length cap0,.slice qf u.fs.length capf,.int .i64 u.mn]) u:=UnG.up hu
 have hl:SlG 1 (κ.or s9) zQ (.slice ql l.length cl) l:=hl.up' inferInstance λ_ _ h=>h
 have hG:SlG 1 (κ.or s9) zQ _ _:=hG.up' inferInstance λ_ _ h=>h
 have hH:SlG 1 (κ.or s9) zQ _ _:=hH.up' inferInstance λ_ _ h=>h
 have hU:SlG 1 (κ.or s9) zQ _ _:=hU.up' inferInstance λ_ _ h=>h
 have hB:SlG 1 (κ.or s9) zQ _ _:=hB.up' inferInstance λ_ _ h=>h
 generalize κ.or s9=π at S hu hl hG hH hU hB hps
 refine gp_ ?_
 refine zj (c:=false) (λ_ K2 hK2=>by refine gp_ ?_;simpa using hK2) ?_
 refine zj (c:=false) (λ_ K2 hK2=>by refine gp_ ?_;simpa using hK2) ?_
 refine c_f (by simp) ?_
 refine gp_ ?_
 refine c_f (by simp) ?_
 refine S.ldB (b:=b4) ?_ rfl
 refine adQ S.holds hu F hq0 hq hpe' hps hb λv11 v12 s11 w11 e11 n11 h11 h12=>?_
 obtain⟨S,_,_⟩:=S.tell e11 n11
 refine gp_ ?_
 refine gp_ ?_
 refine S.ldB (b:=b4) ?_ rfl
 refine ai4 S.holds (UnG.up hu) F hq0 hq hpe' (hps.up' inferInstance λ_ _ h=>PlG.up h) hb λv13 s13 w13 e13 n13 h13=>?_
 obtain⟨S,_,_⟩:=S.tell e13 n13
 refine gp_ ?_
 refine gp_ ?_
 have hu:UnG ((π.or s11).or s13) (.agg #[.slice p0 u.ss.length cap0,.slice qf u.fs.length capf,.int .i64 u.mn]) u:=UnG.up (UnG.up (s:=π.or s11) hu)
 have hl:SlG 1 ((π.or s11).or s13) zQ (.slice ql l.length cl) l:=hl.up' inferInstance λ_ _ h=>h
 have hG:SlG 1 ((π.or s11).or s13) zQ _ _:=hG.up' inferInstance λ_ _ h=>h
 have hH:SlG 1 ((π.or s11).or s13) zQ _ _:=hH.up' inferInstance λ_ _ h=>h
 have hU:SlG 1 ((π.or s11).or s13) zQ _ _:=hU.up' inferInstance λ_ _ h=>h
 have hB:SlG 1 ((π.or s11).or s13) zQ _ _:=hB.up' inferInstance λ_ _ h=>h
 have h11:SlG 1 ((π.or s11).or s13) jU _ _:=h11.up' inferInstance λ_ _ h=>h
 have h12:SlG 1 ((π.or s11).or s13) jU _ _:=h12.up' inferInstance λ_ _ h=>h
 have h13:SlG 1 ((π.or s11).or s13) jU _ _:=h13.up' inferInstance λ_ _ h=>h
 have hps:SlG 2 ((π.or s11).or s13) (PlG ((π.or s11).or s13)) vp (zq u g):=hps.up' inferInstance λ_ _ h=>PlG.up h
 generalize (π.or s11).or s13=σ at S hu hl hG hH hU hB hps h11 h12 h13
 have hml:∀f:Nat→Bool,((List.range (zq u g).length).map f).length≤1000000:=λf=>by rw[List.length_map,List.length_range];omega
 have hrl:∀f:Nat→Bool,(risI (zq u g).length f).length≤1000000:=λf=>by
  have:=aid (n:=(zq u g).length) (f:=f)
  omega
 refine ZF S.holds hG h11 (hml _) (hrl _) ?_
 rw[aa4,gde rfl]
 refine gp_ ?_
 refine zj (c:=false) (λ_ K2 hK2=>by
  refine ZF S.holds hH h12 (hml _) (hrl _) ?_
  rw[aa4,gde rfl]
  refine gp_ ?_
  exact hK2) ?_
 refine zj (c:=false) (λ_ K2 hK2=>by
  refine ZF S.holds hU h13 (hml _) (hrl _) ?_
  rw[aa4,gde rfl]
  refine gp_ ?_
  exact hK2) ?_
 obtain⟨a,ha,hn,his⟩:=ai5 (n:=(zq u g).length) (f:=(yq u g (zq u g) p).again)
 rw[ha,hn,his]
 refine zj (c:=false) (λ_ K2 hK2=>by
  refine gp_ ?_
  refine gp_ ?_
  simpa using hK2) ?_
 refine zj (c:=false) (λ_ K2 hK2=>by
  refine gp_ ?_
  refine gp_ ?_
  simpa using hK2) ?_
 refine c_f (by simp) ?_
 clear hG hH hU h11 h12 h13 ha hn his
 obtain⟨qp,cp,rfl,_,_⟩:=hps.shape
 refine gp_ ?_
 refine S.mkS (by omega) (by omega) λbm w14 S=>?_
 rw[tnc,jx]at S
 rw[tnc]
 have hbl:(bhL u g p l).length≤1000000:=by
  have:=alN (u:=u) (g:=g) (p:=p) (l:=l)
  omega
 refine zh (ι:=Nat) (λi=>[.int .i64 (i:Nat)]) (λi w'=>i≤l.length∧OkBh (zq u g).length (l.take i)∧StX noX w σ w' [.cell bm (mkB (zq u g).length (qH (l.take i))) 4,.cell b4 [.slice p0 u.ss.length cap0,.slice qf u.fs.length capf,.int .i64 u.mn] 25]) (λi=>l.length-i) 0 rfl ⟨gzl _,⟨λk hk=>(by simp at hk),by simp⟩,by rw[zD (g:=zB) λi _=>by simp[qH,zB]];exact S⟩ ?_
 clear S
 rintro i d w15 ⟨hi,hok,S⟩ K4 hK4
 rw[gdz]
 refine gp_ ?_
 refine gp_ ?_
 refine zf (λhlt=>?_) (λhge=>?_)
 ·have hlt:i<l.length:=by omega
  obtain⟨bo,oo,hE,_,hc⟩:=xz hl hlt
  cases hE
  have S:=S.go (Ext.drew _)
  refine gp_ ?_
  refine zg (v:=.int .i64 l[i]) (S.at hc) ?_
  refine gp_ ?_
  refine zj (c:=decide (l[i]≥((zq u g).length:Int))) (λ_ K2 hK2=>by
   refine gp_ ?_
   refine zg (v:=.int .i64 l[i]) (S.at hc) ?_
   refine gp_ ?_
   refine gp_ ?_
   exact hK2) ?_
  have bad:∀{w'},StX noX w σ w' [.cell bm (mkB (zq u g).length (qH (l.take i))) 4,.cell b4 [.slice p0 u.ss.length cap0,.slice qf u.fs.length capf,.int .i64 u.mn] 25]→¬((0≤l[i]∧l[i]<(zq u g).length)∧∀h0:0<i,l[i-1]<l[i])→bhL u g p l=[]∧bhE (zq u g).length l=2:=λS hn=>by
   have hno:¬OkBh (zq u g).length l:=λhh=>hn (hh.last hlt)
   exact⟨by rw[bhL,if_neg hno],by rw[bhE,if_neg hno]⟩
  have good:(0≤l[i]∧l[i]<(zq u g).length)→(∀h0:0<i,l[i-1]<l[i])→OkBh (zq u g).length (l.take (i+1))∧mkB (zq u g).length (xm (qH (l.take i)) l[i].toNat true)=mkB (zq u g).length (qH (l.take (i+1))):=λhr hasc=>by
   refine⟨hok.snoc hlt hr hasc,zD λj hj=>?_⟩
   obtain⟨k,hk⟩:∃k:Nat,l[i]=(k:Int):=⟨l[i].toNat,by omega⟩
   rw[xm,qH,qH,List.take_succ_eq_append_getElem hlt,hk,tnc]
   by_cases e:j=k
   ·rw[if_pos e,e];simp
   ·have e2:¬(j:Int)=(k:Int):=by omega
    rw[if_neg e];simp[e2]
  have fin:∀{w'},StX noX w σ w' [.cell bm (mkB (zq u g).length (qH (l.take i))) 4,.cell b4 [.slice p0 u.ss.length cap0,.slice qf u.fs.length capf,.int .i64 u.mn] 25]→(0≤l[i]∧l[i]<(zq u g).length)→(∀h0:0<i,l[i-1]<l[i])→Tryz.xl w' 26 (.slice (some ⟨bo,oo,none⟩) l.length cl) (.int .i64 (i:Nat)) 3 λt252=>Tryz.px 40 (.slice (some ⟨bm,0,none⟩) (zq u g).length (zq u g).length) t252 λt253=>Tryz.so w' 4 t253 Tryz.tr_ λw112=>Tryz.bt .add 3 (.int .i64 (i:Nat)) (Tryz.i6 1) λt207=>K4 [t207] w112:=λS hr hasc=>by
   obtain⟨g1,g2⟩:=good hr hasc
   obtain⟨hr1,hr2⟩:=hr
   refine gp_ ?_
   refine zg (v:=.int .i64 l[i]) (S.at hc) ?_
   refine gp_ ?_
   refine S.st (b:=bm) (λw9 S=>?_) (by rw[Z9];omega)
   have e:0+(l[i]).toNat=(l[i]).toNat:=by omega
   rw[e,Ya,g2]at S
   refine gp_ ?_
   rw[show ((i:Int)+1)=((i+1:Nat):Int)by omega]
   exact hK4 (i+1) _ ⟨hlt,g1,S⟩ (by omega)
  clear hK4 good
  cases hbd:(decide (l[i]<0)||decide (l[i]≥((zq u g).length:Int)))with
  |true=>
   (intro K9 hK9;refine gd_ ?_;refine hK9 _ _ λ_=>?_;clear hK9 K9)
   refine gd_ ?_
   (intro K9 hK9;refine gd_ ?_;refine hK9 _ _ λ_=>?_;clear hK9 K9)
   refine gd_ ?_
   (intro K9 hK9;refine gd_ ?_;refine hK9 _ _ λ_=>?_;clear hK9 K9)
   refine gd_ ?_
   refine c_t rfl ?_
   obtain⟨e1,e2⟩:=bad S λhh=>by
    simp only[Bool.or_eq_true,gdt]at hbd
    omega
   rw[e1,e2]
   refine gp_ ?_
   refine gp_ ?_
   refine zi (c:=true) (λ_ K2 hK2=>by refine gp_ ?_;simpa using hK2) ?_
   refine zt (c:=true) (λ_ K5 hK5=>qO S.holds λw9 e9=>hK5 w9 e9) λw9 e9=>?_
   simpa using h _ (S.go e9).ext
  |false=>
   simp only[Bool.or_eq_false_iff,decide_eq_false_iff_not]at hbd
   by_cases hi0:0<i
   ·obtain⟨bo',oo',hE,_,hc'⟩:=xz hl (show i-1<l.length by omega)
    cases hE
    intro K9 hK9
    refine gd_ ?_
    rw[gde (show((i:Nat):Int)>0 by omega)]
    refine hK9 _ _ λ_=>?_
    clear hK9 K9
    intro K9 hK9
    refine gd_ ?_
    refine zg (v:=.int .i64 l[i-1]) (by rw[show (((i:Nat):Int)-1).toNat=i-1 by omega];exact S.at hc') ?_
    refine gp_ ?_
    refine zg (v:=.int .i64 l[i]) (S.at hc) ?_
    refine gp_ ?_
    refine hK9 _ _ λ_=>?_
    clear hK9 K9
    (intro K9 hK9;refine gd_ ?_;refine hK9 _ _ λ_=>?_;clear hK9 K9)
    refine gd_ ?_
    refine zf (λhh=>?_) (λhh=>?_)
    ·obtain⟨e1,e2⟩:=bad S λh3=>by have:=h3.2 hi0;omega
     rw[e1,e2]
     refine gp_ ?_
     refine gp_ ?_
     refine zi (c:=true) (λ_ K2 hK2=>by refine gp_ ?_;simpa using hK2) ?_
     refine zt (c:=true) (λ_ K5 hK5=>qO S.holds λw9 e9=>hK5 w9 e9) λw9 e9=>?_
     simpa using h _ (S.go e9).ext
    ·exact fin S ⟨by omega,by omega⟩ λ_=>by omega
   ·intro K9 hK9
    refine gd_ ?_
    rw[decide_eq_false (show¬((i:Nat):Int)>0 by omega)]
    refine hK9 _ _ λ_=>?_
    clear hK9 K9
    (intro K9 hK9;refine gd_ ?_;refine hK9 _ _ λ_=>?_;clear hK9 K9)
    refine gd_ ?_
    (intro K9 hK9;refine gd_ ?_;refine hK9 _ _ λ_=>?_;clear hK9 K9)
    refine gd_ ?_
    refine c_f rfl ?_
    exact fin S ⟨by omega,by omega⟩ λh=>absurd h hi0
 ·obtain rfl:i=l.length:=by omega
  rw[List.take_length]at hok S
  have e1:bhE (zq u g).length l=0:=by rw[bhE,if_pos hok]
  rw[e1]
  refine gp_ ?_
  refine zt (c:=true) (λ_ K5 hK5=>?_) λw16 e16=>?_
  ·refine S.ldB (b:=b4) ?_ rfl
   obtain⟨sm,S,_,hm⟩:=JD S
   refine ahq S.holds (UnG.up hu) F hq0 hq hpe' (hps.up' inferInstance λ_ _ h=>PlG.up h) hb (hm.up' inferInstance λ_ _ h=>h) λv17 s17 w17 e17 n17 h17=>?_
   obtain⟨S,_,_⟩:=S.tell e17 n17
   refine ZF S.holds (hB.up' inferInstance λ_ _ h=>h) (h17.up' inferInstance λ_ _ h=>h) (hml _) hbl ?_
   rw[aa4,gde (by rw[bhL,if_pos hok];rfl)]
   exact hK5 w17 e17
  have S:=S.go e16
  refine zt (c:=true) (λ_ K5 hK5=>qO S.holds λw9 e9=>hK5 w9 e9) λw9 e9=>?_
  simpa using h _ (S.go e9).ext
end
end Go.Proofs
