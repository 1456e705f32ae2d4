/-
  Contracts and plain laws that the last text leans on.
-/
import Derived.Test.YthmakcmiggpoeaaGreatDoorQCg
import Derived.Test.YthmakcmiggpoeaaGreatDoorQCf
import Derived.Test.YthmakcmiggpoeaaGreatDoorQCe
import Derived.Test.YthmakcmiggpoeaaGreatDoorQCb
set_option maxRecDepth 100000
set_option maxHeartbeats 8000000
set_option linter.unusedVariables false
set_option linter.unusedSimpArgs false
namespace Go.Proofs
open Go.Sh Go.RowKit Go.BM
section
def wdsL(n:Nat)(D:List Int):List (BitVec 64):=jE (λx y=>x ||| y) (List.replicate ((n+63)/64) 0#64) D
theorem vy{n:Nat}{D:List Int}:(wdsL n D).length=(n+63)/64:=by rw[wdsL,Jl,List.length_replicate]
theorem alq{n:Nat}{D:List Int}(hn:n≤1024)(hD:Z4 n D){p:Int}(hp:0≤p):bit (wdsL n D) p.toNat=decide (p∈D):=by
 have h:=ado (W:=(n:Int)) D (List.replicate (((n:Int).toNat+63)/64) 0#64) (aj4 (by omega) (by omega)) hD p.toNat
 rw[tnc]at h
 rw[wdsL,h,aj5,Bool.false_or]
 rw[show ((p.toNat:Nat):Int)=p by omega]
theorem ahn{n:Nat}{D:List Int}{p:Int}:wdsL n (D++[p])=(wdsL n D).set (p.toNat/64) ((wdsL n D).getD (p.toNat/64) 0 ||| (BitVec.ofInt 64 1 <<< (p.toNat%64))):=by
 rw[wdsL,ahc];rfl
theorem afb{p:PtD}:(nextP p).length≤2:=by
 rw[nextP];split
 ·simp
 ·split<;>simp
theorem amr{X:Nat→Prop}{w0 w:World}{r:Gh}{L:List Asr}{bw:Nat}{W:Int}{ws:List (BitVec 64)}{f:List Value→List Asr}(S:StX X w0 r w L)[h:At bw L (wcs ws) 205 f](hl:ws.length≤100000):
  Holds (r.or (Go.Sh.one bw (wcs ws) 205)) w∧RwbC (r.or (Go.Sh.one bw (wcs ws) 205)) [.int .i64 W,.slice (some ⟨bw,0,none⟩) ws.length ws.length] (W,ws):=by
 have B:=S.blk bw
 refine⟨S.holds.or (kh B),⟨some ⟨bw,0,none⟩,ws.length,rfl,?_⟩⟩
 have hs:SlG 1 (Go.Sh.one bw (wcs ws) 205) WdC (.slice (some ⟨bw,0,none⟩) ws.length ws.length) ws:=(vU (ws:=ws)).sl (by simp) (Nat.le_refl _) (λw k=>Sl.blk (xc w k)) (by decide) ⟨w,kh B⟩
 exact SlB.cells ⟨hs,by show ws.length≤_;rw[maxLen];omega⟩
section
variable {u:UnD} {g:GrD} {d:RgD} {e:Int} {ls:List LnD} {b:Nat} {w:World} {r:Gh} {K:Value→World→Prop}
abbrev aew(b9 bw b7:Nat)(v:Value)(n:Nat)(s:WkS)(M:List Asr):List Asr:=
 .cell b9 [v] 238::.row v 3 1 s.2.length (ints s.2)::.cell bw (wcs (wdsL n s.1)) 205::.cell b7 [.int .i64 n,.slice (some ⟨bw,0,none⟩) ((n+63)/64) ((n+63)/64)] 48::M
abbrev aod(b3 b5 b7 b9:Nat):Value:=.func (.func Tryz.vD) #[] #[.pointer (some ⟨b3,0,none⟩),.pointer (some ⟨b5,0,none⟩),.pointer (some ⟨b7,0,none⟩),.pointer (some ⟨b9,0,none⟩)]
theorem abA{q:Int}{s:WkS}{bw b3 b5 b7 b9:Nat}{v:Value}{W:Int}{ws:List (BitVec 64)}{X:Nat→Prop}{w0:World}{M:List Asr}{cr:List Value}(S:StX X w0 r w (aew b9 bw b7 v g.pts.length s M))(hL:LkG2 r b u g d e ls)
  (h3:Ob r λw=>w.cell? ⟨b3,0,none⟩=some (.pointer (some ⟨b,0,none⟩))) (hrw:RwbC r cr (W,ws)) (h5:∀j v,cr[j]? = some v→Ob r λw=>w.cell? ⟨b5,j,none⟩=some v)
  (hwl:ws.length≤100000) (hws:g.pts.length≤64*ws.length) (hn:g.pts.length≤1024) (hq0:0≤q) (hq:q.toNat<g.pts.length) (hnx:∀p∈nextP g.pts[q.toNat],0≤p∧p<g.pts.length) (hD:Z4 g.pts.length s.1) (hT:s.2.length≤900000)
  (h:∀v' w',StX X w0 r w' (aew b9 bw b7 v' g.pts.length (fromI ws (nextP g.pts[q.toNat]) s) M)→K (.tuple #[]) w'):
  zE Tryz.prog (aod b3 b5 b7 b9) #[.int .i64 q] w K:=by
 refine alJ (by kernel_rfl) ?_
 refine Tryz.QL ?_
 unfold Tryz.vV
 refine zf (S.at h3) ?_
 refine QO S.holds hL hq0 hq λv10 w1 e1 o1=>?_
 have hfl:=afb (p:=g.pts[q.toNat])
 generalize nextP g.pts[q.toNat]=A at hnx h o1 hfl
 obtain⟨s1,S,hs1,_,_⟩:=(S.take e1 o1).doneRow qJ (by decide) rfl
 obtain⟨qr,kr,rfl,_,_⟩:=hs1.shape
 obtain⟨pw',cw,rfl,hws'⟩:=id hrw
 refine gg_ ?_
 refine zi (ι:=Nat×Value) (λi=>[.int .i64 (i.1:Nat)]) (λi w'=>i.1≤A.length∧Z4 g.pts.length (fromI ws (A.take i.1) s).1∧(fromI ws (A.take i.1) s).2.length≤900000+i.1∧StX X w0 (r.or s1) w' (aew b9 bw b7 i.2 g.pts.length (fromI ws (A.take i.1) s) M)) (λi=>A.length-i.1) (0,v) rfl ⟨gzl _,hD,hT,S⟩ ?_
 repeat clear S
 rintro⟨i,vi⟩ d0 w3 ⟨hi,hDi,hTi,S⟩ K2 hK2
 simp only at hi hDi hTi S⊢
 simp only[gdz]
 refine gg_ ?_
 refine zj (λhlt=>?_) (λhge=>?_)
 ·have hlt:i<A.length:=by omega
  have hsn:=ajf (ws:=ws) (s:=s) hlt
  obtain⟨b8,o8,rfl,_,hc8⟩:=xR hs1 hlt
  have hp:=hnx _ (gem hlt)
  generalize A[i]=p at hsn hc8 hp
  generalize fromI ws (A.take i) s=st at hDi hTi S hsn
  obtain⟨D,T⟩:=st
  simp only at hDi hTi S
  refine zn (λ_ w'=>∃v',StX X w0 (r.or s1) w' (aew b9 bw b7 v' g.pts.length (YD ws (D,T) p) M)) (λK6 hK6=>?_) ?_
  ·refine gg_ ?_
   refine zf (by rw[tnc];exact S.at (Ob.up (s:=r.or s1) hc8)) ?_
   refine zo (n:=2) (c:=[.int .i64 W,.slice pw' ws.length cw]) rfl (λj v hj=>by rw[Nat.zero_add];exact S.at (Ob.up (s:=r.or s1) (h5 j v hj))) ?_
   refine jH S.holds (RwbC.up hrw) hp.1 (by omega) hwl λw4 e4=>?_
   have S:=S.go e4
   have hbw:((g.pts.length+63)/64)≤100000:=by omega
   refine zr (c:=!decide (p∈D)) (λ_ K7 hK7=>?_) λw5 e5=>?_
   ·refine S.ldB (b:=b7) ?_ rfl
    obtain⟨hr2,hrw2⟩:=amr (bw:=bw) (W:=(g.pts.length:Int)) (ws:=wdsL g.pts.length D) S (by rw[vy];exact hbw)
    rw[vy]at hrw2
    refine jH hr2 hrw2 hp.1 (by rw[vy];omega) (by rw[vy];exact hbw) λw6 e6=>?_
    rw[alq hn hDi hp.1]
    refine gp_ ?_
    exact hK7 _ e6
   have S:=S.go e5
   refine c_b (λhc=>?_) (λhc=>?_)
   ·have hadd:YD ws (D,T) p=(D++[p],T++[p]):=by rw[YD,if_pos hc]
    rw[hadd]at hK6
    have S:=S.go (Ext.drew _)
    have hwn:(wdsL g.pts.length D).length=(g.pts.length+63)/64:=vy
    have hpw:p.toNat/64<(wdsL g.pts.length D).length:=by omega
    refine gg_ ?_
    refine S.ld (b:=bw) (v:=u64 ((wdsL g.pts.length D).getD (p.toNat/64) 0)) ?_ (by rw[show 0+(p/64).toNat=p.toNat/64 by omega,wcs,List.getElem?_map,ggd,gqg hpw];rfl)
    refine gg_ ?_
    rw[show (p%64).toNat=p.toNat%64 by omega]
    have hq2:0+(p/64).toNat<(wcs (wdsL g.pts.length D)).length:=by rw[wcs,List.length_map];omega
    refine S.st (b:=bw) (λw7 S=>?_) hq2
    rw[show 0+(p/64).toNat=p.toNat/64 by omega]at S
    refine anm (l:=T) S (by omega) λv8 w8 S=>?_
    refine hK6 [] _ ⟨v8,?_⟩
    show StX X w0 (r.or s1) w8 (.cell b9 [v8] 238::.row v8 3 1 (T++[p]).length (ints (T++[p]))::.cell bw (wcs (wdsL g.pts.length (D++[p]))) 205::.cell b7 [.int .i64 g.pts.length,.slice (some ⟨bw,0,none⟩) ((g.pts.length+63)/64) ((g.pts.length+63)/64)] 48::M)
    rw[ahn,wcs,List.map_set]
    exact S
   ·have hadd:YD ws (D,T) p=(D,T):=by rw[YD,if_neg (by rw[hc];decide)]
    rw[hadd]at hK6
    exact hK6 [] _ ⟨vi,S⟩
  ·repeat clear S
   rintro _ w9 ⟨v',S⟩ d
   refine gg_ ?_
   rw[← hsn]at S
   refine hK2 (i+1,v') _ ⟨hlt,?_,?_,S⟩ (by show A.length-(i+1)<A.length-i;omega)
   ·show Z4 g.pts.length (fromI ws (A.take (i+1)) s).1
    rw[hsn,YD]
    split
    ·intro y hy
     rcases List.mem_append.1 hy with hy|hy
     ·exact hDi y hy
     ·rw[List.mem_singleton]at hy;rw[hy];exact hp
    ·exact hDi
   ·show(fromI ws (A.take (i+1)) s).2.length≤900000+(i+1)
    rw[hsn,YD]
    split
    ·rw[gla,gls];show T.length+1≤_;omega
    ·show T.length≤_;omega
 ·have hie:i=A.length:=by omega
  rw[hie,List.take_length]at S
  exact h vi _ (S.less (λb o h=>.inl h) (List.Sublist.refl _))
theorem vX{q:Int}(hq:q.toNat<g.pts.length):xi g q=nextP g.pts[q.toNat]:=by rw[xi,gqg hq];rfl
theorem Ju{q:Int}(hpt:∀p∈g.pts,zI u g p=true):∀p∈xi g q,0≤p∧p<g.pts.length:=λp hp=>by
 by_cases hq:q.toNat<g.pts.length
 ·rw[vX hq]at hp
  have h:=ai4 (hpt _ (gem hq)) p hp
  exact⟨h.1,by have:=h.2;rw[ag9]at this;exact this⟩
 ·rw[xi,List.getElem?_eq_none (by omega)]at hp
  cases hp
theorem akm{x:LnD}{ws:List (BitVec 64)}(hpt:∀p∈g.pts,zI u g p=true){p:Int}(h:InF g x ws p):0≤p∧p<g.pts.length:=by
 cases h with
 |start h hb=>exact Ju hpt _ h
 |step hq hk h hb=>exact Ju hpt _ h
theorem aiq{n:Nat}{D:List Int}(h:D.Nodup)(hD:Z4 n D):D.length≤n:=by
 have:=aem (b:=(List.range n).map Int.ofNat) h λx hx=>by
  have:=hD x hx
  rw[List.mem_map]
  exact⟨x.toNat,List.mem_range.2 (by omega),by show((x.toNat:Nat):Int)=x;omega⟩
 simpa using this
theorem aex{x:LnD}{W:Int}{ws:List (BitVec 64)}{cx cr:List Value}(hr:Holds r w)(hL:LkG2 r b u g d e ls)(hx:LnG r cx x)(hrw:RwbC r cr (W,ws))
  (hwl:ws.length≤100000) (hws:g.pts.length≤64*ws.length) (hn:g.pts.length≤1024) (hq0:0≤x.q) (hq:x.q.toNat<g.pts.length) (hpt:∀p∈g.pts,zI u g p=true)
  (h:∀D bw w',(∀p,InF g x ws p↔p∈D)→Z4 g.pts.length D→D.Nodup→StX noX w r w' [.cell bw (wcs (wdsL g.pts.length D)) 205]→K (.agg #[.int .i64 g.pts.length,.slice (some ⟨bw,0,none⟩) ((g.pts.length+63)/64) ((g.pts.length+63)/64)]) w'):
  zd Tryz.prog Tryz.qN #[.pointer (some ⟨b,0,none⟩),.agg cx.toArray,.agg cr.toArray] w K:=by
 refine Tryz.J3 ?_
 unfold Tryz.ZF
 obtain⟨pp,cpp,hc,hs⟩:=hL.pts
 have hx0:=hx
 obtain⟨vx,rfl,hxs⟩:=hx
 obtain⟨qx,cx',rfl,_,_⟩:=hxs.sl.shape
 have hrw0:=hrw
 obtain⟨pw',cw,rfl,hws'⟩:=hrw
 have S:=St.start hr
 refine S.box λb3 w1 S=>?_
 refine S.box λb4 w2 S=>?_
 refine S.box λb5 w3 S=>?_
 refine S.al λb6 w4 S=>?_
 have S:StX noX w r w4 [.cell b6 [.int .i64 0,.slice none 0 0] 48,.cell b5 [.int .i64 W,.slice pw' ws.length cw] 48,.cell b4 [.int .i64 x.q,.int .i64 x.pl.l,.slice qx x.pl.ps.length cx',.bool x.mu,.int .i64 x.re] 82,.cell b3 [.pointer (some ⟨b,0,none⟩)] 151]:=S
 refine S.ld (b:=b3) ?_
 refine gg_ ?_
 refine zf (S.at hc) ?_
 refine gg_ ?_
 refine ai8 (n:=g.pts.length) (by omega) S λbw w5 S=>?_
 refine gS_ ?_
 refine S.al λb7 w6 S=>?_
 refine S.stB (b:=b7) λw7 S=>?_
 refine S.al λb9 w8 S=>?_
 have S:StX noX w r w8 [.cell b9 [.slice none 0 0] 238,.cell b7 [.int .i64 g.pts.length,.slice (some ⟨bw,0,none⟩) ((g.pts.length+63)/64) ((g.pts.length+63)/64)] 48,.cell bw (wcs (wdsL g.pts.length [])) 205,.cell b6 [.int .i64 0,.slice none 0 0] 48,.cell b5 [.int .i64 W,.slice pw' ws.length cw] 48,.cell b4 [.int .i64 x.q,.int .i64 x.pl.l,.slice qx x.pl.ps.length cx',.bool x.mu,.int .i64 x.re] 82,.cell b3 [.pointer (some ⟨b,0,none⟩)] 151]:=S
 have S:=((S.frzAt b3).frzAt b5).ownNil 3 1
 have h3:Ob ((r.or (Go.Sh.one b3 [.pointer (some ⟨b,0,none⟩)] 151)).or (Go.Sh.one b5 [.int .i64 W,.slice pw' ws.length cw] 48)) λw=>w.cell? ⟨b3,0,none⟩=some (.pointer (some ⟨b,0,none⟩)):=xK (i:=0) (c:=[.pointer (some ⟨b,0,none⟩)]) (T:=151) rfl
 have h5:∀j v,[Value.int .i64 W,.slice pw' ws.length cw][j]? = some v→Ob ((r.or (Go.Sh.one b3 [.pointer (some ⟨b,0,none⟩)] 151)).or (Go.Sh.one b5 [.int .i64 W,.slice pw' ws.length cw] 48)) λw=>w.cell? ⟨b5,j,none⟩=some v:=λj v hj=>xK (i:=j) (c:=[.int .i64 W,.slice pw' ws.length cw]) (T:=48) hj
 have le:Le r ((r.or (Go.Sh.one b3 [.pointer (some ⟨b,0,none⟩)] 151)).or (Go.Sh.one b5 [.int .i64 W,.slice pw' ws.length cw] 48)):=inferInstance
 generalize ((r.or (Go.Sh.one b3 [.pointer (some ⟨b,0,none⟩)] 151)).or (Go.Sh.one b5 [.int .i64 W,.slice pw' ws.length cw] 48))=r' at S h3 h5 le
 have S:StX noX w r' w8 (aew b9 bw b7 (.slice none 0 0) g.pts.length ([],[]) [.cell b6 [.int .i64 0,.slice none 0 0] 48,.cell b4 [.int .i64 x.q,.int .i64 x.pl.l,.slice qx x.pl.ps.length cx',.bool x.mu,.int .i64 x.re] 82]):=
  S.permO ((List.Perm.swap _ _ _).trans (.cons _ (.cons _ (.swap _ _ _))))
 have hL:LkG2 r' b u g d e ls:=hL.up
 have hrw0:RwbC r' [.int .i64 W,.slice pw' ws.length cw] (W,ws):=hrw0.up
 have hx0:LnG r' [.int .i64 x.q,.int .i64 x.pl.l,.slice qx x.pl.ps.length cx',.bool x.mu,.int .i64 x.re] x:=hx0.up
 have hnx:∀q:Int,∀hq:q.toNat<g.pts.length,∀p∈nextP g.pts[q.toNat],0≤p∧p<g.pts.length:=λq hq p hp=>Ju hpt (q:=q) p (by rw[vX hq];exact hp)
 refine gg_ ?_
 refine abA (W:=W) S hL h3 hrw0 h5 hwl hws hn hq0 hq (hnx _ hq) (λk hk=>by cases hk) (gzl _) λv' w9 S=>?_
 have hW:=WkL.start (g:=g) (x:=x) (ws:=ws)
 rw[vX hq]at hW
 generalize fromI ws (nextP g.pts[x.q.toNat]) ([],[])=s0 at S hW
 refine zi (ι:=Value×WkS) (λ_=>[]) (λi w'=>WkL g x ws i.2∧StX noX w r' w' (aew b9 bw b7 i.1 g.pts.length i.2 [.cell b6 [.int .i64 0,.slice none 0 0] 48,.cell b4 [.int .i64 x.q,.int .i64 x.pl.l,.slice qx x.pl.ps.length cx',.bool x.mu,.int .i64 x.re] 82])) (λi=>2*(g.pts.length-i.2.1.length)+i.2.2.length) (v',s0) rfl ⟨hW,S⟩ ?_
 clear hW
 repeat clear S
 rintro⟨v1,D,T⟩ d0 w10 ⟨hW,S⟩ K10 hK10
 simp only at hW S⊢
 have hall:Z4 g.pts.length D:=λk hk=>akm hpt (hW.mem k hk)
 have hDl:D.length≤g.pts.length:=aiq hW.nod hall
 have hTl:T.length≤D.length:=aem hW.tnd hW.sub
 refine anV (l:=T) S (by omega) (λhT=>?_) λm q v2 w11 hT S=>?_
 ·subst hT
  refine gp_ ?_
  refine gp_ ?_
  refine gp_ ?_
  refine c_t rfl ?_
  refine S.ldB (b:=b7) ?_ rfl
  refine S.stB (b:=b6) λw12 S=>?_
  refine S.ceB (b:=b6) ?_ rfl
  exact h D bw _ (λp=>hW.end) hall hW.nod (S.less le.le (.cons _ (.cons _ (.cons_cons _ (List.nil_sublist _)))))
 ·subst hT
  have hqD:=hW.sub q (List.mem_append_right _ (List.mem_singleton.2 rfl))
  have hqr:=hall q hqD
  have hqn:q.toNat<g.pts.length:=by omega
  have hkq:qm g x q=vc g.pts[q.toNat] x:=by rw[qm,gqg hqn];rfl
  rw[gla,gls]at hTl
  refine gp_ ?_
  refine gp_ ?_
  refine gp_ ?_
  refine c_f rfl ?_
  refine zf (S.at h3) ?_
  refine S.ldB (b:=b4) ?_ rfl
  refine XS S.holds hL hx0 hqr.1 hqn λw12 e12=>?_
  have S:=S.go e12
  rw[← hkq]
  refine gp_ ?_
  refine c_b (λhk=>?_) (λhk=>?_)
  ·have hk:qm g x q=false:=by simpa using hk
   obtain⟨N,hN,hW2⟩:=hW.on hk
   rw[vX hqn]at hN
   refine abA (W:=W) (s:=(D,m)) S hL h3 hrw0 h5 hwl hws hn hqr.1 hqn (hnx _ hqn) hall (by show m.length≤_;omega) λv3 w13 S=>?_
   rw[hN]at S
   have hall2:Z4 g.pts.length (D++N):=λk hk=>akm hpt (hW2.mem k hk)
   have hDl2:(D++N).length≤g.pts.length:=aiq hW2.nod hall2
   rw[gla]at hDl2
   exact hK10 (v3,(D++N,m++N)) _ ⟨hW2,S⟩ (by show 2*(g.pts.length-(D++N).length)+(m++N).length<2*(g.pts.length-D.length)+(m++[q]).length;rw[gla,gla,gla,gls];omega)
  ·have hk:qm g x q=true:=by simpa using hk
   exact hK10 (v2,(D,m)) _ ⟨hW.kill hk,S⟩ (by show 2*(g.pts.length-D.length)+m.length<2*(g.pts.length-D.length)+(m++[q]).length;rw[gla,gls];omega)
end
section
variable {u:UnD} {fn:Int} {g:GrD}
theorem IsF.all(F:IsF u fn g){q:Int}(hq:q<g.pts.length):isU u fn q=true∧zK u fn q=(allD u g,0):=by
 obtain⟨hM,hf0,hlt,_,_⟩:=xZ F.is
 have hge:u.fs[fn.toNat]=g:=(List.getElem?_eq_some_iff.1 F.at').2
 have h:=F.is
 rw[isU,F.at']at h
 simp only[gba,gdt]at h
 have hi:isU u fn q=true:=by
  rw[isU,F.at']
  simp only[gba,gdt]
  exact⟨h.1,h.2.1,hq⟩
 obtain⟨_,_,hlt2,_,h5⟩:=xZ hi
 rw[hge]at h5
 exact⟨hi,h5⟩
theorem akn(F:IsF u fn g)(he:lkE u fn=0):lkR u fn=allD u g:=by
 have h:=(F.all (q:=-1) (by omega)).2
 rw[lkE,h]at he
 rw[lkR,h]
 unfold zM at *
 rw[if_pos rfl]at *
 split at he
 ·cases he
 ·rename_i h2
  rw[if_neg h2]
theorem aho(F:IsF u fn g)(he:lkE u fn=0):∀x∈lkS u fn g,(0≤x.q∧x.q.toNat<g.pts.length)∧0≤x.re∧x.re<(lkR u fn).ct:=λx hx=>by
 obtain⟨q,p,hq,hp,ho,rfl⟩:=J5 hx
 obtain⟨hi,ha⟩:=F.all (q:=(q:Int)) (by omega)
 have hpa:agU u fn (q:Int)=some p:=by
  rw[agU,F.at']
  exact hp
 have hn:ptN u p=1:=by rw[ptN,if_pos ho]
 have h:=ana hi (Int.natCast_nonneg q) hpa (by rw[hn];decide)
 rw[ha,hn]at h
 rw[akn F he,he,reF,if_pos rfl]
 refine⟨⟨Int.natCast_nonneg q,by show((q:Nat):Int).toNat<_;omega⟩,h.1,?_⟩
 have h2:atL (allD u g).at' (q:Int)+1≤(allD u g).ct:=h.2
 show atL (allD u g).at' (q:Int)<_
 omega
def aey(g:GrD)(R:List xF)(x:LnD)(y:xF):Prop:=
 y.1=g.pts.length∧∃D,y.2=wdsL g.pts.length D∧(∀p,InF g x (R.getD x.re.toNat (0,[])).2 p↔p∈D)∧Z4 g.pts.length D∧D.Nodup
theorem Jv{R:List xF}{n W:Int}(h:z7 R n W=true):(R.length:Int)=n∧∀i (hi:i<R.length),R[i].1=W∧BM.May R[i].1 R[i].2:=by
 rw[z7,gba,gdt,Bool.not_eq_true',List.any_eq_false]at h
 refine⟨h.1,λi hi=>?_⟩
 have h2:=h.2 _ (gem hi)
 simp only[aev,Bool.or_eq_true,Bool.not_eq_true',gdt,not_or,Classical.not_not,Bool.not_eq_false]at h2
 exact⟨h2.2,BM.mayB_iff.1 h2.1⟩
variable {v:Value} {w:World} {r:Gh} {K:Value→World→Prop}
theorem afP{R:List xF}{vR:Value}(hr:Holds r w)(hu:UnG r v u)(hR:SlG 2 r (RwbC r) vR R)(hf:R.length≤1000000)
  (h0:∀e w',e≠0→(∀g,IsF u fn g→lkE u fn=0→z7 R (lkR u fn).ct (g.pts.length+g.lv)=false)→Ext w w'→K (.tuple #[.slice none 0 0,.int .i64 e]) w')
  (h1:∀g,IsF u fn g→lkE u fn=0→z7 R (lkR u fn).ct (g.pts.length+g.lv)=true→∀v' s Y w',Ext w w'→New w s w'→SlG 2 s (RwbC s) v' Y→Y.length=(lkS u fn g).length→(∀i (h:i<(lkS u fn g).length) (h':i<Y.length),aey g R (lkS u fn g)[i] Y[i])→
   K (.tuple #[v',.int .i64 0]) w'):zd Tryz.prog Tryz.Ys #[v,.int .i64 fn,vR] w K:=by
 refine Tryz.aeq ?_
 unfold Tryz.Vv
 obtain⟨pR,capR,rfl,_,_⟩:=hR.shape
 obtain⟨p0,cap0,vf,rfl,_,_,_,_,_⟩:=id hu
 have S:=St.start hr
 refine S.box λb3 w1 S=>?_
 have S:StX noX w r w1 [.cell b3 [.slice p0 u.ss.length cap0,vf,.int .i64 u.mn] 25]:=S
 refine S.ldB (b:=b3) ?_ rfl
 refine jm S.holds hu (λhi w2 e2=>?_) λhi g b s w2 hg e2 n2 hL=>?_
 ·have S:=S.go e2
  refine gp_ ?_
  refine gp_ ?_
  refine zn (λx w'=>x=[.int .i64 2]∧w'=w2) (λK3 hK3=>?_) ?_
  ·refine gp_ ?_
   refine c_f rfl ?_
   exact hK3 _ _ ⟨rfl,rfl⟩
  rintro _ _ ⟨rfl,rfl⟩ d
  rw[gdz]
  refine gp_ ?_
  refine c_t rfl ?_
  exact h0 2 _ (by decide) (λg F=>by have:=F.is;rw[hi]at this;cases this) S.ext
 ·obtain⟨S,_,ha⟩:=S.tell e2 n2
  have F:=isF hi hg
  refine gp_ ?_
  refine gp_ ?_
  refine zn (λx w'=>∃e',x=[.int .i64 e']∧(e'=0→lkE u fn=0∧z7 R (lkR u fn).ct (g.pts.length+g.lv)=true)∧(e'≠0→lkE u fn=0→z7 R (lkR u fn).ct (g.pts.length+g.lv)=false)∧StX noX w (r.or s) w' []) (λK3 hK3=>?_) ?_
  ·refine gp_ ?_
   refine c_t rfl ?_
   refine abz S.holds hL F.may F.head F.pts (hR.up' inferInstance λ_ _ h=>RwbC.up h) hf (λhe w3 e3=>?_) λhe x w3 e3=>?_
   ·have S:=S.go e3
    refine xA S.holds hL ?_
    refine hK3 _ _ ⟨_,rfl,λhz=>⟨he,?_⟩,λhz he0=>?_,S.tl⟩
    ·cases hh:z7 R (lkR u fn).ct (g.pts.length+g.lv)with
     |true=>rfl
     |false=>rw [hh,if_neg (by decide)]at hz;cases hz
    ·cases hh:z7 R (lkR u fn).ct (g.pts.length+g.lv)with
     |false=>rfl
     |true=>rw [hh,if_pos rfl]at hz;exact absurd he0 hz
   ·have S:=S.go e3
    refine xA S.holds hL ?_
    refine hK3 _ _ ⟨_,rfl,λhz=>?_,λ_ h0=>absurd h0 he,S.tl⟩
    split at hz
    ·exact absurd hz he
    ·cases hz
  clear S
  rintro _ w4 ⟨e',rfl,he',hb',S⟩ d
  rw[gdz]
  refine gp_ ?_
  refine zj (λhne=>?_) (λhe=>?_)
  ·exact h0 e' _ hne (λg' F' hz=>by
    obtain rfl:g'=g:=Option.some.inj (F'.at'.symm.trans hg)
    exact hb' hne hz) S.ext
  obtain⟨hz,hgood⟩:=he' (by omega)
  obtain rfl:e'=0:=by omega
  have h1:=h1 g F hz hgood
  have hre:=aho F hz
  have hlf:(lkS u fn g).length≤1000000:=Nat.le_trans kz (by have:=F.head.pt1024;omega)
  obtain⟨pl,cl,hlc,hls⟩:=id hL.lns
  generalize lkS u fn g=ls at *
  refine n_some ?_
  refine gg_ ?_
  refine zf (S.at hlc) ?_
  refine gg_ ?_
  have S:=S.ownNil 48 2
  have hRl:=Jv hgood
  have hpt:=F.pts
  have hn:=F.head.pt1024
  have hlv:=F.head.lv0
  refine zi (ι:=Nat×Value) (λi=>[i.2,.int .i64 (i.1:Nat)]) (λi w'=>∃s' Y cs,i.1≤ls.length∧Above w s'∧RowOf 2 (RwbC s') cs Y∧Y.length=i.1∧(∀k (h:k<ls.length) (h':k<Y.length),aey g R ls[k] Y[k])∧StX noX w ((r.or s).or s') w' [.row i.2 48 2 Y.length cs]) (λi=>ls.length-i.1) (0,.slice none 0 0) rfl
   ⟨nothing,[],[],gzl _,Above.no,RowOf.nil,rfl,λk _ h'=>absurd h' (Nat.not_lt_zero _),S.less (λb o h=>Or.elim h id λh=>h.elim) (List.Sublist.refl _)⟩ ?_
  repeat clear S
  rintro⟨i,vo⟩ d0 w5 ⟨s',Y,cs,hi,ha',hrow,hYl,hY,S⟩ K9 hK9
  simp only at hi hYl S⊢
  simp only[gdz,gds]
  refine gg_ ?_
  refine zj (λhlt=>?_) (λhge=>?_)
  ·have hlt:i<ls.length:=by omega
   obtain⟨bo,oo,co,hqo,hcl,hoc,hoo⟩:=hls.get (by decide) hlt
   have hx:=hre _ (gem hlt)
   have hYn:∀y,aey g R ls[i] y→∀k (h:k<ls.length) (h':k<(Y++[y]).length),aey g R ls[k] (Y++[y])[k]:=λy hy k h h'=>by
    rw[gla,gls]at h'
    by_cases hk:k<Y.length
    ·rw[List.getElem_append_left hk];exact hY k h hk
    ·have :k=i:=by omega
     subst this
     rw[List.getElem_append_right (by omega)]
     simpa using hy
   generalize ls[i]=x at hoc hx hYn
   have hoc0:=hoc
   obtain⟨vx,rfl,hxs⟩:=hoc
   obtain⟨qx,cx,rfl,_,_⟩:=hxs.sl.shape
   cases hqo
   have hxr:x.re.toNat<R.length:=by have:=hRl.1;omega
   obtain⟨br,or',cr,hqr,hclr,hrc,hro⟩:=hR.get (by decide) hxr
   have hRx:=hRl.2 _ hxr
   have hgd:R.getD x.re.toNat (0,[])=R[x.re.toNat]:=by rw[ggd,gqg hxr];rfl
   generalize R[x.re.toNat]=y0 at hrc hRx hgd
   obtain⟨W,ws⟩:=y0
   simp only at hRx
   cases hqr
   refine gg_ ?_
   refine zo (n:=5) rfl (λj v hj=>by rw[tnc];exact S.at (Ob.up (s:=(r.or s).or s') (hoo j v hj))) ?_
   refine S.al λb12 w7 S=>?_
   refine S.stB (b:=b12) λw8 S=>?_
   have S:=S.go (Ext.drew _)
   refine S.ldB (b:=b12) ?_ rfl
   refine gg_ ?_
   obtain⟨hWe,hmay⟩:=hRx
   have hWe:W=(g.pts.length:Int)+g.lv:=hWe
   have hmay:BM.May W ws:=hmay
   have hm1:=hmay.1;have hm2:=hmay.2.1;have hm3:=hmay.2.2.1
   have hrc0:RwbC ((r.or s).or s') cr (W,ws):=RwbC.up (RwbC.up (s:=r.or s) hrc)
   obtain⟨pw',cw,rfl,hws'⟩:=hrc
   refine zo (n:=2) rfl (λj v hj=>S.at (Ob.up (s:=(r.or s).or s') (Ob.up (s:=r.or s) (hro j v hj)))) ?_
   have hL2:LkG2 ((r.or s).or s') b u g (lkR u fn) (lkE u fn) ls:=hL.up
   have hx2:LnG ((r.or s).or s') [.int .i64 x.q,.int .i64 x.pl.l,.slice qx x.pl.ps.length cx,.bool x.mu,.int .i64 x.re] x:=LnG.up hoc0
   refine aex S.holds hL2 hx2 hrc0 (by omega) (by omega) hn hx.1.1 hx.1.2 hpt λD bw w15 hD hall hnd T=>?_
   have S:StX noX w (((r.or s).or s').or nothing) w15 [.cell bw (wcs (wdsL g.pts.length D)) 205,.cell b12 [.int .i64 x.q,.int .i64 x.pl.l,.slice qx x.pl.ps.length cx,.bool x.mu,.int .i64 x.re] 82,.row vo 48 2 Y.length cs]:=StX.join S (T.to nothing (l:=⟨λb o h=>h.elim⟩)) Above.no
   clear T
   have hwl:=vy (n:=g.pts.length) (D:=D)
   have hy:aey g R x ((g.pts.length:Int),wdsL g.pts.length D):=⟨rfl,D,rfl,λp=>by rw[hgd];exact hD p,hall,hnd⟩
   obtain⟨S,hs,hbw⟩:=S.litNew bw (sz:=1) (R:=WdC) (l:=wdsL g.pts.length D) vU (by decide)
   have hyr:RwbC (s'.or (Go.Sh.one bw (wcs (wdsL g.pts.length D)) 205)) [.int .i64 g.pts.length,.slice (some ⟨bw,0,none⟩) ((g.pts.length+63)/64) ((g.pts.length+63)/64)] ((g.pts.length:Int),wdsL g.pts.length D):=
    ⟨some ⟨bw,0,none⟩,(g.pts.length+63)/64,by rw[hwl],by rw[hwl]at hs⊢;exact SlB.cells ⟨hs,by rw[maxLen,hwl];omega⟩⟩
   generalize wdsL g.pts.length D=wd at S hyr hy hbw
   refine S.lit (e:=48) (cs:=[.int .i64 g.pts.length,.slice (some ⟨bw,0,none⟩) ((g.pts.length+63)/64) ((g.pts.length+63)/64)]) (by kernel_rfl) λb13 w16 S=>?_
   refine S.ap (v:=vo) (m':=1) (Sl.blk (S.blk b13)) (λv14 w17 S=>?_) (by omega)
   have S:=(S.drop b13).drop b12
   refine YR (by omega) ?_
   refine hK9 (i+1,v14) _ ⟨s'.or (Go.Sh.one bw (wcs wd) 205),Y++[((g.pts.length:Int),wd)],_,hlt,ha'.or' hbw,(hrow.mono λc x h=>RwbC.up h).snoc rfl hyr,by rw[gla,gls,hYl],hYn _ hy,?_⟩ (by show ls.length-(i+1)<ls.length-i;omega)
   show StX noX w ((r.or s).or (s'.or (Go.Sh.one bw (wcs wd) 205))) w17 [.row v14 48 2 (Y++[((g.pts.length:Int),wd)]).length _]
   rw[gla,gls]
   exact S.less (λb o h=>Or.elim h (λh=>.inl (.inl (.inl h))) λh=>Or.elim h (λh=>.inl (.inl (.inr h))) .inr) (List.Sublist.refl _)
  ·have hie:i=ls.length:=by omega
   obtain⟨s9,S,hs9,_,a9⟩:=S.doneRow hrow (by decide) rfl
   have a9:Above w s9:=λb o ho=>(a9 b o ho).resolve_right id
   have T:StX noX w (r.or ((s.or s').or s9)) w5 []:=S.less (λb o h=>Or.elim h (λh=>.inl (.inl (.inl h))) λh=>Or.elim h (λh=>Or.elim h (λh=>.inl (.inl (.inr h))) λh=>.inl (.inr h)) .inr) (List.nil_sublist _)
   exact h1 vo ((s.or s').or s9) Y w5 T.ext (StX.newOf T ((ha.or' ha').or' a9)) (hs9.up' inferInstance λ_ _ h=>RwbC.up h) (by omega) hY
end
theorem adC{f:AcD→Bool}{fv v:Value}{w:World}{r:Gh}{l:List AcD}{K:Value→World→Prop}(hr:Holds r w)(hl:SlG 4 r (AcG r) v l)(hb:l.length≤1000000000)
  (hf:∀x∈l,∀(c:List Value)(w:World)(K:Value→World→Prop),Holds r w→AcG r c x→(∀w',Ext w w'→K (.bool (f x)) w')→zE Tryz.prog fv #[.agg c.toArray] w K)
  (h:∀(i:Int) w',Ext w w'→(0≤i↔l.any f=true)→K (.int .i64 i) w'):zd Tryz.prog Tryz.yl #[v,fv] w K:=by
 refine Tryz.kO ?_
 unfold Tryz.xb
 obtain⟨p,cap,rfl,_,_⟩:=hl.shape
 have S:=St.start hr
 refine gP_ ?_
 refine zi (ι:=Nat) (λi=>[.int .i64 i]) (λi w'=>i≤l.length∧(l.take i).any f=false∧StX noX w r w' []) (λi=>l.length-i) 0 rfl ⟨gzl _,by simp,S⟩ ?_
 clear S
 rintro i d w' ⟨hi,hn,S⟩ K6 hK6
 simp only[gdz]
 refine gP_ ?_
 refine zj (λhlt=>?_) (λhge=>?_)
 ·have hlt:i<l.length:=by omega
  obtain⟨b,off,c,rfl,hcl,hcR,hcell⟩:=hl.get (by decide) hlt
  have hcR0:=hcR
  obtain⟨vx,rfl,hxs⟩:=hcR
  obtain⟨pw,cw,rfl,_,_⟩:=hxs.sl.shape
  refine gP_ ?_
  refine zo (n:=4) rfl (λj v hj=>by rw[tnc];exact S.at (hcell j v hj)) ?_
  refine hf _ (gem hlt) _ _ _ S.holds hcR0 λw2 e2=>?_
  have S:=S.go e2
  have ht:(l.take (i+1)).any f=((l.take i).any f||f l[i]):=by
   rw[List.take_succ_eq_append_getElem hlt,List.any_append];simp only[List.any_cons,List.any_nil,Bool.or_false]
  refine c_b (λhy=>?_) (λhno=>?_)
  ·exact h _ _ S.ext ⟨λ_=>List.any_eq_true.2 ⟨l[i],gem hlt,hy⟩,λ_=>Int.natCast_nonneg _⟩
  ·refine gP_ ?_
   refine hK6 (i+1) _ ⟨hlt,?_,S⟩ (by omega)
   rw[ht,hn,hno];rfl
 ·have :i=l.length:=by omega
  subst this
  rw[List.take_length]at hn
  exact h _ _ S.ext ⟨λh=>by omega,λh=>by rw[hn]at h;cases h⟩
theorem aaC{f:AcD→Bool}{fv v:Value}{w:World}{r:Gh}{l:List AcD}{K:Value→World→Prop}(hr:Holds r w)(hl:SlG 4 r (AcG r) v l)(hb:l.length≤1000000000)
  (hf:∀x∈l,∀(c:List Value)(w:World)(K:Value→World→Prop),Holds r w→AcG r c x→(∀w',Ext w w'→K (.bool (f x)) w')→zE Tryz.prog fv #[.agg c.toArray] w K)
  (h:∀w',Ext w w'→K (.bool (l.any f)) w'):zd Tryz.prog Tryz.ye #[v,fv] w K:=by
 refine Tryz.ky ?_
 unfold Tryz.yS
 refine adC hr hl hb hf λi w' e hi=>?_
 refine gP_ ?_
 have e2:decide (i≥0)=l.any f:=by
  by_cases hh:l.any f=true
  ·rw[hh];exact gde (hi.2 hh)
  ·rw[Bool.eq_false_iff.2 hh];exact decide_eq_false λh=>hh (hi.1 h)
 rw[e2];exact h _ e
section
variable {u:UnD} {g:GrD} {d:RgD} {e:Int} {ls:List LnD} {b:Nat} {w:World} {r:Gh} {K:Value→World→Prop}
theorem ajg{x:LnD}{a:AcD}{b10 b14:Nat}{c cx:List Value}(hr:Holds r w)(hL:LkG2 r b u g d e ls)(hx:LnG r cx x)(ha:AcG r c a)(h0:0≤x.pl.l)(h1:x.pl.l.toNat<g.tys.length)
  (h10:Ob r λw=>w.cell? ⟨b10,0,none⟩=some (.pointer (some ⟨b,0,none⟩))) (h14:∀j v,cx[j]? = some v→Ob r λw=>w.cell? ⟨b14,j,none⟩=some v) (h:∀w',Ext w w'→K (.bool (jn u g x a)) w'):
  zE Tryz.prog (.func (.func Tryz.X1) #[] #[.pointer (some ⟨b10,0,none⟩),.pointer (some ⟨b14,0,none⟩)]) #[.agg c.toArray] w K:=by
 refine acQ (by kernel_rfl) ?_
 refine Tryz.ach ?_
 unfold Tryz.Qr
 have ha0:=ha
 have hx0:=hx
 obtain⟨va,rfl,has⟩:=ha
 obtain⟨qa,ca,rfl,_,_⟩:=has.sl.shape
 obtain⟨vx,rfl,hxs⟩:=hx
 have S:=St.start hr
 refine S.box λb3 w1 S=>?_
 have S:StX noX w r w1 [.cell b3 [.int .i64 a.pl.l,.slice qa a.pl.ps.length ca,.int .u8 a.d,.bool a.wr] 88]:=S
 refine zf (S.at h10) ?_
 refine zo (n:=5) (c:=[.int .i64 x.q,.int .i64 x.pl.l,vx,.bool x.mu,.int .i64 x.re]) rfl (λj v hj=>by rw[Nat.zero_add];exact S.at (h14 j v hj)) ?_
 refine S.ldB (b:=b3) ?_ rfl
 refine Vz S.holds hL hx0 ha0 h0 h1 λw2 e2=>?_
 exact h _ (S.go e2).ext
theorem alr{p:PtD}(hH:LkH g p):(vw u g p).length≤1000000:=by
 have h1:=ack (l:=p.a::p.b::p.args)
 have h2:=hH.args;have h3:=hH.tys
 have h4:(jo g p).length≤900000:=by
  rw[jo]
  split
  ·simp
  ·split
   ·simp
   ·split
    ·rename_i h14;have:=hH.ret h14;rw[List.length_cons,acl];omega
    ·simp
 have h5:(QP u g p).length≤1:=by rw[QP];split<;>simp
 simp only[List.length_cons]at h1
 rw[vw,gla,gla]
 omega
noncomputable def aez(u:UnD)(g:GrD)(ls:List LnD)(R:List xF)(q n:Nat):Bool:=bit (R.getD n (0,[])).2 q&&(match g.pts[q]?,ls[n]? with|some p,some x=>(vw u g p).any (jn u g x)|_,_=>false)
noncomputable def QQ(u:UnD)(g:GrD)(ls:List LnD)(R:List xF):Option (Nat×Nat):=cls (aez u g ls R) g.pts.length ls.length
theorem afQ{fn:Int}{v:Value}{R:List xF}{vR:Value}(hr:Holds r w)(hu:UnG r v u)(hR:SlG 2 r (RwbC r) vR R)(hf:R.length≤1000000)
  (h0:∀e w',e≠0→(∀g,IsF u fn g→lkE u fn=0→z7 R (lkS u fn g).length g.pts.length=false)→Ext w w'→K (.tuple #[.int .i64 0,.int .i64 0,.bool false,.int .i64 e]) w')
  (h1:∀g,IsF u fn g→lkE u fn=0→z7 R (lkS u fn g).length g.pts.length=true→∀w',Ext w w'→K (.tuple #[.int .i64 (((QQ u g (lkS u fn g) R).getD (0,0)).2:Nat),.int .i64 (((QQ u g (lkS u fn g) R).getD (0,0)).1:Nat),.bool (QQ u g (lkS u fn g) R).isNone,.int .i64 0]) w'):
  zd Tryz.prog Tryz.Yu #[v,.int .i64 fn,vR] w K:=by
 refine Tryz.aes ?_
 unfold Tryz.Vx
 obtain⟨pR,capR,rfl,_,_⟩:=hR.shape
 obtain⟨p0,cap0,vf,rfl,_,_,_,_,_⟩:=id hu
 have S:=St.start hr
 refine S.box λb3 w1 S=>?_
 have S:StX noX w r w1 [.cell b3 [.slice p0 u.ss.length cap0,vf,.int .i64 u.mn] 25]:=S
 refine S.ldB (b:=b3) ?_ rfl
 refine jm S.holds hu (λhi w2 e2=>?_) λhi g b s w2 hg e2 n2 hL=>?_
 ·have S:=S.go e2
  refine gp_ ?_
  refine gp_ ?_
  refine S.al λb10 w3 S=>?_
  refine S.st (b:=b10) (λw4 S=>?_) (by simp) rfl
  refine zn (λx w'=>x=[.int .i64 2]∧w'=w4) (λK3 hK3=>?_) ?_
  ·refine gp_ ?_
   refine c_f rfl ?_
   exact hK3 _ _ ⟨rfl,rfl⟩
  rintro _ _ ⟨rfl,rfl⟩ d
  rw[gdz]
  refine gp_ ?_
  refine c_t rfl ?_
  exact h0 2 _ (by decide) (λg F=>by have:=F.is;rw[hi]at this;cases this) S.ext
 ·obtain⟨S,_,ha⟩:=S.tell e2 n2
  have F:=isF hi hg
  have hlf:(lkS u fn g).length≤1000000:=Nat.le_trans kz (by have:=F.head.pt1024;omega)
  refine gp_ ?_
  refine gp_ ?_
  refine S.al λb10 w3 S=>?_
  refine S.st (b:=b10) (λw4 S=>?_) (by simp) rfl
  have S:StX noX w (r.or s) w4 [.cell b10 [.pointer (some ⟨b,0,none⟩)] 151,.cell b3 [.slice p0 u.ss.length cap0,vf,.int .i64 u.mn] 25]:=S
  refine zn (λx w'=>x=[.int .i64 (if z7 R (lkS u fn g).length g.pts.length=true then lkE u fn else 2)]∧StX noX w (r.or s) w' [.cell b10 [.pointer (some ⟨b,0,none⟩)] 151,.cell b3 [.slice p0 u.ss.length cap0,vf,.int .i64 u.mn] 25]) (λK5 hK5=>?_) ?_
  ·refine gp_ ?_
   refine c_t rfl ?_
   have S:=S.go (Ext.drew _)
   refine S.ld (b:=b10) ?_
   refine S.ld (b:=b10) ?_
   refine VB S.holds hL (hR.up' inferInstance λ_ _ h=>RwbC.up h) hf λw9 e9=>⟨e9,?_⟩
   have S:=S.go e9
   refine xA S.holds hL ?_
   exact hK5 _ _ ⟨rfl,S⟩
  clear S
  rintro _ w8 ⟨rfl,S⟩ d
  rw[gdz]
  refine gp_ ?_
  refine zj (λhne=>?_) (λhe=>?_)
  ·refine h0 _ _ hne (λg' F' hz=>?_) S.ext
   obtain rfl:g'=g:=Option.some.inj (F'.at'.symm.trans hg)
   cases hh:z7 R (lkS u fn g').length g'.pts.length with
   |false=>rfl
   |true=>rw [hh,if_pos rfl]at hne;exact absurd hz hne
  have hgood:z7 R (lkS u fn g).length g.pts.length=true:=by
   cases hh:z7 R (lkS u fn g).length g.pts.length with
   |true=>rfl
   |false=>rw [hh,if_neg (by decide)]at he;exact absurd (show(2:Int)≠0 by decide) he
  have hz:lkE u fn=0:=by rw[hgood,if_pos rfl]at he;omega
  have h1:=h1 g F hz hgood
  rw[hgood,if_pos rfl,hz]
  have hloc:=aip (fn:=fn) F.may F.head F.pts
  generalize lkS u fn g=ls at *
  have hRl:=Jv hgood
  have hn:=F.head.pt1024
  have h10:Ob ((r.or s).or (Go.Sh.one b10 [.pointer (some ⟨b,0,none⟩)] 151)) λw=>w.cell? ⟨b10,0,none⟩=some (.pointer (some ⟨b,0,none⟩)):=xK (i:=0) (c:=[.pointer (some ⟨b,0,none⟩)]) (T:=151) rfl
  have S:=(S.frzAt b10).tl
  have hL:LkG2 ((r.or s).or (Go.Sh.one b10 [.pointer (some ⟨b,0,none⟩)] 151)) b u g (lkR u fn) (lkE u fn) ls:=hL.up
  have hR2:SlG 2 ((r.or s).or (Go.Sh.one b10 [.pointer (some ⟨b,0,none⟩)] 151)) (RwbC ((r.or s).or (Go.Sh.one b10 [.pointer (some ⟨b,0,none⟩)] 151))) (.slice pR R.length capR) R:=hR.up' inferInstance λ_ _ h=>RwbC.up (RwbC.up (s:=r.or s) h)
  generalize ((r.or s).or (Go.Sh.one b10 [.pointer (some ⟨b,0,none⟩)] 151))=r' at S h10 hL hR2
  obtain⟨pl,cl,hlc,hls⟩:=id hL.lns
  obtain⟨pp,cpp,hpc,hps⟩:=id hL.pts
  refine zn (λx w'=>x=[.int .i64 (((QQ u g ls R).getD (0,0)).2:Nat),.int .i64 (((QQ u g ls R).getD (0,0)).1:Nat),.bool (QQ u g ls R).isSome]∧Ext w w') (λK11 hK11=>?_) ?_
  ·refine zf (S.at h10) ?_
   refine gg_ ?_
   refine zf (S.at hpc) ?_
   refine gg_ ?_
   refine zi (ι:=Nat) (λi=>[.int .i64 0,.int .i64 0,.bool false,.int .i64 (i:Nat)]) (λi w'=>i≤g.pts.length∧(∀y<i,∀n<ls.length,aez u g ls R y n=false)∧StX noX w r' w' []) (λi=>g.pts.length-i) 0 rfl ⟨gzl _,λy hy=>absurd hy (Nat.not_lt_zero _),S⟩ ?_
   clear S
   rintro i d0 w9 ⟨hi,hno,S⟩ K15 hK15
   simp only[gdz,gds]
   refine gg_ ?_
   refine zj (λhlt=>?_) (λhge=>?_)
   ·have hlt:i<g.pts.length:=by omega
    have hpg:=F.pts _ (gem hlt)
    have hH:=akj F.may F.head hpg
    have hAf:=alr (u:=u) hH
    refine zf (S.at h10) ?_
    refine n_some ?_
    refine gg_ ?_
    refine zf (S.at hlc) ?_
    refine gg_ ?_
    refine zi (ι:=Value×Nat) (λi=>[.int .i64 0,.int .i64 0,.bool false,i.1,.int .i64 (i.2:Nat)]) (λj w'=>∃sL,(j.1=.slice none 0 0∨SlG 4 sL (AcG sL) j.1 (vw u g g.pts[i]))∧j.2≤ls.length∧(∀n<j.2,aez u g ls R i n=false)∧StX noX w (r'.or sL) w' []) (λj=>ls.length-j.2) (.slice none 0 0,0) rfl
     ⟨nothing,.inl rfl,gzl _,λn hn=>absurd hn (Nat.not_lt_zero _),S.less (λb o h=>Or.elim h id λh=>h.elim) (List.Sublist.refl _)⟩ ?_
    clear S
    rintro⟨vl,j⟩ d1 w10 ⟨sL,hvl,hj,hnj,S⟩ K19 hK19
    simp only at hvl hj hnj S⊢
    simp only[gdz,gds]
    refine gg_ ?_
    refine zj (λhltj=>?_) (λhgej=>?_)
    ·have hltj:j<ls.length:=by omega
     obtain⟨bo,oo,co,hqo,hcl,hoc,hoo⟩:=hls.get (by decide) hltj
     have hxl:=hloc _ (gem hltj)
     have hjR:j<R.length:=by have:=hRl.1;omega
     have hNj:aez u g ls R i j=(bit R[j].2 i&&(vw u g g.pts[i]).any (jn u g ls[j])):=by
      rw[aez,gqg hlt,gqg hltj,ggd,gqg hjR];rfl
     obtain⟨br,or',cr,hqr,hclr,hrc,hro⟩:=hR2.get (by decide) hjR
     have hRx:=hRl.2 _ hjR
     generalize ls[j]=x at hoc hxl hNj
     generalize R[j]=y0 at hrc hRx hNj
     obtain⟨W,ws⟩:=y0
     obtain⟨hWe,hmay⟩:=hRx
     have hWe:W=(g.pts.length:Int):=hWe
     have hmay:BM.May W ws:=hmay
     have hm1:=hmay.1;have hm2:=hmay.2.1;have hm3:=hmay.2.2.1
     simp only at hNj
     have hoc0:=hoc
     obtain⟨vx,rfl,hxs⟩:=hoc
     obtain⟨qx,cx,rfl,_,_⟩:=hxs.sl.shape
     have hrc0:=hrc
     obtain⟨pw',cw,rfl,hws'⟩:=hrc
     rw[hqo]
     cases hqr
     refine zn (λy w'=>∃vl' sL',y=[.int .i64 0,.int .i64 0,.bool false,vl']∧(vl'=.slice none 0 0∨SlG 4 sL' (AcG sL') vl' (vw u g g.pts[i]))∧aez u g ls R i j=false∧StX noX w (r'.or sL') w' []) (λK23 hK23=>?_) ?_
     ·refine gg_ ?_
      refine zo (n:=5) rfl (λj v hj=>by rw[tnc];exact S.at (Ob.up (s:=r'.or sL) (hoo j v hj))) ?_
      refine S.al λb14 w11 S=>?_
      refine S.stB (b:=b14) λw12 S=>?_
      have S:StX noX w (r'.or sL) w12 [.cell b14 [.int .i64 x.q,.int .i64 x.pl.l,.slice qx x.pl.ps.length cx,.bool x.mu,.int .i64 x.re] 82]:=S
      refine gg_ ?_
      refine zo (n:=2) rfl (λj v hj=>by rw[tnc];exact S.at (Ob.up (s:=r'.or sL) (hro j v hj))) ?_
      refine jH S.holds (RwbC.up hrc0) (Int.natCast_nonneg i) (by omega) (by omega) λw13 e13=>?_
      have S:=S.go e13
      rw[tnc]
      refine gp_ ?_
      refine c_b (λhnb=>?_) (λhb=>?_)
      ·have hnb:bit ws i=false:=by simpa using hnb
       exact hK23 _ _ ⟨vl,sL,rfl,hvl,by rw[hNj,hnb,Bool.false_and],S.tl⟩
      have hb:bit ws i=true:=by simpa using hb
      rw[hb,Bool.true_and]at hNj
      have S:=S.frzAt b14
      have h14:∀j v,[Value.int .i64 x.q,.int .i64 x.pl.l,.slice qx x.pl.ps.length cx,.bool x.mu,.int .i64 x.re][j]? = some v→Ob ((r'.or sL).or (Go.Sh.one b14 [.int .i64 x.q,.int .i64 x.pl.l,.slice qx x.pl.ps.length cx,.bool x.mu,.int .i64 x.re] 82)) λw=>w.cell? ⟨b14,j,none⟩=some v:=λj v hj=>xK (i:=j) (c:=[.int .i64 x.q,.int .i64 x.pl.l,.slice qx x.pl.ps.length cx,.bool x.mu,.int .i64 x.re]) (T:=82) hj
      have le1:Le r' ((r'.or sL).or (Go.Sh.one b14 [.int .i64 x.q,.int .i64 x.pl.l,.slice qx x.pl.ps.length cx,.bool x.mu,.int .i64 x.re] 82)):=inferInstance
      have le3:Le sL ((r'.or sL).or (Go.Sh.one b14 [.int .i64 x.q,.int .i64 x.pl.l,.slice qx x.pl.ps.length cx,.bool x.mu,.int .i64 x.re] 82)):=inferInstance
      generalize ((r'.or sL).or (Go.Sh.one b14 [.int .i64 x.q,.int .i64 x.pl.l,.slice qx x.pl.ps.length cx,.bool x.mu,.int .i64 x.re] 82))=r2 at S h14 le1 le3
      refine zn (λy w'=>∃vl' sL',y=[vl']∧SlG 4 sL' (AcG sL') vl' (vw u g g.pts[i])∧StX noX w (r2.or sL') w' []) (λK30 hK30=>?_) ?_
      ·have hsh:∃p n cap,vl=.slice p n cap:=by
        rcases hvl with rfl|hs
        ·exact⟨_,_,_,rfl⟩
        ·obtain⟨p,cap,rfl,_,_⟩:=hs.shape;exact⟨_,_,_,rfl⟩
       obtain⟨pv,nv,cv',rfl⟩:=hsh
       refine Jz (e:=88) (n:=4) (by kernel_rfl) ?_
       refine c_b (λhnil=>?_) (λhnn=>?_)
       ·refine zf (S.at (h10.up (s:=r2))) ?_
        refine aaA S.holds (LkG2.up hL) (Int.natCast_nonneg i) hlt rfl hH λv' s9 w15 e15 n15 hs=>?_
        obtain⟨S,_,_⟩:=S.tell e15 n15
        exact hK30 _ _ ⟨v',s9,rfl,hs,S⟩
       ·rcases hvl with hv|hs
        ·cases hv;cases hnn
        ·exact hK30 _ _ ⟨_,sL,rfl,hs,S.less (λb o h=>Or.elim h id (le3.le b o)) (List.Sublist.refl _)⟩
      ·clear S
       rintro _ w15 ⟨vl',sL',rfl,hs,S⟩ d
       rw[gdz]
       refine gp_ ?_
       refine aaC (f:=jn u g x) S.holds (hs.up' inferInstance λ_ _ h=>AcG.up h) (by omega) (λa _ c w K hr hc hK=>?_) λw17 e17=>?_
       ·have hL3:LkG2 (r2.or sL') b u g (lkR u fn) (lkE u fn) ls:=LkG2.up (LkG2.up (s:=r2) hL)
        have hx3:LnG (r2.or sL') [.int .i64 x.q,.int .i64 x.pl.l,.slice qx x.pl.ps.length cx,.bool x.mu,.int .i64 x.re] x:=LnG.up (LnG.up (s:=r2) hoc0)
        exact ajg hr hL3 hx3 hc hxl.1 hxl.2 (Ob.up (h10.up (s:=r2))) (λj v hj=>Ob.up (h14 j v hj)) hK
       have S:=S.go e17
       refine c_b (λhy=>?_) (λhn'=>?_)
       ·have hb2:QQ u g ls R=some (i,j):=aj7 hlt hltj hno hnj (by rw[hNj,hy])
        rw[hb2]at hK11
        exact hK11 _ _ ⟨rfl,S.ext⟩
       ·exact hK23 _ _ ⟨vl',sL',rfl,.inr hs,by rw[hNj,hn'],S.less (λb o h=>Or.elim h (λh=>.inl (le1.le b o h)) .inr) (List.Sublist.refl _)⟩
     ·clear S
      rintro _ w16 ⟨vl',sL',rfl,hvl',hf',S⟩ d
      simp only[gdz,gds]
      refine YR (by omega) ?_
      refine hK19 (vl',j+1) _ ⟨sL',hvl',hltj,λn hn=>?_,S⟩ (by show ls.length-(j+1)<ls.length-j;omega)
      by_cases hnj2:n=j
      ·subst hnj2;exact hf'
      ·exact hnj n (by show n<j;have :n<j+1:=hn;omega)
    ·have hje:j=ls.length:=by omega
     subst hje
     refine YR (by omega) ?_
     refine hK15 (i+1) _ ⟨hlt,λy hy n hn=>?_,S.less (λb o h=>.inl h) (List.Sublist.refl _)⟩ (by omega)
     by_cases hyi:y=i
     ·subst hyi;exact hnj n hn
     ·exact hno y (by omega) n hn
   ·have hie:i=g.pts.length:=by omega
    subst hie
    have hb:QQ u g ls R=none:=amo hno
    rw[hb]at hK11
    exact hK11 _ _ ⟨rfl,S.ext⟩
  ·clear S
   rintro _ w14 ⟨rfl,e14⟩ d
   simp only[gdz,gds]
   refine gp_ ?_
   have:=h1 w14 e14
   cases hb:QQ u g ls R with
   |none=>rw [hb]at this;exact this
   |some a=>rw [hb]at this;exact this
end
end
end Go.Proofs
namespace Go.Proofs
open Go.Sh
theorem VC{u:UnD}{n:Int}{p:PlD}{c:List Value}{v:Value}{w:World}{r:Gh}{K:Value→World→Prop}(hr:Holds r w)(hu:UnG r v u)(hM:MayU u)(hn0:0≤n)(hlt:n.toNat<u.fs.length)(hp:PlG r c p)
  (hN:∀w',(zk u.ss u.fs[n.toNat].tys p).2.2=false→Ext w w'→K (.tuple #[af0,.slice none 0 0,.bool false]) w')
  (hS:∀t m v' vg s w',zk u.ss u.fs[n.toNat].tys p=(t,m,true)→Ext w w'→New w s w'→TyG (r.or s) v' t→(∃how,SlG 1 s yN vg how∧zD u.ss p.ps (u.fs[n.toNat].tys.getD p.l.toNat zF)=some (t,how))→K (.tuple #[v',vg,.bool true]) w'):zd Tryz.prog Tryz.qu #[v,.int .i64 n,.agg c.toArray] w K:=by
 refine Tryz.aee ?_
 unfold Tryz.Vp
 have hu0:=hu
 obtain⟨p0,cap0,vf,rfl,_,_,hst,hsl,hfn⟩:=hu
 obtain⟨qf,capf,rfl,_,_⟩:=hfn.sl.shape
 obtain⟨bf,of,cf,rfl,hcf,hgc,hfo⟩:=hfn.sl.get (by decide) hlt
 have hff:=(hM.hd hlt).fine hM.ok
 generalize u.fs[n.toNat]=g at hN hS hgc hff
 obtain⟨x1,x2,x3,x4,y1,y2,y3,y4,rfl,hg0⟩:=aeb hgc
 have hp0:=hp
 obtain⟨vp,rfl,hvp⟩:=hp
 obtain⟨qs,caps,rfl,_,_⟩:=hvp.sl.shape
 have S:=St.start hr
 refine S.box λb3 w1 S=>?_
 have S:StX noX w r w1 [.cell b3 [.slice p0 u.ss.length cap0,.slice (some ⟨bf,of,none⟩) u.fs.length capf,.int .i64 u.mn] 25]:=S
 refine S.box λb5 w2 S=>?_
 refine S.al λb6 w3 S=>?_
 have S:=S.go (Ext.drew _)
 refine S.ldB (b:=b3) ?_ rfl
 refine gg_ ?_
 refine zo (n:=7) hcf (λj v hj=>S.at (hfo j v hj)) ?_
 refine zq (cs:=(asL u g p0 cap0 (some ⟨bf,of,none⟩) capf x1 y1 x2 y2 x3 y3 x4 y4).toArray) (by kernel_rfl) ?_
 refine S.box λb17 w4 S=>?_
 have S:StX noX w r w4 [.cell b17 (asL u g p0 cap0 (some ⟨bf,of,none⟩) capf x1 y1 x2 y2 x3 y3 x4 y4) 170,.cell b6 qX 43,.cell b5 [.int .i64 p.l,.slice qs p.ps.length caps] 80,.cell b3 [.slice p0 u.ss.length cap0,.slice (some ⟨bf,of,none⟩) u.fs.length capf,.int .i64 u.mn] 25]:=S
 refine S.ldB (b:=b5) ?_ rfl
 have hm:=S.mine (.cell b17 (asL u g p0 cap0 (some ⟨bf,of,none⟩) capf x1 y1 x2 y2 x3 y3 x4 y4) 170) (by simp) b17 rfl
 have S:=S.frzAt b17
 have hA:AsP (r.or (Go.Sh.one b17 (asL u g p0 cap0 (some ⟨bf,of,none⟩) capf x1 y1 x2 y2 x3 y3 x4 y4) 170)) b17 u g:=⟨_,_,_,_,_,_,_,_,_,_,_,_,xc.up,hu0.up,hg0.up⟩
 refine Zq S.holds hA hM.ok hff hp0.up (λw5 hno e5=>?_) λt how q cap vg s w5 hsp e5 n5 ht hvg _ hw=>?_
 ·have S:=S.go e5
  refine gS_ ?_
  refine S.stB (b:=b6) λw6 S=>?_
  refine S.ceB (b:=b6) ?_ rfl
  exact hN _ hno S.ext
 ·obtain⟨S,_,a5⟩:=S.tell e5 n5
  obtain⟨_,_,rfl,_,_⟩:=hvg.shape
  refine gS_ ?_
  refine S.stB (b:=b6) λw6 S=>?_
  refine S.ceB (b:=b6) ?_ rfl
  have S:=S.less (q:=r.or ((Go.Sh.one b17 (asL u g p0 cap0 (some ⟨bf,of,none⟩) capf x1 y1 x2 y2 x3 y3 x4 y4) 170).or s)) (λb o h=>Or.elim h (λh=>.inl (.inl h)) λh=>Or.elim h (λh=>.inl (.inr h)) .inr) (List.Sublist.refl _)
  refine hS t _ _ _ _ _ hsp S.ext (S.newOf (Above.or' ?_ a5)) (TyG.up (l:=⟨λb o h=>Or.elim h .inl λh=>.inr (.inl h)⟩) ht) ⟨how,hvg.cells,hw.2⟩
  rintro b o ⟨rfl,_⟩
  exact hm.1.resolve_right id
end Go.Proofs
namespace Go.Proofs
open Go.Sh Go.RowKit
theorem ams{g:GrD}{f:Nat→Int}{i:Nat}(hi:i<g.pts.length):J4 g f i=if g.pts[i].op=4 then [⟨(i:Int),g.pts[i].fr,g.pts[i].mu,f i⟩]else []:=by
 rw[J4,gqg hi]
theorem ah4{u:UnD}{fn:Int}{g:GrD}{v vd:Value}{w:World}{r:Gh}{K:Value→World→Prop}(hr:Holds r w)(hu:UnG r v u)(F:IsF u fn g)(he:lkE u fn=0)(hd:RgG r vd (lkR u fn))
  (h:∀v' s w',Ext w w'→New w s w'→SlG 5 s (LnG s) v' (lkS u fn g)→K v' w'):zd Tryz.prog Tryz.Qz #[v,.int .i64 fn,vd] w K:=by
 refine Tryz.ahg ?_
 unfold Tryz.abv
 obtain⟨p0,cap0,vf,rfl,_,_,hst,hsl,hfn⟩:=id hu
 obtain⟨qf,capf,rfl,_,_⟩:=hfn.sl.shape
 obtain⟨q1,c1,q2,c2,rfl,g1,g2⟩:=hd.shape
 have hge:=F.at'
 obtain⟨hlt,hge⟩:=List.getElem?_eq_some_iff.1 hge
 have hfn0:=F.fn0
 obtain⟨bg,og,cg,hqg,hclg,hgc,hgo⟩:=hfn.sl.get (by decide) hlt
 rw[hge]at hgc
 obtain⟨x1,x2,x3,x4,y1,y2,y3,y4,rfl,hgc0⟩:=aeb hgc
 obtain⟨_,_,_,_,hE,m1,m2,m3,m4⟩:=id hgc0
 cases hE
 cases hqg
 have hS:lkS u fn g=lnsI g (reF (lkR u fn) (lkE u fn)) g.pts.length:=rfl
 have hatl:(lkR u fn).at'.length=g.pts.length:=by rw[akn F he];exact(ZT).2
 have hff:∀i (h:i<(lkR u fn).at'.length),reF (lkR u fn) (lkE u fn) i=(lkR u fn).at'[i]:=λi h=>by rw[reF,if_pos he,atL,tnc,ggd,gqg h];rfl
 have hfr:∀p∈g.pts,p.op=4→p.fr.ps.length≤8:=λp hp ho=>qi (J0 (F.pts p hp) (.inl ho))
 have hpl:=F.head.pt1024
 rw[hS]at h
 generalize reF (lkR u fn) (lkE u fn)=f at hff h
 generalize lkR u fn=d at hff hatl g1 g2 hd
 have S:=St.start hr
 refine S.box λb3 w1 S=>?_
 refine S.box λb5 w2 S=>?_
 have S:StX noX w r w2 [.cell b5 (rgL d.lv d.pt d.ct (.slice q1 d.tys.length c1) (.slice q2 d.at'.length c2)) 74,.cell b3 [.slice p0 u.ss.length cap0,.slice (some ⟨bg,og,none⟩) u.fs.length capf,.int .i64 u.mn] 25]:=S
 refine gg_ ?_
 refine zo (n:=7) rfl (λj v hj=>S.at (hgo j v hj)) ?_
 refine S.al λb8 w3 S=>?_
 refine S.stB (b:=b8) λw4 S=>?_
 have S:StX noX w r w4 [.cell b8 (grL g x1 x2 x3 x4 y1 y2 y3 y4) 101,.cell b5 (rgL d.lv d.pt d.ct (.slice q1 d.tys.length c1) (.slice q2 d.at'.length c2)) 74,.cell b3 [.slice p0 u.ss.length cap0,.slice (some ⟨bg,og,none⟩) u.fs.length capf,.int .i64 u.mn] 25]:=S
 have S:=S.ownNil 82 5
 refine zi (ι:=Nat×Value) (λi=>[i.2,.int .i64 (i.1:Nat)]) (λi w'=>∃s cs,i.1≤g.pts.length∧Above w s∧RowOf 5 (LnG s) cs (lnsI g f i.1)∧StX noX w (r.or s) w' [.row i.2 82 5 (lnsI g f i.1).length cs,.cell b8 (grL g x1 x2 x3 x4 y1 y2 y3 y4) 101,.cell b5 (rgL d.lv d.pt d.ct (.slice q1 d.tys.length c1) (.slice q2 d.at'.length c2)) 74,.cell b3 [.slice p0 u.ss.length cap0,.slice (some ⟨bg,og,none⟩) u.fs.length capf,.int .i64 u.mn] 25]) (λi=>g.pts.length-i.1) (0,.slice none 0 0) rfl
  ⟨nothing,[],gzl _,Above.no,RowOf.nil,S.less (λb o h=>Or.elim h id λh=>h.elim) (List.Sublist.refl _)⟩ ?_
 repeat clear S
 rintro⟨i,vo⟩ d0 w5 ⟨s,cs,hi,ha,hrow,S⟩ K5 hK5
 simp only at hi S⊢
 simp only[gdz,gds]
 refine gg_ ?_
 refine zj (λhlti=>?_) (λhge'=>?_)
 ·have hlti:i<g.pts.length:=by omega
  have hnx:=Qs (g:=g) (f:=f) (i:=i)
  rw[ams hlti]at hnx
  have hfl:=kz (g:=g) (f:=f) (i:=i)
  obtain⟨bo,oo,co,hqo,hcl,hoc,hoo⟩:=m4.sl.get (by decide) hlti
  have hfrp:=hfr _ (gem hlti)
  generalize g.pts[i]=p at hoc hnx hfrp
  obtain⟨z1,z2,z3,z4,z5,t1,t2,t3,t4,t5,rfl,hp0⟩:=xQ hoc
  obtain⟨kto,ka,kb,kl,kf⟩:=XI hp0
  have hati:i<d.at'.length:=by omega
  obtain⟨ba,oa,rfl,_,hca⟩:=xR g2 hati
  have hfi:=hff i hati
  rw[← hfi]at hca
  cases hqo
  refine zn (λx w'=>∃vo' s' cs',x=[vo']∧Above w s'∧RowOf 5 (LnG s') cs' (lnsI g f (i+1))∧StX noX w (r.or s') w' [.row vo' 82 5 (lnsI g f (i+1)).length cs',.cell b8 (grL g x1 x2 x3 (some ⟨bo,oo,none⟩) y1 y2 y3 y4) 101,.cell b5 (rgL d.lv d.pt d.ct (.slice q1 d.tys.length c1) (.slice (some ⟨ba,oa,none⟩) d.at'.length c2)) 74,.cell b3 [.slice p0 u.ss.length cap0,.slice (some ⟨bg,og,none⟩) u.fs.length capf,.int .i64 u.mn] 25]) (λK9 hK9=>?_) ?_
  ·refine gg_ ?_
   refine zo (n:=21) rfl (λj v hj=>by rw[tnc];exact S.at (Ob.up (s:=r.or s) (hoo j v hj))) ?_
   refine S.al λb10 w7 S=>?_
   refine S.stB (b:=b10) λw8 S=>?_
   have S:StX noX w (r.or s) w8 (.cell b10 (ptL p z1 z2 z3 z4 z5 t1 t2 t3 t4 t5) 96::[.row vo 82 5 (lnsI g f i).length cs,.cell b8 (grL g x1 x2 x3 (some ⟨bo,oo,none⟩) y1 y2 y3 y4) 101,.cell b5 (rgL d.lv d.pt d.ct (.slice q1 d.tys.length c1) (.slice (some ⟨ba,oa,none⟩) d.at'.length c2)) 74,.cell b3 [.slice p0 u.ss.length cap0,.slice (some ⟨bg,og,none⟩) u.fs.length capf,.int .i64 u.mn] 25]):=S
   refine gg_ ?_
   refine zj (λh4=>?_) (λh4=>?_)
   ·have S:=S.go (Ext.drew _)
    refine gg_ ?_
    refine zf (by rw[tnc];exact S.at (Ob.up (s:=r.or s) hca)) ?_
    refine gp_ ?_
    refine S.alU λb11 w9 S=>?_
    refine S.stB (b:=b11) λw10 S=>?_
    have S:StX noX w (r.or s) w10 (.cell b11 [.int .i64 (i:Nat),.int .i64 0,.slice none 0 0,.bool p.mu,.int .i64 (f i)] 82::.cell b10 (ptL p z1 z2 z3 z4 z5 t1 t2 t3 t4 t5) 96::[.row vo 82 5 (lnsI g f i).length cs,.cell b8 (grL g x1 x2 x3 (some ⟨bo,oo,none⟩) y1 y2 y3 y4) 101,.cell b5 (rgL d.lv d.pt d.ct (.slice q1 d.tys.length c1) (.slice (some ⟨ba,oa,none⟩) d.at'.length c2)) 74,.cell b3 [.slice p0 u.ss.length cap0,.slice (some ⟨bg,og,none⟩) u.fs.length capf,.int .i64 u.mn] 25]):=S
    refine gg_ ?_
    refine S.st (b:=b11) (λw11 S=>?_) (by simp) rfl
    have S:StX noX w (r.or s) w11 (.cell b11 [.int .i64 (i:Nat),.int .i64 p.fr.l,.slice none 0 0,.bool p.mu,.int .i64 (f i)] 82::.cell b10 (ptL p z1 z2 z3 z4 z5 t1 t2 t3 t4 t5) 96::[.row vo 82 5 (lnsI g f i).length cs,.cell b8 (grL g x1 x2 x3 (some ⟨bo,oo,none⟩) y1 y2 y3 y4) 101,.cell b5 (rgL d.lv d.pt d.ct (.slice q1 d.tys.length c1) (.slice (some ⟨ba,oa,none⟩) d.at'.length c2)) 74,.cell b3 [.slice p0 u.ss.length cap0,.slice (some ⟨bg,og,none⟩) u.fs.length capf,.int .i64 u.mn] 25]):=S
    refine gg_ ?_
    obtain⟨_,hEf,hfs⟩:=id kf
    cases hEf
    have hin:=ahi hfs
    obtain⟨_,_,hE5,hq5,_⟩:=hfs.sl.shape
    cases hE5
    have hf8:=hfrp h4
    have S:=S.ownNil 84 1
    refine S.ap (v:=.slice none 0 0) (S.at (Ob.up (s:=r.or s) (agV hfs))) (λv2 w12 S=>?_) (by omega) (by rw[ym];omega) hq5 (aeN _)
    rw[List.nil_append,Nat.zero_add]at S
    obtain⟨qn,cn,rfl,_⟩:=S.rowS v2
    refine gg_ ?_
    refine S.st (b:=b11) (λw13 S=>?_) (by simp) rfl
    obtain⟨s1,S,h1,_,a1⟩:=StX.doneRow (l:=p.fr.ps) (R:=xE) (sz:=1) S (aae hin) (by decide) rfl
    have a1:Above w s1:=λb o ho=>(a1 b o ho).resolve_right id
    have h1:SlB 1 s1 xE (.slice qn p.fr.ps.length cn) p.fr.ps:=SlB.cells ⟨h1,by rw[maxLen];omega⟩
    have S:StX noX w (r.or (s.or s1)) w13 (.cell b11 [.int .i64 (i:Nat),.int .i64 p.fr.l,.slice qn p.fr.ps.length cn,.bool p.mu,.int .i64 (f i)] 82::.cell b10 (ptL p z1 z2 z3 z4 z5 t1 t2 t3 t4 t5) 96::[.row vo 82 5 (lnsI g f i).length cs,.cell b8 (grL g x1 x2 x3 (some ⟨bo,oo,none⟩) y1 y2 y3 y4) 101,.cell b5 (rgL d.lv d.pt d.ct (.slice q1 d.tys.length c1) (.slice (some ⟨ba,oa,none⟩) d.at'.length c2)) 74,.cell b3 [.slice p0 u.ss.length cap0,.slice (some ⟨bg,og,none⟩) u.fs.length capf,.int .i64 u.mn] 25]):=S.reGh
    refine S.ldB (b:=b11) ?_ rfl
    refine S.lit (e:=82) (cs:=[.int .i64 (i:Nat),.int .i64 p.fr.l,.slice qn p.fr.ps.length cn,.bool p.mu,.int .i64 (f i)]) (by kernel_rfl) λb12 w14 S=>?_
    refine S.ap (v:=vo) (m':=1) (Sl.blk (S.blk b12)) (λv15 w15 S=>?_) (by omega)
    have S:=((S.drop b12).drop b11).drop b10
    rw[if_pos h4]at hnx
    refine hK9 _ _ ⟨v15,s.or s1,cs++[.int .i64 (i:Nat),.int .i64 p.fr.l,.slice qn p.fr.ps.length cn,.bool p.mu,.int .i64 (f i)],rfl,ha.or' a1,?_,?_⟩
    ·rw[hnx]
     exact(hrow.mono λc x h=>LnG.up h).snoc rfl ⟨_,rfl,h1.up' inferInstance λ_ _ h=>h⟩
    ·rw[hnx,gla,gls]
     exact S
   ·rw[if_neg h4,List.append_nil]at hnx
    refine hK9 _ _ ⟨vo,s,cs,rfl,ha,by rw[hnx];exact hrow,?_⟩
    rw[hnx];exact S.tl
  ·repeat clear S
   rintro _ w20 ⟨vo',s',cs',rfl,ha',hrow',S⟩ d1
   simp only[gdz]
   refine YR (by omega) ?_
   exact hK5 (i+1,vo') _ ⟨s',cs',hlti,ha',hrow',S⟩ (by show g.pts.length-(i+1)<g.pts.length-i;omega)
 ·have hie:i=g.pts.length:=by omega
  subst hie
  obtain⟨s9,S,hs9,_,a9⟩:=S.doneRow hrow (by decide) rfl
  have a9:Above w s9:=λb o ho=>(a9 b o ho).resolve_right id
  have T:StX noX w (r.or (s.or s9)) w5 []:=S.reGh.less (λb o h=>h) (List.nil_sublist _)
  exact h vo (s.or s9) w5 T.ext (StX.newOf T (ha.or' a9)) (hs9.up' inferInstance λ_ _ h=>LnG.up h)
end Go.Proofs
namespace Go.Proofs
open Go.Sh Go.RowKit Go.BM
def aaD(g:GrD)(x:LnD)(ws rs:List (BitVec 64)):Prop:=
 (∀p∈xi g x.q,bit ws p.toNat=true→bit rs p.toNat=true)∧∀q:Int,0≤q→q<g.pts.length→bit rs q.toNat=true→qm g x q=false→∀p∈xi g q,bit ws p.toNat=true→bit rs p.toNat=true
end Go.Proofs
namespace Go.Sh
theorem StX.any{X:Nat→Prop}{w0 w:World}{r:Gh}{L:List Asr}(S:StX X w0 r w L):∃σ,σ=r∧StX X w0 σ w L:=⟨r,rfl,S⟩
end Go.Sh
namespace Go.Proofs.Tryz
open Go.Sh
section
variable {w:World} {K:VW} {t0:Value}
def Yl(t0 t1 t2 t3:Value)(w:World)(K:VW):Prop:=
 pw w (Instr.box 25 t0) λt4 w1=>
 pw w1 (Instr.box 88 t3) λt7 w2=>
 lo w2 25 t4 λt18=>ca Xo #[t18] w2 λt19 w3=>
 pp (Op.unary .not t19) λt20=>za (λK4=>gIf t20 false (pf 88 t7 0 λt22=>fl w3 t22 80 1 78 λt24=>pp (Builtin.len_ #[78] 3 #[t24]) λt25=>bt .gtr 3 t25 (i6 40) λt26=>K4 [t26] w3) (K4 [u_] w3)) (λs5 _d6 w7=>
 zb t20 tr_ (s5.getD 0 u_) λt27=>zc t27 (ca xe #[] w7 λt28 w8=>
 K t28 w8) (lo w7 25 t4 λt30=>lo w7 88 t7 λt33=>ca j7 #[t30,t1,t2,t33] w7 λt34 w9=>
 pe t34 0 λt35=>pe t34 1 λt36=>lo w9 25 t4 λt38=>ca JD #[t38,t1,(i6 (-1))] w9 λt40 w10=>
 pe t40 0 λt41=>pe t40 1 λt42=>pw w10 (Instr.alloc 74 true (.tuple #[])) λt11 w11=>
 so w11 74 t11 t41 λw12=>bt .eql 3 t42 (i6 2) λt44=>zc t44 (pp (Op.unary .not t35) λt46=>za (λK13=>gIf t46 true (bt .eql 29 t36 (i6 2) λt49=>K13 [t49] w12) (K13 [u_] w12)) (λs14 _d15 w16=>
 zb t46 (s14.getD 0 u_) fa_ λt50=>za (λK17=>gIf t50 true (ca xe #[] w16 λt52 w21=>
 K17 [t52] w21) (K17 [u_] w16)) (λs18 _d19 w20=>
 zb t50 (s18.getD 0 u_) fa_ λt53=>K t53 w20))) (lo w12 25 t4 λt55=>fl w12 t7 88 0 80 λt58=>ca qu #[t55,t1,t58] w12 λt59 w22=>
 pe t59 0 λt60=>pe t59 1 λ_t61=>pe t59 2 λt62=>pw w22 (Instr.alloc 43 true (.tuple #[])) λt13 w23=>
 so w23 43 t13 t60 λw24=>zp [(i6 0),(i6 0)] w24 (λs26 _d27 w28 K25=>
 fl w28 t4 25 1 23 λt65=>px 23 t65 t1 λt67=>fl w28 t67 101 6 99 λt69=>pp (Builtin.len_ #[99] 3 #[t69]) λt70=>bf .lss 3 (s26.getD 1 u_) t70 λt71=>zc t71 (za (λK29=>
 fl w28 t4 25 1 23 λt75=>px 23 t75 t1 λt77=>fl w28 t77 101 6 99 λt79=>px 99 t79 (s26.getD 1 u_) λt81=>fl w28 t81 96 0 90 λt83=>bt .eql 90 t83 (Value.int .u8 4) λt84=>zc t84 (bt .add 3 (s26.getD 0 u_) (i6 1) λt86=>K29 [t86] w28) (K29 [(s26.getD 0 u_)] w28)) (λs30 _d31 w32=>
 bt .add 3 (s26.getD 1 u_) (i6 1) λt73=>K25 [(s30.getD 0 u_),t73] w32)) (pp (Op.unary .not t62) λt88=>za (λK33=>gIf t88 false (fl w28 t7 88 1 86 λt91=>bt .lss 86 t91 (Value.int .u8 1) λt92=>K33 [t92] w28) (K33 [u_] w28)) (λs34 _d35 w36=>
 zb t88 tr_ (s34.getD 0 u_) λt93=>za (λK37=>gIf t93 false (fl w36 t7 88 1 86 λt96=>bt .gtr 86 t96 (Value.int .u8 3) λt97=>K37 [t97] w36) (K37 [u_] w36)) (λs38 _d39 w40=>
 zb t93 tr_ (s38.getD 0 u_) λt98=>za (λK41=>gIf t98 false (bt .lss 3 t2 (i6 0) λt101=>K41 [t101] w40) (K41 [u_] w40)) (λs42 _d43 w44=>
 zb t98 tr_ (s42.getD 0 u_) λt102=>za (λK45=>gIf t102 false (bf .geq 3 t2 (s26.getD 0 u_) λt106=>K45 [t106] w44) (K45 [u_] w44)) (λs46 _d47 w48=>
 zb t102 tr_ (s46.getD 0 u_) λt107=>zc t107 (pp (Op.unary .not t35) λt109=>za (λK49=>gIf t109 true (bt .eql 29 t36 (i6 2) λt112=>K49 [t112] w48) (K49 [u_] w48)) (λs50 _d51 w52=>
 zb t109 (s50.getD 0 u_) fa_ λt113=>za (λK53=>gIf t113 true (ca xe #[] w52 λt115 w57=>
 K53 [t115] w57) (K53 [u_] w52)) (λs54 _d55 w56=>
 zb t113 (s54.getD 0 u_) fa_ λt116=>K t116 w56))) (bt .neq 3 t42 (i6 0) λt118=>zc t118 (pp (Op.unary .not t35) λt120=>za (λK58=>gIf t120 true (bf .eql 3 t36 t42 λt124=>K58 [t124] w48) (K58 [u_] w48)) (λs59 _d60 w61=>
 zb t120 (s59.getD 0 u_) fa_ λt125=>za (λK62=>gIf t125 true (ca xe #[] w61 λt127 w66=>
 K62 [t127] w66) (K62 [u_] w61)) (λs63 _d64 w65=>
 zb t125 (s63.getD 0 u_) fa_ λt128=>K t128 w65))) (bt .eql 29 t36 (i6 0) λt130=>za (λK67=>gIf t130 true (lo w48.drew 25 t4 λt133=>lo w48.drew 25 t4 λt135=>lo w48.drew 74 t11 λt137=>lo w48.drew 88 t7 λt142=>ca Qz #[t135,t1,t137] w48.drew λt138 w71=>
 Ext w48.drew w71∧
 xl w71 66 t138 t2 82 λt141=>ca ZM #[t133,t1,t141,t142] w71 λt143 w72=>
 bf .eql 4 t35 t143 λt144=>K67 [t144] w72) (K67 [u_] w48.drew)) (λs68 _d69 w70=>
 zb t130 (s68.getD 0 u_) fa_ λt145=>za (λK73=>gIf t145 true (ca xe #[] w70 λt147 w77=>
 K73 [t147] w77) (K73 [u_] w70)) (λs74 _d75 w76=>
 zb t145 (s74.getD 0 u_) fa_ λt148=>K t148 w76)))))))))))))
theorem VM{t1 t2 t3:Value}(h:Yl t0 t1 t2 t3 w K):zd prog Yd #[t0,t1,t2,t3] w K:=
 okC false (.s (.r (rz 3 0 10)) (.s (.s (.r (ra 4 0 9 (.grp 21 false (ri 5 4 16) [26] (rz 1 9 0)))) (.c (.s (.r (rz 2 0 2)) (.n)) (.n))) (.s (.r (rz 10 0 577)) (.s (.r (rz 9 0 40993)) (.s (.s (.r (rz 2 0 0)) (.c (.s (.r (ra 3 0 0 (.grp 47 true (ri 2 3 0) [49] (ra 2 5 0 (.grp 51 true (ri 1 7 2) [52] (rz 2 8 0)))))) (.n)) (.n))) (.s (.r (rz 13 0 2622017)) (.s (.r (rz 1 0 0)) (.s (.s (.r (rz 1 0 0)) (.b (.lp [16,17] (.s (.s (.r (rz 9 0 4112)) (.c (.n) (.n))) (.j [16] (.b (.s (.r (rz 11 0 263172)) (.c (.r (rz 3 0 0)) (.n)))) (.r (rz 3 0 0))))))) (.s (.s (.r (ra 3 0 0 (.grp 89 false (ri 3 3 4) [92] (ra 2 6 0 (.grp 94 false (ri 3 8 4) [97] (ra 2 11 0 (.grp 99 false (ri 2 13 0) [101] (ra 2 15 0 (.grp 103 false (ri 3 17 0) [106] (rz 1 20 0)))))))))) (.c (.s (.r (ra 3 0 0 (.grp 110 true (ri 2 3 0) [112] (ra 2 5 0 (.grp 114 true (ri 1 7 2) [115] (rz 2 8 0)))))) (.n)) (.n))) (.s (.s (.r (rz 2 0 0)) (.c (.s (.r (ra 3 0 0 (.grp 121 true (ri 3 3 0) [124] (ra 2 6 0 (.grp 126 true (ri 1 8 2) [127] (rz 2 9 0)))))) (.n)) (.n))) (.s (.r (ra 3 0 0 (.grp 131 true [(3,.p),(4,.q),(5,.p),(6,.q),(7,.p),(8,.q),(10,.p),(13,.q),(9,.u),(11,.p),(12,.q),(14,.l),(15,.p)] [144] (ra 2 16 0 (.grp 146 true (ri 1 18 2) [147] (rz 2 19 0)))))) (.n)))))))))))) func8 rfl (by kernel_rfl) (by kernel_rfl) h
def aaE(t0:Value)(w:World)(K:VW):Prop:=
 pw w (Instr.box 25 t0) λt1 w1=>
 fl w1 t1 25 0 22 λt7=>pp (Builtin.len_ #[22] 3 #[t7]) λt8=>bt .gtr 3 t8 (i6 40) λt9=>za (λK2=>gIf t9 false (fl w1 t1 25 1 23 λt12=>pp (Builtin.len_ #[23] 3 #[t12]) λt13=>bt .gtr 3 t13 (i6 40) λt14=>K2 [t14] w1) (K2 [u_] w1)) (λs3 _d4 w5=>
 zb t9 tr_ (s3.getD 0 u_) λt15=>zc t15 (K fa_ w5) (zp [(i6 0)] w5 (λs7 _d8 w9 K6=>
 fl w9 t1 25 0 22 λt18=>pp (Builtin.len_ #[22] 3 #[t18]) λt19=>bf .lss 3 (s7.getD 0 u_) t19 λt20=>zc t20 (fl w9 t1 25 0 22 λt24=>px 22 t24 (s7.getD 0 u_) λt26=>fl w9 t26 117 1 115 λt28=>pp (Builtin.len_ #[115] 3 #[t28]) λt29=>bt .gtr 3 t29 (i6 20) λt30=>zc t30 (K fa_ w9) (bt .add 3 (s7.getD 0 u_) (i6 1) λt22=>K6 [t22] w9)) (zp [(i6 0),(i6 0)] w9 (λs11 _d12 w13 K10=>
 fl w13 t1 25 1 23 λt33=>pp (Builtin.len_ #[23] 3 #[t33]) λt34=>bf .lss 3 (s11.getD 1 u_) t34 λt35=>zc t35 (fl w13.drew t1 25 1 23 λt40=>px 23 t40 (s11.getD 1 u_) λt42=>fl w13.drew t42 101 6 99 λt44=>pp (Builtin.len_ #[99] 3 #[t44]) λt45=>fl w13.drew t1 25 1 23 λt47=>px 23 t47 (s11.getD 1 u_) λt49=>fl w13.drew t49 101 4 41 λt51=>pp (Builtin.len_ #[41] 3 #[t51]) λt52=>bf .add 3 t45 t52 λt53=>bf .add 3 (s11.getD 0 u_) t53 λt54=>fl w13.drew t1 25 1 23 λt56=>px 23 t56 (s11.getD 1 u_) λt58=>fl w13.drew t58 101 6 99 λt60=>pp (Builtin.len_ #[99] 3 #[t60]) λt61=>bt .gtr 3 t61 (i6 120) λt62=>za (λK14=>gIf t62 false (fl w13.drew t1 25 1 23 λt65=>px 23 t65 (s11.getD 1 u_) λt67=>fl w13.drew t67 101 4 41 λt69=>pp (Builtin.len_ #[41] 3 #[t69]) λt70=>bt .gtr 3 t70 (i6 120) λt71=>K14 [t71] w13.drew) (K14 [u_] w13.drew)) (λs15 _d16 w17=>
 zb t62 tr_ (s15.getD 0 u_) λt72=>za (λK18=>gIf t72 false (bt .gtr 3 t54 (i6 480) λt75=>K18 [t75] w17) (K18 [u_] w17)) (λs19 _d20 w21=>
 zb t72 tr_ (s19.getD 0 u_) λt76=>zc t76 (K fa_ w21) (bt .add 3 (s11.getD 1 u_) (i6 1) λt37=>K10 [t54,t37] w21)))) (K tr_ w13))))))
theorem afR(h:aaE t0 w K):zd prog Xo #[t0] w K:=
 okC false (.s (.r (rz 2 0 2)) (.s (.s (.r (ra 5 0 4 (.grp 10 false (ri 4 5 4) [14] (rz 1 9 0)))) (.c (.s (.r (rz 1 0 0)) (.n)) (.n))) (.s (.r (rz 1 0 0)) (.s (.s (.r (rz 1 0 0)) (.b (.lp [4] (.s (.s (.r (rz 5 0 16)) (.c (.n) (.n))) (.s (.b (.s (.r (rz 8 0 1028)) (.c (.s (.r (rz 1 0 0)) (.n)) (.n)))) (.r (rz 3 0 0))))))) (.s (.s (.r (rz 1 0 0)) (.b (.lp [3,5] (.s (.s (.r (rz 5 0 16)) (.c (.n) (.n))) (.s (.b (.s (.r (rz 18 0 67375120)) (.s (.r (ra 9 0 1028 (.grp 63 false (ri 8 9 1028) [71] (ra 2 17 0 (.grp 73 false (ri 2 19 0) [75] (rz 1 21 0)))))) (.c (.s (.r (rz 1 0 0)) (.n)) (.n))))) (.r (rz 3 0 0))))))) (.s (.r (rz 1 0 0)) (.n))))))) func28 rfl (by kernel_rfl) (by kernel_rfl) h
def VD(w:World)(K:VW):Prop:=
 ca Xp #[] w λt24 w1=>
 pw w1 (Instr.alloc 25 true (.tuple #[])) λt1 w2=>
 so w2 25 t1 t24 λw3=>lo w3 25 t1 λt26=>ca XZ #[t26,(i6 0)] w3 λt27 w4=>
 pe t27 0 λt28=>pe t27 1 λt29=>lo w4 25 t1 λt31=>ca Xm #[t31,(i6 0),(i6 2)] w4 λt32 w5=>
 pe t32 0 λt33=>pe t32 1 λt34=>lo w5 25 t1 λt36=>ca Xn #[t36,(i6 0),(i6 1)] w5 λt37 w6=>
 pe t37 0 λt38=>pe t37 1 λt39=>pw w6 (Instr.buildSlice 55 2 #[(0,(i6 1)),(1,(i6 2))]) λt40 w7=>
 ca jR #[(i6 4),t40] w7 λt41 w8=>
 pw w8 (Instr.buildSlice 55 2 #[(0,(i6 1)),(1,(i6 2))]) λt42 w9=>
 ca jR #[(i6 4),t42] w9 λt43 w10=>
 pw w10 (Instr.buildSlice 44 2 #[(0,t41),(1,t43)]) λt44 w11=>
 lo w11 25 t1 λt46=>ca Ys #[t46,(i6 0),t44] w11 λt48 w12=>
 pe t48 0 λt49=>pe t48 1 λt50=>lo w12 25 t1 λt52=>ca Yu #[t52,(i6 0),t49] w12 λt54 w13=>
 pe t54 0 λt55=>pe t54 1 λt56=>pe t54 2 λt57=>pe t54 3 λt58=>lo w13 25 t1 λt60=>ca JH #[t60,(i6 0),t44,(i6 0),(i6 1)] w13 λt62 w14=>
 pe t62 0 λt63=>pe t62 1 λt64=>pe t62 2 λt65=>lo w14 25 t1 λt67=>ca Yt #[t67,(i6 0),t44,t49] w14 λt70 w15=>
 pe t70 0 λ_t71=>pe t70 1 λ_t72=>pe t70 2 λt73=>pe t70 3 λt74=>lo w15 25 t1 λt76=>pp (Instr.build 80 #[(0,(i6 1))]) λt77=>pp (Instr.build 88 #[(0,t77),(1,(Value.int .u8 1)),(2,tr_)]) λt78=>ca j7 #[t76,(i6 0),(i6 0),t78] w15 λt79 w16=>
 pe t79 0 λt80=>pe t79 1 λt81=>bt .eql 29 t29 (i6 0) λt83=>za (λK17=>gIf t83 true (pp (Builtin.len_ #[66] 3 #[t28]) λt86=>bt .eql 3 t86 (i6 1) λt87=>K17 [t87] w16.drew) (K17 [u_] w16.drew)) (λs18 _d19 w20=>
 zb t83 (s18.getD 0 u_) fa_ λt88=>za (λK21=>gIf t88 true (px 66 t28 (i6 0) λt91=>fl w20 t91 82 3 3 λt93=>bt .eql 3 t93 (i6 1) λt94=>K21 [t94] w20) (K21 [u_] w20)) (λs22 _d23 w24=>
 zb t88 (s22.getD 0 u_) fa_ λt95=>za (λK25=>gIf t95 true (bt .eql 29 t34 (i6 0) λt98=>K25 [t98] w24) (K25 [u_] w24)) (λs26 _d27 w28=>
 zb t95 (s26.getD 0 u_) fa_ λt99=>za (λK29=>gIf t99 true (pp (Builtin.len_ #[69] 3 #[t33]) λt102=>bt .eql 3 t102 (i6 1) λt103=>K29 [t103] w28) (K29 [u_] w28)) (λs30 _d31 w32=>
 zb t99 (s30.getD 0 u_) fa_ λt104=>za (λK33=>gIf t104 true (px 69 t33 (i6 0) λt107=>fl w32 t107 88 1 86 λt109=>bt .eql 86 t109 (Value.int .u8 1) λt110=>K33 [t110] w32) (K33 [u_] w32)) (λs34 _d35 w36=>
 zb t104 (s34.getD 0 u_) fa_ λt111=>za (λK37=>gIf t111 true (bt .eql 29 t39 (i6 0) λt114=>K37 [t114] w36) (K37 [u_] w36)) (λs38 _d39 w40=>
 zb t111 (s38.getD 0 u_) fa_ λt115=>za (λK41=>gIf t115 true (pp (Builtin.len_ #[55] 3 #[t38]) λt118=>bt .eql 3 t118 (i6 1) λt119=>K41 [t119] w40) (K41 [u_] w40)) (λs42 _d43 w44=>
 zb t115 (s42.getD 0 u_) fa_ λt120=>za (λK45=>gIf t120 true (bt .eql 29 t50 (i6 0) λt123=>K45 [t123] w44) (K45 [u_] w44)) (λs46 _d47 w48=>
 zb t120 (s46.getD 0 u_) fa_ λt124=>za (λK49=>gIf t124 true (pp (Builtin.len_ #[44] 3 #[t49]) λt127=>bt .eql 3 t127 (i6 1) λt128=>K49 [t128] w48) (K49 [u_] w48)) (λs50 _d51 w52=>
 zb t124 (s50.getD 0 u_) fa_ λt129=>za (λK53=>gIf t129 true (xl w52 44 t49 (i6 0) 48 λt133=>pw w52 (Instr.buildSlice 55 1 #[(0,(i6 1))]) λt134 w57=>
 Ext w52 w57∧
 ca jR #[(i6 4),t134] w57 λt135 w58=>
 Ext w57 w58∧
 ca Xk #[t133,t135] w58 λt136 w59=>
 K53 [t136] w59) (K53 [u_] w52)) (λs54 _d55 w56=>
 zb t129 (s54.getD 0 u_) fa_ λt137=>za (λK60=>gIf t137 true (bt .eql 3 t55 (i6 0) λt140=>K60 [t140] w56) (K60 [u_] w56)) (λs61 _d62 w63=>
 zb t137 (s61.getD 0 u_) fa_ λt141=>za (λK64=>gIf t141 true (bt .eql 3 t56 (i6 1) λt144=>K64 [t144] w63) (K64 [u_] w63)) (λs65 _d66 w67=>
 zb t141 (s65.getD 0 u_) fa_ λt145=>za (λK68=>gIf t145 true (pp (Op.unary .not t57) λt148=>K68 [t148] w67) (K68 [u_] w67)) (λs69 _d70 w71=>
 zb t145 (s69.getD 0 u_) fa_ λt149=>za (λK72=>gIf t149 true (bt .eql 29 t58 (i6 0) λt152=>K72 [t152] w71) (K72 [u_] w71)) (λs73 _d74 w75=>
 zb t149 (s73.getD 0 u_) fa_ λt153=>za (λK76=>gIf t153 true (K76 [t64] w75) (K76 [u_] w75)) (λs77 _d78 w79=>
 zb t153 (s77.getD 0 u_) fa_ λt156=>za (λK80=>gIf t156 true (pp (Builtin.len_ #[55] 3 #[t63]) λt159=>bt .eql 3 t159 (i6 2) λt160=>K80 [t160] w79) (K80 [u_] w79)) (λs81 _d82 w83=>
 zb t156 (s81.getD 0 u_) fa_ λt161=>za (λK84=>gIf t161 true (bt .eql 29 t65 (i6 0) λt164=>K84 [t164] w83) (K84 [u_] w83)) (λs85 _d86 w87=>
 zb t161 (s85.getD 0 u_) fa_ λt165=>za (λK88=>gIf t165 true (K88 [t73] w87) (K88 [u_] w87)) (λs89 _d90 w91=>
 zb t165 (s89.getD 0 u_) fa_ λt168=>za (λK92=>gIf t168 true (bt .eql 29 t74 (i6 0) λt171=>K92 [t171] w91) (K92 [u_] w91)) (λs93 _d94 w95=>
 zb t168 (s93.getD 0 u_) fa_ λt172=>za (λK96=>gIf t172 true (K96 [t80] w95) (K96 [u_] w95)) (λs97 _d98 w99=>
 zb t172 (s97.getD 0 u_) fa_ λt175=>za (λK100=>gIf t175 true (bt .eql 29 t81 (i6 0) λt178=>K100 [t178] w99) (K100 [u_] w99)) (λs101 _d102 w103=>
 zb t175 (s101.getD 0 u_) fa_ λt179=>K t179 w103)))))))))))))))))))))
theorem aeA(h:VD  w K):zd prog xe #[] w K:=
 okC false (.s (.r (rz 1 0 0)) (.s (.r (rz 3 0 42)) (.s (.r (rz 7 0 9)) (.s (.r (rz 7 0 9)) (.s (.r (rz 7 0 9)) (.s (.r (rz 6 0 682)) (.s (.r (rz 8 0 33)) (.s (.r (rz 12 0 33)) (.s (.r (rz 10 0 33)) (.s (.r (rz 13 0 129)) (.s (.r (rz 9 0 129)) (.s (.r (ra 3 0 0 (.grp 84 true (ri 3 3 0) [87] (ra 2 6 0 (.grp 89 true (ri 5 8 64) [94] (ra 2 13 0 (.grp 96 true (ri 2 15 0) [98] (ra 2 17 0 (.grp 100 true (ri 3 19 0) [103] (ra 2 22 0 (.grp 105 true (ri 5 24 64) [110] (ra 2 29 0 (.grp 112 true (ri 2 31 0) [114] (ra 2 33 0 (.grp 116 true (ri 3 35 0) [119] (ra 2 38 0 (.grp 121 true (ri 2 40 0) [123] (ra 2 42 0 (.grp 125 true (ri 3 44 0) [128] (ra 2 47 0 (.grp 130 true (ri 6 49 3024) [136] (ra 2 55 0 (.grp 138 true (ri 2 57 0) [140] (ra 2 59 0 (.grp 142 true (ri 2 61 0) [144] (ra 2 63 0 (.grp 146 true (ri 2 65 0) [148] (ra 2 67 0 (.grp 150 true (ri 2 69 0) [152] (ra 2 71 0 (.grp 154 true (ri 1 73 0) [155] (ra 2 74 0 (.grp 157 true (ri 3 76 0) [160] (ra 2 79 0 (.grp 162 true (ri 2 81 0) [164] (ra 2 83 0 (.grp 166 true (ri 1 85 0) [167] (ra 2 86 0 (.grp 169 true (ri 2 88 0) [171] (ra 2 90 0 (.grp 173 true (ri 1 92 0) [174] (ra 2 93 0 (.grp 176 true (ri 2 95 0) [178] (rz 2 97 0)))))))))))))))))))))))))))))))))))))))))))) (.n))))))))))))) func29 rfl (by kernel_rfl) (by kernel_rfl) h
def aaF(w:World)(K:VW):Prop:=
 pw w (Instr.alloc 25 true (.tuple #[])) λt0 w1=>
 pw w1 (Instr.buildSlice 78 1 #[(0,(i6 (-1)))]) λt2 w2=>
 pp (Instr.build 80 #[(0,(i6 2)),(1,t2)]) λt3=>pw w2 (Instr.alloc 80 true (.tuple #[])) λt1 w3=>
 so w3 80 t1 t3 λw4=>pp (Instr.build 80 #[(0,(i6 2))]) λt9=>pp (Instr.build 80 #[(0,(i6 1))]) λt10=>pp (Instr.build 96 #[(0,(Value.int .u8 4)),(1,t9),(6,t10),(7,tr_),(10,(i6 1))]) λt11=>pp (Instr.build 80 #[(0,(i6 1))]) λt12=>lo w4.drew 80 t1 λt15=>pp (Instr.build 96 #[(0,(Value.int .u8 14))]) λt18=>((ca xN #[] w4.drew λt4 w5=>
 Ext w4.drew w5∧
 ((ca xN #[] w5 λt5 w6=>
 Ext w5 w6∧
 ((ca qF #[tr_] w6 λt6 w7=>
 Ext w6 w7∧
 ((pw w7 (Instr.buildSlice 41 3 #[(0,t4),(1,t5),(2,t6)]) λt7 w8=>
 Ext w7 w8∧
 ((pw w8 (Instr.makeSlice 98 (i6 3) (i6 3)) λt8 w9=>
 Ext w8 w9∧
 ca zu #[(i6 2)] w9 λt13 w10=>
 Ext w9 w10∧
 pp (Instr.build 96 #[(0,(Value.int .u8 1)),(1,t12),(2,t13),(10,(i6 2))]) λt14=>ca zu #[(i6 3)] w10 λt16 w11=>
 Ext w10 w11∧
 pp (Instr.build 96 #[(0,(Value.int .u8 1)),(1,t15),(2,t16),(10,(i6 3))]) λt17=>pw w11 (Instr.buildSlice 99 4 #[(0,t11),(1,t14),(2,t17),(3,t18)]) λt19 w12=>
 pp (Instr.build 101 #[(4,t7),(5,t8),(6,t19)]) λt20=>pw w12 (Instr.buildSlice 23 1 #[(0,t20)]) λt21 w13=>
 pp (Instr.build 25 #[(1,t21)]) λt22=>so w13 25 t0 t22 λw14=>pq w14 (zh 25 t0) λr15=>K r15 w14)∧
 (ca zu #[(i6 2)] w8 λt13_17 w16=>
 Ext w8 w16∧
 pp (Instr.build 96 #[(0,(Value.int .u8 1)),(1,t12),(2,t13_17),(10,(i6 2))]) λt14_18=>((pw w16 (Instr.makeSlice 98 (i6 3) (i6 3)) λt8_20 w19=>
 Ext w16 w19∧
 ca zu #[(i6 3)] w19 λt16_22 w21=>
 Ext w19 w21∧
 pp (Instr.build 96 #[(0,(Value.int .u8 1)),(1,t15),(2,t16_22),(10,(i6 3))]) λt17_23=>pw w21 (Instr.buildSlice 99 4 #[(0,t11),(1,t14_18),(2,t17_23),(3,t18)]) λt19_25 w24=>
 pp (Instr.build 101 #[(4,t7),(5,t8_20),(6,t19_25)]) λt20_26=>pw w24 (Instr.buildSlice 23 1 #[(0,t20_26)]) λt21_28 w27=>
 pp (Instr.build 25 #[(1,t21_28)]) λt22_29=>so w27 25 t0 t22_29 λw30=>pq w30 (zh 25 t0) λr31=>K r31 w30)∧
 (ca zu #[(i6 3)] w16 λt16_33 w32=>
 Ext w16 w32∧
 pp (Instr.build 96 #[(0,(Value.int .u8 1)),(1,t15),(2,t16_33),(10,(i6 3))]) λt17_34=>((pw w32 (Instr.makeSlice 98 (i6 3) (i6 3)) λt8_36 w35=>
 Ext w32 w35∧
 pw w35 (Instr.buildSlice 99 4 #[(0,t11),(1,t14_18),(2,t17_34),(3,t18)]) λt19_38 w37=>
 pp (Instr.build 101 #[(4,t7),(5,t8_36),(6,t19_38)]) λt20_39=>pw w37 (Instr.buildSlice 23 1 #[(0,t20_39)]) λt21_41 w40=>
 pp (Instr.build 25 #[(1,t21_41)]) λt22_42=>so w40 25 t0 t22_42 λw43=>pq w43 (zh 25 t0) λr44=>K r44 w43)∧
 (pw w32 (Instr.buildSlice 99 4 #[(0,t11),(1,t14_18),(2,t17_34),(3,t18)]) λt19_46 w45=>
 pw w45 (Instr.makeSlice 98 (i6 3) (i6 3)) λt8_48 w47=>
 Ext w45 w47∧
 pp (Instr.build 101 #[(4,t7),(5,t8_48),(6,t19_46)]) λt20_49=>pw w47 (Instr.buildSlice 23 1 #[(0,t20_49)]) λt21_51 w50=>
 pp (Instr.build 25 #[(1,t21_51)]) λt22_52=>so w50 25 t0 t22_52 λw53=>pq w53 (zh 25 t0) λr54=>K r54 w53)))))))∧
 (((pw w7 (Instr.makeSlice 98 (i6 3) (i6 3)) λt8_56 w55=>
 Ext w7 w55∧
 ((pw w55 (Instr.buildSlice 41 3 #[(0,t4),(1,t5),(2,t6)]) λt7_58 w57=>
 Ext w55 w57∧
 ca zu #[(i6 2)] w57 λt13_60 w59=>
 Ext w57 w59∧
 pp (Instr.build 96 #[(0,(Value.int .u8 1)),(1,t12),(2,t13_60),(10,(i6 2))]) λt14_61=>ca zu #[(i6 3)] w59 λt16_63 w62=>
 Ext w59 w62∧
 pp (Instr.build 96 #[(0,(Value.int .u8 1)),(1,t15),(2,t16_63),(10,(i6 3))]) λt17_64=>pw w62 (Instr.buildSlice 99 4 #[(0,t11),(1,t14_61),(2,t17_64),(3,t18)]) λt19_66 w65=>
 pp (Instr.build 101 #[(4,t7_58),(5,t8_56),(6,t19_66)]) λt20_67=>pw w65 (Instr.buildSlice 23 1 #[(0,t20_67)]) λt21_69 w68=>
 pp (Instr.build 25 #[(1,t21_69)]) λt22_70=>so w68 25 t0 t22_70 λw71=>pq w71 (zh 25 t0) λr72=>K r72 w71)∧
 (ca zu #[(i6 2)] w55 λt13_74 w73=>
 Ext w55 w73∧
 pp (Instr.build 96 #[(0,(Value.int .u8 1)),(1,t12),(2,t13_74),(10,(i6 2))]) λt14_75=>((pw w73 (Instr.buildSlice 41 3 #[(0,t4),(1,t5),(2,t6)]) λt7_77 w76=>
 Ext w73 w76∧
 ca zu #[(i6 3)] w76 λt16_79 w78=>
 Ext w76 w78∧
 pp (Instr.build 96 #[(0,(Value.int .u8 1)),(1,t15),(2,t16_79),(10,(i6 3))]) λt17_80=>pw w78 (Instr.buildSlice 99 4 #[(0,t11),(1,t14_75),(2,t17_80),(3,t18)]) λt19_82 w81=>
 pp (Instr.build 101 #[(4,t7_77),(5,t8_56),(6,t19_82)]) λt20_83=>pw w81 (Instr.buildSlice 23 1 #[(0,t20_83)]) λt21_85 w84=>
 pp (Instr.build 25 #[(1,t21_85)]) λt22_86=>so w84 25 t0 t22_86 λw87=>pq w87 (zh 25 t0) λr88=>K r88 w87)∧
 (ca zu #[(i6 3)] w73 λt16_90 w89=>
 Ext w73 w89∧
 pp (Instr.build 96 #[(0,(Value.int .u8 1)),(1,t15),(2,t16_90),(10,(i6 3))]) λt17_91=>((pw w89 (Instr.buildSlice 41 3 #[(0,t4),(1,t5),(2,t6)]) λt7_93 w92=>
 Ext w89 w92∧
 pw w92 (Instr.buildSlice 99 4 #[(0,t11),(1,t14_75),(2,t17_91),(3,t18)]) λt19_95 w94=>
 pp (Instr.build 101 #[(4,t7_93),(5,t8_56),(6,t19_95)]) λt20_96=>pw w94 (Instr.buildSlice 23 1 #[(0,t20_96)]) λt21_98 w97=>
 pp (Instr.build 25 #[(1,t21_98)]) λt22_99=>so w97 25 t0 t22_99 λw100=>pq w100 (zh 25 t0) λr101=>K r101 w100)∧
 (pw w89 (Instr.buildSlice 99 4 #[(0,t11),(1,t14_75),(2,t17_91),(3,t18)]) λt19_103 w102=>
 pw w102 (Instr.buildSlice 41 3 #[(0,t4),(1,t5),(2,t6)]) λt7_105 w104=>
 Ext w102 w104∧
 pp (Instr.build 101 #[(4,t7_105),(5,t8_56),(6,t19_103)]) λt20_106=>pw w104 (Instr.buildSlice 23 1 #[(0,t20_106)]) λt21_108 w107=>
 pp (Instr.build 25 #[(1,t21_108)]) λt22_109=>so w107 25 t0 t22_109 λw110=>pq w110 (zh 25 t0) λr111=>K r111 w110)))))))∧
 (ca zu #[(i6 2)] w7 λt13_113 w112=>
 Ext w7 w112∧
 pp (Instr.build 96 #[(0,(Value.int .u8 1)),(1,t12),(2,t13_113),(10,(i6 2))]) λt14_114=>((pw w112 (Instr.buildSlice 41 3 #[(0,t4),(1,t5),(2,t6)]) λt7_116 w115=>
 Ext w112 w115∧
 ((pw w115 (Instr.makeSlice 98 (i6 3) (i6 3)) λt8_118 w117=>
 Ext w115 w117∧
 ca zu #[(i6 3)] w117 λt16_120 w119=>
 Ext w117 w119∧
 pp (Instr.build 96 #[(0,(Value.int .u8 1)),(1,t15),(2,t16_120),(10,(i6 3))]) λt17_121=>pw w119 (Instr.buildSlice 99 4 #[(0,t11),(1,t14_114),(2,t17_121),(3,t18)]) λt19_123 w122=>
 pp (Instr.build 101 #[(4,t7_116),(5,t8_118),(6,t19_123)]) λt20_124=>pw w122 (Instr.buildSlice 23 1 #[(0,t20_124)]) λt21_126 w125=>
 pp (Instr.build 25 #[(1,t21_126)]) λt22_127=>so w125 25 t0 t22_127 λw128=>pq w128 (zh 25 t0) λr129=>K r129 w128)∧
 (ca zu #[(i6 3)] w115 λt16_131 w130=>
 Ext w115 w130∧
 pp (Instr.build 96 #[(0,(Value.int .u8 1)),(1,t15),(2,t16_131),(10,(i6 3))]) λt17_132=>((pw w130 (Instr.makeSlice 98 (i6 3) (i6 3)) λt8_134 w133=>
 Ext w130 w133∧
 pw w133 (Instr.buildSlice 99 4 #[(0,t11),(1,t14_114),(2,t17_132),(3,t18)]) λt19_136 w135=>
 pp (Instr.build 101 #[(4,t7_116),(5,t8_134),(6,t19_136)]) λt20_137=>pw w135 (Instr.buildSlice 23 1 #[(0,t20_137)]) λt21_139 w138=>
 pp (Instr.build 25 #[(1,t21_139)]) λt22_140=>so w138 25 t0 t22_140 λw141=>pq w141 (zh 25 t0) λr142=>K r142 w141)∧
 (pw w130 (Instr.buildSlice 99 4 #[(0,t11),(1,t14_114),(2,t17_132),(3,t18)]) λt19_144 w143=>
 pw w143 (Instr.makeSlice 98 (i6 3) (i6 3)) λt8_146 w145=>
 Ext w143 w145∧
 pp (Instr.build 101 #[(4,t7_116),(5,t8_146),(6,t19_144)]) λt20_147=>pw w145 (Instr.buildSlice 23 1 #[(0,t20_147)]) λt21_149 w148=>
 pp (Instr.build 25 #[(1,t21_149)]) λt22_150=>so w148 25 t0 t22_150 λw151=>pq w151 (zh 25 t0) λr152=>K r152 w151)))))∧
 (((pw w112 (Instr.makeSlice 98 (i6 3) (i6 3)) λt8_154 w153=>
 Ext w112 w153∧
 ((pw w153 (Instr.buildSlice 41 3 #[(0,t4),(1,t5),(2,t6)]) λt7_156 w155=>
 Ext w153 w155∧
 ca zu #[(i6 3)] w155 λt16_158 w157=>
 Ext w155 w157∧
 pp (Instr.build 96 #[(0,(Value.int .u8 1)),(1,t15),(2,t16_158),(10,(i6 3))]) λt17_159=>pw w157 (Instr.buildSlice 99 4 #[(0,t11),(1,t14_114),(2,t17_159),(3,t18)]) λt19_161 w160=>
 pp (Instr.build 101 #[(4,t7_156),(5,t8_154),(6,t19_161)]) λt20_162=>pw w160 (Instr.buildSlice 23 1 #[(0,t20_162)]) λt21_164 w163=>
 pp (Instr.build 25 #[(1,t21_164)]) λt22_165=>so w163 25 t0 t22_165 λw166=>pq w166 (zh 25 t0) λr167=>K r167 w166)∧
 (ca zu #[(i6 3)] w153 λt16_169 w168=>
 Ext w153 w168∧
 pp (Instr.build 96 #[(0,(Value.int .u8 1)),(1,t15),(2,t16_169),(10,(i6 3))]) λt17_170=>((pw w168 (Instr.buildSlice 41 3 #[(0,t4),(1,t5),(2,t6)]) λt7_172 w171=>
 Ext w168 w171∧
 pw w171 (Instr.buildSlice 99 4 #[(0,t11),(1,t14_114),(2,t17_170),(3,t18)]) λt19_174 w173=>
 pp (Instr.build 101 #[(4,t7_172),(5,t8_154),(6,t19_174)]) λt20_175=>pw w173 (Instr.buildSlice 23 1 #[(0,t20_175)]) λt21_177 w176=>
 pp (Instr.build 25 #[(1,t21_177)]) λt22_178=>so w176 25 t0 t22_178 λw179=>pq w179 (zh 25 t0) λr180=>K r180 w179)∧
 (pw w168 (Instr.buildSlice 99 4 #[(0,t11),(1,t14_114),(2,t17_170),(3,t18)]) λt19_182 w181=>
 pw w181 (Instr.buildSlice 41 3 #[(0,t4),(1,t5),(2,t6)]) λt7_184 w183=>
 Ext w181 w183∧
 pp (Instr.build 101 #[(4,t7_184),(5,t8_154),(6,t19_182)]) λt20_185=>pw w183 (Instr.buildSlice 23 1 #[(0,t20_185)]) λt21_187 w186=>
 pp (Instr.build 25 #[(1,t21_187)]) λt22_188=>so w186 25 t0 t22_188 λw189=>pq w189 (zh 25 t0) λr190=>K r190 w189)))))∧
 (ca zu #[(i6 3)] w112 λt16_192 w191=>
 Ext w112 w191∧
 pp (Instr.build 96 #[(0,(Value.int .u8 1)),(1,t15),(2,t16_192),(10,(i6 3))]) λt17_193=>((pw w191 (Instr.buildSlice 41 3 #[(0,t4),(1,t5),(2,t6)]) λt7_195 w194=>
 Ext w191 w194∧
 ((pw w194 (Instr.makeSlice 98 (i6 3) (i6 3)) λt8_197 w196=>
 Ext w194 w196∧
 pw w196 (Instr.buildSlice 99 4 #[(0,t11),(1,t14_114),(2,t17_193),(3,t18)]) λt19_199 w198=>
 pp (Instr.build 101 #[(4,t7_195),(5,t8_197),(6,t19_199)]) λt20_200=>pw w198 (Instr.buildSlice 23 1 #[(0,t20_200)]) λt21_202 w201=>
 pp (Instr.build 25 #[(1,t21_202)]) λt22_203=>so w201 25 t0 t22_203 λw204=>pq w204 (zh 25 t0) λr205=>K r205 w204)∧
 (pw w194 (Instr.buildSlice 99 4 #[(0,t11),(1,t14_114),(2,t17_193),(3,t18)]) λt19_207 w206=>
 pw w206 (Instr.makeSlice 98 (i6 3) (i6 3)) λt8_209 w208=>
 Ext w206 w208∧
 pp (Instr.build 101 #[(4,t7_195),(5,t8_209),(6,t19_207)]) λt20_210=>pw w208 (Instr.buildSlice 23 1 #[(0,t20_210)]) λt21_212 w211=>
 pp (Instr.build 25 #[(1,t21_212)]) λt22_213=>so w211 25 t0 t22_213 λw214=>pq w214 (zh 25 t0) λr215=>K r215 w214)))∧
 (((pw w191 (Instr.makeSlice 98 (i6 3) (i6 3)) λt8_217 w216=>
 Ext w191 w216∧
 ((pw w216 (Instr.buildSlice 41 3 #[(0,t4),(1,t5),(2,t6)]) λt7_219 w218=>
 Ext w216 w218∧
 pw w218 (Instr.buildSlice 99 4 #[(0,t11),(1,t14_114),(2,t17_193),(3,t18)]) λt19_221 w220=>
 pp (Instr.build 101 #[(4,t7_219),(5,t8_217),(6,t19_221)]) λt20_222=>pw w220 (Instr.buildSlice 23 1 #[(0,t20_222)]) λt21_224 w223=>
 pp (Instr.build 25 #[(1,t21_224)]) λt22_225=>so w223 25 t0 t22_225 λw226=>pq w226 (zh 25 t0) λr227=>K r227 w226)∧
 (pw w216 (Instr.buildSlice 99 4 #[(0,t11),(1,t14_114),(2,t17_193),(3,t18)]) λt19_229 w228=>
 pw w228 (Instr.buildSlice 41 3 #[(0,t4),(1,t5),(2,t6)]) λt7_231 w230=>
 Ext w228 w230∧
 pp (Instr.build 101 #[(4,t7_231),(5,t8_217),(6,t19_229)]) λt20_232=>pw w230 (Instr.buildSlice 23 1 #[(0,t20_232)]) λt21_234 w233=>
 pp (Instr.build 25 #[(1,t21_234)]) λt22_235=>so w233 25 t0 t22_235 λw236=>pq w236 (zh 25 t0) λr237=>K r237 w236)))∧
 (pw w191 (Instr.buildSlice 99 4 #[(0,t11),(1,t14_114),(2,t17_193),(3,t18)]) λt19_239 w238=>
 ((pw w238 (Instr.buildSlice 41 3 #[(0,t4),(1,t5),(2,t6)]) λt7_241 w240=>
 Ext w238 w240∧
 pw w240 (Instr.makeSlice 98 (i6 3) (i6 3)) λt8_243 w242=>
 Ext w240 w242∧
 pp (Instr.build 101 #[(4,t7_241),(5,t8_243),(6,t19_239)]) λt20_244=>pw w242 (Instr.buildSlice 23 1 #[(0,t20_244)]) λt21_246 w245=>
 pp (Instr.build 25 #[(1,t21_246)]) λt22_247=>so w245 25 t0 t22_247 λw248=>pq w248 (zh 25 t0) λr249=>K r249 w248)∧
 (pw w238 (Instr.makeSlice 98 (i6 3) (i6 3)) λt8_251 w250=>
 Ext w238 w250∧
 pw w250 (Instr.buildSlice 41 3 #[(0,t4),(1,t5),(2,t6)]) λt7_253 w252=>
 Ext w250 w252∧
 pp (Instr.build 101 #[(4,t7_253),(5,t8_251),(6,t19_239)]) λt20_254=>pw w252 (Instr.buildSlice 23 1 #[(0,t20_254)]) λt21_256 w255=>
 pp (Instr.build 25 #[(1,t21_256)]) λt22_257=>so w255 25 t0 t22_257 λw258=>pq w258 (zh 25 t0) λr259=>K r259 w258)))))))))))))))∧
 (pw w6 (Instr.makeSlice 98 (i6 3) (i6 3)) λt8_261 w260=>
 Ext w6 w260∧
 ca qF #[tr_] w260 λt6_263 w262=>
 Ext w260 w262∧
 ((pw w262 (Instr.buildSlice 41 3 #[(0,t4),(1,t5),(2,t6_263)]) λt7_265 w264=>
 Ext w262 w264∧
 ca zu #[(i6 2)] w264 λt13_267 w266=>
 Ext w264 w266∧
 pp (Instr.build 96 #[(0,(Value.int .u8 1)),(1,t12),(2,t13_267),(10,(i6 2))]) λt14_268=>ca zu #[(i6 3)] w266 λt16_270 w269=>
 Ext w266 w269∧
 pp (Instr.build 96 #[(0,(Value.int .u8 1)),(1,t15),(2,t16_270),(10,(i6 3))]) λt17_271=>pw w269 (Instr.buildSlice 99 4 #[(0,t11),(1,t14_268),(2,t17_271),(3,t18)]) λt19_273 w272=>
 pp (Instr.build 101 #[(4,t7_265),(5,t8_261),(6,t19_273)]) λt20_274=>pw w272 (Instr.buildSlice 23 1 #[(0,t20_274)]) λt21_276 w275=>
 pp (Instr.build 25 #[(1,t21_276)]) λt22_277=>so w275 25 t0 t22_277 λw278=>pq w278 (zh 25 t0) λr279=>K r279 w278)∧
 (ca zu #[(i6 2)] w262 λt13_281 w280=>
 Ext w262 w280∧
 pp (Instr.build 96 #[(0,(Value.int .u8 1)),(1,t12),(2,t13_281),(10,(i6 2))]) λt14_282=>((pw w280 (Instr.buildSlice 41 3 #[(0,t4),(1,t5),(2,t6_263)]) λt7_284 w283=>
 Ext w280 w283∧
 ca zu #[(i6 3)] w283 λt16_286 w285=>
 Ext w283 w285∧
 pp (Instr.build 96 #[(0,(Value.int .u8 1)),(1,t15),(2,t16_286),(10,(i6 3))]) λt17_287=>pw w285 (Instr.buildSlice 99 4 #[(0,t11),(1,t14_282),(2,t17_287),(3,t18)]) λt19_289 w288=>
 pp (Instr.build 101 #[(4,t7_284),(5,t8_261),(6,t19_289)]) λt20_290=>pw w288 (Instr.buildSlice 23 1 #[(0,t20_290)]) λt21_292 w291=>
 pp (Instr.build 25 #[(1,t21_292)]) λt22_293=>so w291 25 t0 t22_293 λw294=>pq w294 (zh 25 t0) λr295=>K r295 w294)∧
 (ca zu #[(i6 3)] w280 λt16_297 w296=>
 Ext w280 w296∧
 pp (Instr.build 96 #[(0,(Value.int .u8 1)),(1,t15),(2,t16_297),(10,(i6 3))]) λt17_298=>((pw w296 (Instr.buildSlice 41 3 #[(0,t4),(1,t5),(2,t6_263)]) λt7_300 w299=>
 Ext w296 w299∧
 pw w299 (Instr.buildSlice 99 4 #[(0,t11),(1,t14_282),(2,t17_298),(3,t18)]) λt19_302 w301=>
 pp (Instr.build 101 #[(4,t7_300),(5,t8_261),(6,t19_302)]) λt20_303=>pw w301 (Instr.buildSlice 23 1 #[(0,t20_303)]) λt21_305 w304=>
 pp (Instr.build 25 #[(1,t21_305)]) λt22_306=>so w304 25 t0 t22_306 λw307=>pq w307 (zh 25 t0) λr308=>K r308 w307)∧
 (pw w296 (Instr.buildSlice 99 4 #[(0,t11),(1,t14_282),(2,t17_298),(3,t18)]) λt19_310 w309=>
 pw w309 (Instr.buildSlice 41 3 #[(0,t4),(1,t5),(2,t6_263)]) λt7_312 w311=>
 Ext w309 w311∧
 pp (Instr.build 101 #[(4,t7_312),(5,t8_261),(6,t19_310)]) λt20_313=>pw w311 (Instr.buildSlice 23 1 #[(0,t20_313)]) λt21_315 w314=>
 pp (Instr.build 25 #[(1,t21_315)]) λt22_316=>so w314 25 t0 t22_316 λw317=>pq w317 (zh 25 t0) λr318=>K r318 w317)))))))))∧
 (pw w5 (Instr.makeSlice 98 (i6 3) (i6 3)) λt8_320 w319=>
 Ext w5 w319∧
 ca xN #[] w319 λt5_322 w321=>
 Ext w319 w321∧
 ca qF #[tr_] w321 λt6_324 w323=>
 Ext w321 w323∧
 ((pw w323 (Instr.buildSlice 41 3 #[(0,t4),(1,t5_322),(2,t6_324)]) λt7_326 w325=>
 Ext w323 w325∧
 ca zu #[(i6 2)] w325 λt13_328 w327=>
 Ext w325 w327∧
 pp (Instr.build 96 #[(0,(Value.int .u8 1)),(1,t12),(2,t13_328),(10,(i6 2))]) λt14_329=>ca zu #[(i6 3)] w327 λt16_331 w330=>
 Ext w327 w330∧
 pp (Instr.build 96 #[(0,(Value.int .u8 1)),(1,t15),(2,t16_331),(10,(i6 3))]) λt17_332=>pw w330 (Instr.buildSlice 99 4 #[(0,t11),(1,t14_329),(2,t17_332),(3,t18)]) λt19_334 w333=>
 pp (Instr.build 101 #[(4,t7_326),(5,t8_320),(6,t19_334)]) λt20_335=>pw w333 (Instr.buildSlice 23 1 #[(0,t20_335)]) λt21_337 w336=>
 pp (Instr.build 25 #[(1,t21_337)]) λt22_338=>so w336 25 t0 t22_338 λw339=>pq w339 (zh 25 t0) λr340=>K r340 w339)∧
 (ca zu #[(i6 2)] w323 λt13_342 w341=>
 Ext w323 w341∧
 pp (Instr.build 96 #[(0,(Value.int .u8 1)),(1,t12),(2,t13_342),(10,(i6 2))]) λt14_343=>((pw w341 (Instr.buildSlice 41 3 #[(0,t4),(1,t5_322),(2,t6_324)]) λt7_345 w344=>
 Ext w341 w344∧
 ca zu #[(i6 3)] w344 λt16_347 w346=>
 Ext w344 w346∧
 pp (Instr.build 96 #[(0,(Value.int .u8 1)),(1,t15),(2,t16_347),(10,(i6 3))]) λt17_348=>pw w346 (Instr.buildSlice 99 4 #[(0,t11),(1,t14_343),(2,t17_348),(3,t18)]) λt19_350 w349=>
 pp (Instr.build 101 #[(4,t7_345),(5,t8_320),(6,t19_350)]) λt20_351=>pw w349 (Instr.buildSlice 23 1 #[(0,t20_351)]) λt21_353 w352=>
 pp (Instr.build 25 #[(1,t21_353)]) λt22_354=>so w352 25 t0 t22_354 λw355=>pq w355 (zh 25 t0) λr356=>K r356 w355)∧
 (ca zu #[(i6 3)] w341 λt16_358 w357=>
 Ext w341 w357∧
 pp (Instr.build 96 #[(0,(Value.int .u8 1)),(1,t15),(2,t16_358),(10,(i6 3))]) λt17_359=>((pw w357 (Instr.buildSlice 41 3 #[(0,t4),(1,t5_322),(2,t6_324)]) λt7_361 w360=>
 Ext w357 w360∧
 pw w360 (Instr.buildSlice 99 4 #[(0,t11),(1,t14_343),(2,t17_359),(3,t18)]) λt19_363 w362=>
 pp (Instr.build 101 #[(4,t7_361),(5,t8_320),(6,t19_363)]) λt20_364=>pw w362 (Instr.buildSlice 23 1 #[(0,t20_364)]) λt21_366 w365=>
 pp (Instr.build 25 #[(1,t21_366)]) λt22_367=>so w365 25 t0 t22_367 λw368=>pq w368 (zh 25 t0) λr369=>K r369 w368)∧
 (pw w357 (Instr.buildSlice 99 4 #[(0,t11),(1,t14_343),(2,t17_359),(3,t18)]) λt19_371 w370=>
 pw w370 (Instr.buildSlice 41 3 #[(0,t4),(1,t5_322),(2,t6_324)]) λt7_373 w372=>
 Ext w370 w372∧
 pp (Instr.build 101 #[(4,t7_373),(5,t8_320),(6,t19_371)]) λt20_374=>pw w372 (Instr.buildSlice 23 1 #[(0,t20_374)]) λt21_376 w375=>
 pp (Instr.build 25 #[(1,t21_376)]) λt22_377=>so w375 25 t0 t22_377 λw378=>pq w378 (zh 25 t0) λr379=>K r379 w378)))))))))∧
 (pw w4.drew (Instr.makeSlice 98 (i6 3) (i6 3)) λt8_381 w380=>
 Ext w4.drew w380∧
 ca xN #[] w380 λt4_383 w382=>
 Ext w380 w382∧
 ca xN #[] w382 λt5_385 w384=>
 Ext w382 w384∧
 ca qF #[tr_] w384 λt6_387 w386=>
 Ext w384 w386∧
 ((pw w386 (Instr.buildSlice 41 3 #[(0,t4_383),(1,t5_385),(2,t6_387)]) λt7_389 w388=>
 Ext w386 w388∧
 ca zu #[(i6 2)] w388 λt13_391 w390=>
 Ext w388 w390∧
 pp (Instr.build 96 #[(0,(Value.int .u8 1)),(1,t12),(2,t13_391),(10,(i6 2))]) λt14_392=>ca zu #[(i6 3)] w390 λt16_394 w393=>
 Ext w390 w393∧
 pp (Instr.build 96 #[(0,(Value.int .u8 1)),(1,t15),(2,t16_394),(10,(i6 3))]) λt17_395=>pw w393 (Instr.buildSlice 99 4 #[(0,t11),(1,t14_392),(2,t17_395),(3,t18)]) λt19_397 w396=>
 pp (Instr.build 101 #[(4,t7_389),(5,t8_381),(6,t19_397)]) λt20_398=>pw w396 (Instr.buildSlice 23 1 #[(0,t20_398)]) λt21_400 w399=>
 pp (Instr.build 25 #[(1,t21_400)]) λt22_401=>so w399 25 t0 t22_401 λw402=>pq w402 (zh 25 t0) λr403=>K r403 w402)∧
 (ca zu #[(i6 2)] w386 λt13_405 w404=>
 Ext w386 w404∧
 pp (Instr.build 96 #[(0,(Value.int .u8 1)),(1,t12),(2,t13_405),(10,(i6 2))]) λt14_406=>((pw w404 (Instr.buildSlice 41 3 #[(0,t4_383),(1,t5_385),(2,t6_387)]) λt7_408 w407=>
 Ext w404 w407∧
 ca zu #[(i6 3)] w407 λt16_410 w409=>
 Ext w407 w409∧
 pp (Instr.build 96 #[(0,(Value.int .u8 1)),(1,t15),(2,t16_410),(10,(i6 3))]) λt17_411=>pw w409 (Instr.buildSlice 99 4 #[(0,t11),(1,t14_406),(2,t17_411),(3,t18)]) λt19_413 w412=>
 pp (Instr.build 101 #[(4,t7_408),(5,t8_381),(6,t19_413)]) λt20_414=>pw w412 (Instr.buildSlice 23 1 #[(0,t20_414)]) λt21_416 w415=>
 pp (Instr.build 25 #[(1,t21_416)]) λt22_417=>so w415 25 t0 t22_417 λw418=>pq w418 (zh 25 t0) λr419=>K r419 w418)∧
 (ca zu #[(i6 3)] w404 λt16_421 w420=>
 Ext w404 w420∧
 pp (Instr.build 96 #[(0,(Value.int .u8 1)),(1,t15),(2,t16_421),(10,(i6 3))]) λt17_422=>((pw w420 (Instr.buildSlice 41 3 #[(0,t4_383),(1,t5_385),(2,t6_387)]) λt7_424 w423=>
 Ext w420 w423∧
 pw w423 (Instr.buildSlice 99 4 #[(0,t11),(1,t14_406),(2,t17_422),(3,t18)]) λt19_426 w425=>
 pp (Instr.build 101 #[(4,t7_424),(5,t8_381),(6,t19_426)]) λt20_427=>pw w425 (Instr.buildSlice 23 1 #[(0,t20_427)]) λt21_429 w428=>
 pp (Instr.build 25 #[(1,t21_429)]) λt22_430=>so w428 25 t0 t22_430 λw431=>pq w431 (zh 25 t0) λr432=>K r432 w431)∧
 (pw w420 (Instr.buildSlice 99 4 #[(0,t11),(1,t14_406),(2,t17_422),(3,t18)]) λt19_434 w433=>
 pw w433 (Instr.buildSlice 41 3 #[(0,t4_383),(1,t5_385),(2,t6_387)]) λt7_436 w435=>
 Ext w433 w435∧
 pp (Instr.build 101 #[(4,t7_436),(5,t8_381),(6,t19_434)]) λt20_437=>pw w435 (Instr.buildSlice 23 1 #[(0,t20_437)]) λt21_439 w438=>
 pp (Instr.build 25 #[(1,t21_439)]) λt22_440=>so w438 25 t0 t22_440 λw441=>pq w441 (zh 25 t0) λr442=>K r442 w441))))))))
theorem afS(h:aaF  w K):zd prog Xp #[] w K:=
 okC false (.s (.r (rz 1 0 2)) (.s (.r (rz 4 0 162)) (.s (.r (ra 4 5 0 (ra 1 11 1 (ra 1 14 0 (.alt 0 .u (.alt 1 .u (.alt 2 .u (.alt 3 .u (.alt 4 .u (ra 2 9 3 (ra 2 12 3 (rz 5 15 546))) (ra 2 9 3 (.alt 4 .u (ra 2 12 3 (rz 5 15 546)) (ra 2 12 3 (.alt 4 .u (rz 5 15 546) (ra 1 15 2 (ra 1 4 3 (rz 4 16 136)))))))) (.alt 4 .u (.alt 3 .u (ra 2 9 3 (ra 2 12 3 (rz 5 15 546))) (ra 2 9 3 (.alt 3 .u (ra 2 12 3 (rz 5 15 546)) (ra 2 12 3 (.alt 3 .u (rz 5 15 546) (ra 1 15 2 (ra 1 3 3 (rz 4 16 136)))))))) (ra 2 9 3 (.alt 3 .u (.alt 4 .u (ra 2 12 3 (rz 5 15 546)) (ra 2 12 3 (.alt 4 .u (rz 5 15 546) (ra 1 15 2 (ra 1 4 3 (rz 4 16 136)))))) (.alt 4 .u (.alt 3 .u (ra 2 12 3 (rz 5 15 546)) (ra 2 12 3 (.alt 3 .u (rz 5 15 546) (ra 1 15 2 (ra 1 3 3 (rz 4 16 136)))))) (ra 2 12 3 (.alt 3 .u (.alt 4 .u (rz 5 15 546) (ra 1 15 2 (ra 1 4 3 (rz 4 16 136)))) (.alt 4 .u (.alt 3 .u (rz 5 15 546) (ra 1 15 2 (ra 1 3 3 (rz 4 16 136)))) (ra 1 15 2 (.alt 3 .u (ra 1 4 3 (rz 4 16 136)) (ra 1 4 3 (ra 1 3 3 (rz 4 16 136))))))))))))) (ra 1 4 3 (ra 1 2 3 (.alt 3 .u (ra 2 9 3 (ra 2 12 3 (rz 5 15 546))) (ra 2 9 3 (.alt 3 .u (ra 2 12 3 (rz 5 15 546)) (ra 2 12 3 (.alt 3 .u (rz 5 15 546) (ra 1 15 2 (ra 1 3 3 (rz 4 16 136))))))))))) (ra 1 4 3 (ra 2 1 15 (.alt 3 .u (ra 2 9 3 (ra 2 12 3 (rz 5 15 546))) (ra 2 9 3 (.alt 3 .u (ra 2 12 3 (rz 5 15 546)) (ra 2 12 3 (.alt 3 .u (rz 5 15 546) (ra 1 15 2 (ra 1 3 3 (rz 4 16 136))))))))))) (ra 1 4 3 (ra 3 0 63 (.alt 3 .u (ra 2 9 3 (ra 2 12 3 (rz 5 15 546))) (ra 2 9 3 (.alt 3 .u (ra 2 12 3 (rz 5 15 546)) (ra 2 12 3 (.alt 3 .u (rz 5 15 546) (ra 1 15 2 (ra 1 3 3 (rz 4 16 136))))))))))))))) (.n)))) func74 rfl (by kernel_rfl) (by kernel_rfl) h
def abB(t0 t1:Value)(w:World)(K:VW):Prop:=
 pw w (Instr.alloc 48 true (.tuple #[])) λt4 w1=>
 ca JF #[t0,t1] w1 λt7 w2=>
 so w2 48 t4 t7 λw3=>pq w3 (zh 48 t4) λr4=>K r4 w3
theorem ahp{t1:Value}(h:abB t0 t1 w K):zd prog jR #[t0,t1] w K:=
 okC false (.s (.r (rz 1 0 2)) (.s (.r (rz 4 0 160)) (.n))) func75 rfl (by kernel_rfl) (by kernel_rfl) h
def abC(w:World)(K:VW):Prop:=
 pw w (Instr.alloc 43 true (.tuple #[])) λt0 w1=>
 pp (Instr.build 43 #[(0,(Value.int .u8 1))]) λt1=>so w1 43 t0 t1 λw2=>pq w2 (zh 43 t0) λr3=>K r3 w2
theorem ahq(h:abC  w K):zd prog xN #[] w K:=
 okC false (.s (.r (rz 1 0 2)) (.s (.r (rz 2 0 8)) (.n))) func136 rfl (by kernel_rfl) (by kernel_rfl) h
def abD(t0:Value)(w:World)(K:VW):Prop:=
 pw w (Instr.alloc 43 true (.tuple #[])) λt2 w1=>
 ca xN #[] w1 λt4 w2=>
 pw w2 (Instr.buildSlice 41 1 #[(0,t4)]) λt5 w3=>
 pp (Instr.build 43 #[(0,(Value.int .u8 4)),(1,t0),(2,(i6 (-1))),(4,t5)]) λt6=>so w3 43 t2 t6 λw4=>pq w4 (zh 43 t2) λr5=>K r5 w4
theorem ahr(h:abD t0 w K):zd prog qF #[t0] w K:=
 okC false (.s (.r (rz 1 0 2)) (.s (.r (rz 5 0 552)) (.n))) func137 rfl (by kernel_rfl) (by kernel_rfl) h
def abE(t0:Value)(w:World)(K:VW):Prop:=
 pw w (Instr.alloc 93 true (.tuple #[])) λt2 w1=>
 pp (Instr.build 93 #[(0,(Value.int .u8 1)),(1,t0)]) λt4=>so w1 93 t2 t4 λw2=>pq w2 (zh 93 t2) λr3=>K r3 w2
theorem ahs(h:abE t0 w K):zd prog zu #[t0] w K:=
 okC false (.s (.r (rz 1 0 2)) (.s (.r (rz 3 0 32)) (.n))) func138 rfl (by kernel_rfl) (by kernel_rfl) h
end
end Go.Proofs.Tryz
namespace Go.Proofs
open Go.Sh Go.RowKit Go.BM
section
theorem abF{w:World}{K:Value→World→Prop}(h:∀w',Ext w w'→K anc w'):zd Tryz.prog Tryz.xN #[] w K:=by
 refine Tryz.ahq ?_
 unfold Tryz.abC
 have S:StX noX w nothing w []:=St.start (λ_ _ h=>h.elim)
 refine S.al λb0 w1 S=>?_
 refine zq (cs:=XH.toArray) (by kernel_rfl) ?_
 refine S.stB (b:=b0) λw2 S=>?_
 refine S.ceB (b:=b0) ?_ rfl
 exact h _ S.ext
theorem ah5{n:Int}{w:World}{K:Value→World→Prop}(h:∀w',Ext w w'→K (ane n) w'):zd Tryz.prog Tryz.zu #[.int .i64 n] w K:=by
 refine Tryz.ahs ?_
 unfold Tryz.abE
 have S:StX noX w nothing w []:=St.start (λ_ _ h=>h.elim)
 refine S.al λb0 w1 S=>?_
 refine zq (cs:=#[.int .u8 1,.int .i64 n,.int .i64 0,.slice none 0 0]) (by kernel_rfl) ?_
 refine S.stB (b:=b0) λw2 S=>?_
 refine S.ceB (b:=b0) ?_ rfl
 exact h _ S.ext
theorem ah6{m:Bool}{w:World}{K:Value→World→Prop}(h:∀q cap sn w',Ext w w'→New w sn w'→TyG sn (tyV (.mk 4 m (-1) 0 [yk]) q cap) (.mk 4 m (-1) 0 [yk])→K (tyV (.mk 4 m (-1) 0 [yk]) q cap) w'):zd Tryz.prog Tryz.qF #[.bool m] w K:=by
 refine Tryz.ahr ?_
 unfold Tryz.abD
 have S:StX noX w nothing w []:=St.start (λ_ _ h=>h.elim)
 refine S.al λb2 w1 S=>?_
 refine abF λw2 e2=>?_
 have S:=S.go e2
 refine S.lit (e:=43) (cs:=XH) (by kernel_rfl) λb5 w3 S=>?_
 refine zq (cs:=#[.int .u8 4,.bool m,.int .i64 (-1),.int .i64 0,.slice (some ⟨b5,0,none⟩) 1 1]) (by kernel_rfl) ?_
 refine S.stB (b:=b2) λw4 S=>?_
 refine S.ceB (b:=b2) ?_ rfl
 obtain⟨S,_,ha⟩:=S.litNew b5 (sz:=5) (R:=TyC nothing) (l:=[yk]) (by exact(xg (c:=XH) rfl (show TyC nothing XH yk from XE))) (by decide)
 exact h (some ⟨b5,0,none⟩) 1 (nothing.or (Go.Sh.one b5 XH 43)) _ S.ext (S.newOf (Above.no.or' ha)) (acR (u:=yk) (v:=anc) XE)
theorem aht{u:UnD}{v:Value}{w:World}{r:Gh}{K:Value→World→Prop}(hr:Holds r w)(hu:UnG r v u)(h:∀(b:Bool) w',Ext w w'→K (.bool b) w'):zd Tryz.prog Tryz.Xo #[v] w K:=by
 refine Tryz.afR ?_
 unfold Tryz.aaE
 obtain⟨p0,cap0,vf,rfl,_,_,hst,hsl,hfn⟩:=hu
 obtain⟨qf,capf,rfl,_,_⟩:=hfn.sl.shape
 have hfl:u.fs.length≤9223372036854775807:=hfn.few
 have hsl':u.ss.length≤9223372036854775807:=hsl
 have S:=St.start hr
 refine S.box λb1 w1 S=>?_
 have S:StX noX w r w1 [.cell b1 [.slice p0 u.ss.length cap0,.slice qf u.fs.length capf,.int .i64 u.mn] 25]:=S
 refine gg_ ?_
 refine zm (c:=decide (40<(u.fs.length:Int))) (λ_ K2 hK2=>by refine gg_ ?_;exact hK2) ?_
 refine c_b (λ_=>h _ _ S.ext) (λ_=>?_)
 refine zi (ι:=Nat) (λi=>[.int .i64 (i:Nat)]) (λi w'=>i≤u.ss.length∧StX noX w r w' _) (λi=>u.ss.length-i) 0 rfl ⟨gzl _,S⟩ ?_
 clear S
 rintro i d w2 ⟨hi,S⟩ K6 hK6
 rw[gdz]
 refine gg_ ?_
 refine zj (λhlt=>?_) (λhge=>?_)
 ·have hlt:i<u.ss.length:=by omega
  obtain⟨b,off,q,capq,rfl,hcell,_,_,_⟩:=xB hst hlt
  refine gg_ ?_
  refine zf (by rw[tnc];exact S.at hcell) ?_
  refine gg_ ?_
  refine c_b (λ_=>h _ _ S.ext) (λ_=>?_)
  refine gg_ ?_
  rw[show ((i:Int)+1)=((i+1:Nat):Int)by omega]
  exact hK6 (i+1) _ ⟨hlt,S⟩ (by omega)
 refine zi (ι:=Nat×Int) (λi=>[.int .i64 i.2,.int .i64 (i.1:Nat)]) (λi w'=>i.1≤u.fs.length∧StX noX w r w' _) (λi=>u.fs.length-i.1) (0,0) rfl ⟨gzl _,S⟩ ?_
 clear S hK6 K6 hge hi
 rintro⟨i,n⟩ d w3 ⟨hi,S⟩ K7 hK7
 simp only at hi S⊢
 simp only[gdz,gds]
 refine gg_ ?_
 refine zj (λhlt=>?_) (λhge=>h _ _ S.ext)
 have hlt:i<u.fs.length:=by omega
 obtain⟨bf,of,cf,rfl,hcf,hgc,hfo⟩:=hfn.sl.get (by decide) hlt
 generalize u.fs[i]=g at hgc
 obtain⟨vo,vt,vn,vp,rfl,h1,h2,h3,h4⟩:=id hgc
 obtain⟨qt,capt,rfl,_,hct⟩:=h2.sl.shape
 obtain⟨qp,capp,rfl,_,_⟩:=h4.sl.shape
 have S:=S.go (Ext.drew _)
 have l4:Ob r λw=>w.cell? ⟨bf,of+i*7+4,none⟩=some (.slice qt g.tys.length capt):=hfo 4 _ rfl
 have l6:Ob r λw=>w.cell? ⟨bf,of+i*7+6,none⟩=some (.slice qp g.pts.length capp):=hfo 6 _ rfl
 refine gg_ ?_
 refine zf (by rw[tnc];exact S.at l6) ?_
 refine gg_ ?_
 refine zf (by rw[tnc];exact S.at l4) ?_
 refine gp_ ?_
 refine aaB λx=>?_
 refine aaB λy=>?_
 refine gg_ ?_
 refine zf (by rw[tnc];exact S.at l6) ?_
 refine gg_ ?_
 refine zm (c:=decide (120<(g.tys.length:Int))) (λ_ K2 hK2=>?_) ?_
 ·refine gg_ ?_
  refine zf (by rw[tnc];exact S.at l4) ?_
  refine gg_ ?_
  exact hK2
 refine zm (c:=decide (480<y)) (λ_ K2 hK2=>by refine gg_ ?_;exact hK2) ?_
 refine c_b (λ_=>h _ _ S.ext) (λ_=>?_)
 refine gg_ ?_
 rw[show ((i:Int)+1)=((i+1:Nat):Int)by omega]
 exact hK7 (i+1,y) _ ⟨hlt,S⟩ (by show u.fs.length-(i+1)<u.fs.length-i;omega)
theorem ahu{w:World}{K:Value→World→Prop}(h:∀v s w',Ext w w'→New w s w'→UnG s v zS→K v w'):zd Tryz.prog Tryz.Xp #[] w K:=by
 refine Tryz.afS ?_
 unfold Tryz.aaF
 have S:StX noX w nothing w []:=St.start (λ_ _ h=>h.elim)
 refine S.al λb0 w1 S=>?_
 refine S.lit (e:=84) (cs:=[.int .i64 (-1)]) (by kernel_rfl) λb2 w2 S=>?_
 refine zq (cs:=#[.int .i64 2,.slice (some ⟨b2,0,none⟩) 1 1]) (by kernel_rfl) ?_
 refine S.al λb1 w3 S=>?_
 refine S.stB (b:=b1) λw4 S=>?_
 have S:=S.go (Ext.drew _)
 refine zq (cs:=#[.int .i64 2,.slice none 0 0]) (by kernel_rfl) ?_
 refine zq (cs:=#[.int .i64 1,.slice none 0 0]) (by kernel_rfl) ?_
 refine zq (cs:=hl0.toArray) (by kernel_rfl) ?_
 refine zq (cs:=#[.int .i64 1,.slice none 0 0]) (by kernel_rfl) ?_
 refine S.ldB (b:=b1) ?_ rfl
 refine zq (cs:=hl3.toArray) (by kernel_rfl) ?_
 have S:=S.drop b1
 have fin:∀{w9:World}{b7 b8 b19 b21:Nat}{q6:Option Addr}{c6:Nat}{sn:Gh}{M M1 M2 M3 M4 M5:List Asr}(S:StX noX w (nothing.or sn) w9 M)
   [ZO b7 M (XH++(XH++tyL qQ q6 c6)) 43 M1] [ZO b8 M1 [.string ByteArray.empty,.string ByteArray.empty,.string ByteArray.empty] 9 M2] [ZO b2 M2 [.int .i64 (-1)] 84 M3]
   [ZO b19 M3 (hl0++(hl1++(hl2 b2++hl3))) 96 M4] [ZO b21 M4 [.string ByteArray.empty,.int .i64 0,.slice none 0 0,.int .i64 0,.slice (some ⟨b7,0,none⟩) 3 3,.slice (some ⟨b8,0,none⟩) 3 3,.slice (some ⟨b19,0,none⟩) 4 4] 101 M5],
   Above w sn→TyG sn (tyV qQ q6 c6) qQ→K (.agg #[.slice none 0 0,.slice (some ⟨b21,0,none⟩) 1 1,.int .i64 0]) w9:=by
  intro w9 b7 b8 b19 b21 q6 c6 sn M M1 M2 M3 M4 M5 S _ _ _ _ _ ha ht
  obtain⟨S,h7,a7⟩:=S.litNew b7 (sz:=5) (R:=TyC sn) (l:=[yk,yk,qQ]) (by exact(yR rfl XE (yR rfl XE (xg rfl ht)))) (by decide)
  obtain⟨S,h8,a8⟩:=S.litNew b8 (sz:=1) (R:=akJ) (l:=[ByteArray.empty,ByteArray.empty,ByteArray.empty]) (by exact(yR (c:=[.string ByteArray.empty]) rfl rfl (yR (c:=[.string ByteArray.empty]) rfl rfl (xg rfl rfl)))) (by decide)
  obtain⟨S,h2,a2⟩:=S.litNew b2 (sz:=1) (R:=xE) (l:=[-1]) (by exact(xg rfl ⟨rfl,by unfold QG;omega⟩)) (by decide)
  have hz:∀{r:Gh}{α:Type}{sz:Nat}{R:List Value→α→Prop},SlB sz r R (.slice none 0 0) ([]:List α):=aik
  obtain⟨S,h19,a19⟩:=S.litNew b19 (sz:=21) (R:=PtG (Go.Sh.one b2 [.int .i64 (-1)] 84)) (l:=[hp0,hp1,hp2,hp3])
   (by exact(yR rfl ⟨_,_,_,_,_,rfl,hz,hz,hz,hz,hz⟩ (yR rfl ⟨_,_,_,_,_,rfl,hz,hz,hz,hz,hz⟩ (yR rfl ⟨_,_,_,_,_,rfl,Ji h2,hz,hz,hz,hz⟩ (xg rfl ⟨_,_,_,_,_,rfl,hz,hz,hz,hz,hz⟩))))) (by decide)
  obtain⟨S,h21,a21⟩:=S.litNew b21 (sz:=7) (R:=GrG (((((nothing.or sn).or (Go.Sh.one b7 (XH++(XH++tyL qQ q6 c6)) 43)).or (Go.Sh.one b8 [.string ByteArray.empty,.string ByteArray.empty,.string ByteArray.empty] 9)).or (Go.Sh.one b2 [.int .i64 (-1)] 84)).or (Go.Sh.one b19 (hl0++(hl1++(hl2 b2++hl3))) 96))) (l:=[zJ])
   (by exact(xg rfl ⟨_,_,_,_,rfl,hz,Ji (h7.up' inferInstance λc x hx=>TyG.up hx),Ji h8.cells,Ji (h19.up' inferInstance λc x hx=>PtG.up hx)⟩)) (by decide)
  exact h _ _ _ S.ext (S.newOf (((((Above.no.or' ha).or' a7).or' a8).or' a2).or' a19 |>.or' a21)) ⟨none,0,_,rfl,λ_=>rfl,gzl _,trivial,gzl _,Ji (h21.up' inferInstance λc x hx=>GrG.up hx)⟩
 repeat' (first
  |(with_reducible refine abF λw9 e9=>⟨e9,?_⟩;have S:=S.go e9)
  |(with_reducible refine ah5 λw9 e9=>⟨e9,?_⟩;have S:=S.go e9)
  |(with_reducible refine ah6 λq6 c6 sn w9 e9 n9 t9=>⟨e9,?_⟩;obtain⟨S,d9,a9⟩:=S.tell e9 n9)
  |(with_reducible refine S.litU (t:=41) (e:=43) (cs:=XH++(XH++tyL qQ q6 c6)) (by kernel_rfl) λb7 w9 S=>?_)
  |(with_reducible refine S.mkSU (by decide) (by decide) λb8 w9 S=>?_)
  |(with_reducible refine zq (t:=96) (parts:=#[(0,.int .u8 1),(1,.agg #[.int .i64 1,.slice none 0 0]),(2,ane 2),(10,.int .i64 2)]) (cs:=hl1.toArray) (by kernel_rfl) ?_)
  |(with_reducible refine zq (t:=96) (cs:=(hl2 b2).toArray) (by kernel_rfl) ?_)
  |(with_reducible refine S.lit (t:=99) (e:=96) (cs:=hl0++(hl1++(hl2 b2++hl3))) (by kernel_rfl) λb19 w9 S=>?_)
  |(with_reducible refine zq (t:=101) (cs:=#[.string ByteArray.empty,.int .i64 0,.slice none 0 0,.int .i64 0,.slice (some ⟨b7,0,none⟩) 3 3,.slice (some ⟨b8,0,none⟩) 3 3,.slice (some ⟨b19,0,none⟩) 4 4]) (by kernel_rfl) ?_)
  |(with_reducible refine S.lit (t:=23) (e:=101) (cs:=[.string ByteArray.empty,.int .i64 0,.slice none 0 0,.int .i64 0,.slice (some ⟨b7,0,none⟩) 3 3,.slice (some ⟨b8,0,none⟩) 3 3,.slice (some ⟨b19,0,none⟩) 4 4]) (by kernel_rfl) λb21 w9 S=>?_)
  |(with_reducible refine zq (t:=25) (cs:=#[.slice none 0 0,.slice (some ⟨b21,0,none⟩) 1 1,.int .i64 0]) (by kernel_rfl) ?_)
  |(with_reducible refine And.intro ?_ ?_)
  |(refine S.stB (b:=b0) λw9 S=>?_;refine S.ceB (b:=b0) ?_ rfl;exact fin (b7:=b7) (b8:=b8) (b19:=b19) (b21:=b21) S a9 t9)
)
section
variable {ss:List StD} {tys:List TyD} {p q:PlD} {d:Int}
theorem J7(hst:(zw ss).2=0)(hf:yY ss tys)(h0:0≤p.l)(hl:p.l.toNat<tys.length):zz ss tys p=if p.ps.length≤8 then zD ss p.ps tys[p.l.toNat]else none:=by
 have hall:(tys.all λt=>mayB ss t)=true:=List.all_eq_true.2 λt ht=>by
  rw[mayB,gde hst,Bool.true_and];exact hf.all _ ht
 have hg:tys.getD p.l.toNat zF=tys[p.l.toNat]:=by rw[ggd,gqg hl];rfl
 have ho:zW ss tys p=decide (p.ps.length≤8):=by
  rw[zW,gde h0,gde (show p.l<tys.length by omega),gde hst,hall];simp
 rw[zz,ho,hg]
 by_cases h:p.ps.length≤8
 ·rw[if_pos (gde h),if_pos h]
 ·rw[if_neg (by simpa using h),if_neg h]
theorem Zv(hst:(zw ss).2=0)(hf:yY ss tys)(h0:0≤p.l)(hl:p.l.toNat<tys.length):zz ss [tys[p.l.toNat]] ⟨0,p.ps⟩=zz ss tys p:=by
 rw[J7 hst hf h0 hl]
 exact Ql hst (by rw[mayB,gde hst,Bool.true_and];exact hf.all _ (gem hl))
theorem ahv(h:(zz ss tys p).isSome=true):0≤p.l∧p.l.toNat<tys.length:=by
 unfold zz at h
 split at h
 ·rename_i ho
  simp only[zW,gba,gdt]at ho
  exact⟨ho.1.1.1,by omega⟩
 ·cases h
theorem Y6(hst:(zw ss).2=0)(hf:yY ss tys):(zk ss tys p).2.2=(zz ss tys p).isSome:=by
 rw[Bool.eq_iff_iff,Qm hst hf]
 constructor
 ·rintro⟨h0,hl,x,hx,_⟩
  rw[← Zv hst hf h0 hl,hx];rfl
 ·intro h
  obtain⟨h0,hl⟩:=ahv h
  obtain⟨x,hx⟩:=Option.isSome_iff_exists.1 h
  refine⟨h0,hl,x,by rw[Zv hst hf h0 hl,hx],?_⟩
  rw[J7 hst hf h0 hl]at hx
  split at hx
  ·rename_i h8
   unfold zk
   rw[if_neg (by omega),gqg hl]
   show(match goG ss p.ps (tys[p.l.toNat],0) with|some s=>(s.1,s.2,decide (p.ps.length≤8))|none=>(zF,0,false))=_
   rw[JZ _ _ _ (Int.le_refl _),hx]
   show(x.1,yE 0 x.2,decide (p.ps.length≤8))=_
   rw[gde h8]
  ·cases hx
theorem air(h:yp p q=false):(qj ss tys p q d).1=false:=by
 unfold qj
 split
 ·rfl
 ·split
  ·rfl
  ·rw[h];rfl
theorem amt(h:yp p q=true):p.l=q.l:=by
 rw[yp]at h;simp only[gba,gdt]at h;exact h.1
theorem amu(h:p.l=q.l):yp ⟨0,p.ps⟩ ⟨0,q.ps⟩=yp p q:=by
 rw[yp,yp,gde h,gde (show(0:Int)=0 by rfl)]
theorem als(hst:(zw ss).2=0)(hf:yY ss tys)(h0:0≤p.l)(hl:p.l.toNat<tys.length)(he:p.l=q.l):qj ss [tys[p.l.toNat]] ⟨0,p.ps⟩ ⟨0,q.ps⟩ d=qj ss tys p q d:=by
 have h1:=Zv hst hf h0 hl
 have h2:zz ss [tys[p.l.toNat]] ⟨0,q.ps⟩=zz ss tys q:=by
  have:=Zv (p:=q) hst hf (by omega) (by omega)
  simp only[← he]at this
  exact this
 rw[qj,qj,h1,h2,amu he]
end
theorem ann{u:UnD}{g:GrD}{x:LnD}{a:AcD}(hst:(zw u.ss).2=0)(hf:yY u.ss g.tys)(h0:0≤x.pl.l)(h1:x.pl.l.toNat<g.tys.length):jn u g x a=((a.wr||x.mu)&&(yp x.pl a.pl||(qj u.ss g.tys a.pl x.pl a.d).1)):=by
 rw[jn]
 cases hw:a.wr<;>cases hm:x.mu<;>simp only[Bool.not_true,Bool.not_false,Bool.and_true,Bool.and_false,Bool.true_and,Bool.false_and,Bool.or_true,Bool.or_false,Bool.true_or,Bool.false_or,if_true,if_false,Bool.false_eq_true]
 all_goals
  cases hp:yp x.pl a.pl with
  |true=>simp
  |false=>
   simp only[Bool.false_eq_true,if_false,Bool.false_or]
   cases hq:yp a.pl x.pl with
   |false=>rw [air hq];simp
   |true=>
    have he:=amt hq
    have hl:a.pl.l.toNat<g.tys.length:=by rw[he];exact h1
    rw[gqg hl]
    simp only[if_true]
    rw[als hst hf (by omega) hl he]
theorem amv{u:UnD}{fn:Int}{g:GrD}(F:IsF u fn g):∀x∈lkS u fn g,(zz u.ss g.tys x.pl).isSome=true:=λx hx=>by
 obtain⟨q,p,_,hp,ho,rfl⟩:=J5 hx
 have hlt:=(List.getElem?_eq_some_iff.1 hp).1
 have hpe:=(List.getElem?_eq_some_iff.1 hp).2
 have h:=J0 (F.pts p (hpe▸gem hlt)) (.inl ho)
 rw[Y6 F.may.ok (F.head.fine F.may.ok)]at h
 exact h
section
variable {g:GrD} {x:LnD} {ws rs:List (BitVec 64)}
def Z6(ws rs:List (BitVec 64))(p:Int):Bool:=bit ws p.toNat && !bit rs p.toNat
theorem afc{p:Int}:Z6 ws rs p=true↔bit ws p.toNat=true∧¬bit rs p.toNat=true:=by
 rw[Z6,gba,Bool.not_eq_true',Bool.not_eq_true]
def minF(ws rs:List (BitVec 64))(f:Int)(A:List Int):Int:=A.foldl (λf p=>if Z6 ws rs p=true then min f p else f) f
theorem ako{f:Int}{A:List Int}{i:Nat}(hi:i<A.length):minF ws rs f (A.take (i+1))=if Z6 ws rs A[i]=true then min (minF ws rs f (A.take i)) A[i]else minF ws rs f (A.take i):=by
 rw[minF,minF,List.take_succ_eq_append_getElem hi,List.foldl_append];rfl
theorem aeB{n:Int}:∀{A:List Int}{f:Int},(∀p∈A,p<n)→(minF ws rs f A<n↔f<n∨∃p∈A,bit ws p.toNat=true∧¬bit rs p.toNat=true)
 |[],f,_=>by simp[minF]
 |a::A,f,h=>by
  have ih:=aeB (A:=A) (f:=if Z6 ws rs a=true then min f a else f) λp hp=>h p (List.mem_cons_of_mem _ hp)
  have e:minF ws rs f (a::A)=minF ws rs (if Z6 ws rs a=true then min f a else f) A:=rfl
  have ha:=h a List.mem_cons_self
  rw[e,ih]
  by_cases hc:Z6 ws rs a=true
  ·rw[if_pos hc]
   exact⟨λ_=>.inr ⟨a,List.mem_cons_self,afc.1 hc⟩,λ_=>.inl (by omega)⟩
  ·rw[if_neg hc]
   constructor
   ·rintro(h1|⟨p,hp,h2⟩)
    ·exact .inl h1
    ·exact .inr ⟨p,List.mem_cons_of_mem _ hp,h2⟩
   ·rintro(h1|⟨p,hp,h2⟩)
    ·exact .inl h1
    ·rcases List.mem_cons.1 hp with rfl|hp
     ·exact absurd (afc.2 h2) hc
     ·exact .inr ⟨p,hp,h2⟩
def eachF(g:GrD)(x:LnD)(ws rs:List (BitVec 64))(f:Int)(E:List Nat):Int:=E.foldl (λ(f:Int) (q:Nat)=>if qm g x (q:Int)=true then f else minF ws rs f (xi g (q:Int))) f
theorem ajh{f:Int}{E:List Nat}{k q:Nat}(hk:E[k]? = some q):eachF g x ws rs f (E.take (k+1))=if qm g x (q:Int)=true then eachF g x ws rs f (E.take k)else minF ws rs (eachF g x ws rs f (E.take k)) (xi g (q:Int)):=by
 obtain⟨hi,he⟩:=List.getElem?_eq_some_iff.1 hk
 rw[eachF,eachF,List.take_succ_eq_append_getElem hi,List.foldl_append,he];rfl
theorem ahw{n:Int}(hn:∀q:Int,∀p∈xi g q,p<n):∀{E:List Nat}{f:Int},(eachF g x ws rs f E<n↔f<n∨∃q∈E,qm g x (q:Int)=false∧∃p∈xi g (q:Int),bit ws p.toNat=true∧¬bit rs p.toNat=true)
 |[],f=>by simp[eachF]
 |a::E,f=>by
  have ih:=ahw hn (E:=E) (f:=if qm g x (a:Int)=true then f else minF ws rs f (xi g (a:Int)))
  have e:eachF g x ws rs f (a::E)=eachF g x ws rs (if qm g x (a:Int)=true then f else minF ws rs f (xi g (a:Int))) E:=rfl
  rw[e,ih]
  cases hc:qm g x (a:Int)with
  |true=>
   rw[if_pos rfl]
   constructor
   ·rintro(h1|⟨q,hq,h2⟩)
    ·exact .inl h1
    ·exact .inr ⟨q,List.mem_cons_of_mem _ hq,h2⟩
   ·rintro(h1|⟨q,hq,h2⟩)
    ·exact .inl h1
    ·rcases List.mem_cons.1 hq with rfl|hq
     ·rw[hc]at h2;exact absurd h2.1 (by decide)
     ·exact .inr ⟨q,hq,h2⟩
  |false=>
   rw[if_neg (by decide),aeB (hn _)]
   constructor
   ·rintro((h1|h1)|⟨q,hq,h2⟩)
    ·exact .inl h1
    ·exact .inr ⟨a,List.mem_cons_self,hc,h1⟩
    ·exact .inr ⟨q,List.mem_cons_of_mem _ hq,h2⟩
   ·rintro(h1|⟨q,hq,h2⟩)
    ·exact .inl (.inl h1)
    ·rcases List.mem_cons.1 hq with rfl|hq
     ·exact .inl (.inr h2.2)
     ·exact .inr ⟨q,hq,h2⟩
theorem acn{W:Int}(hm:BM.May W rs){k:Nat}:k∈Z5 W rs↔k<W.toNat∧bit rs k=true:=by
 rw[ae8 hm,ai7 hm,List.mem_filter,List.mem_range]
theorem amw{u:UnD}(hpt:∀p∈g.pts,zI u g p=true)(hm:BM.May (g.pts.length:Int) rs):
  eachF g x ws rs (minF ws rs g.pts.length (xi g x.q)) (Z5 (g.pts.length:Int) rs)<g.pts.length↔¬aaD g x ws rs:=by
 have hn:∀q:Int,∀p∈xi g q,p<(g.pts.length:Int):=λq p hp=>(Ju hpt p hp).2
 rw[ahw hn,aeB (hn _)]
 constructor
 ·rintro((h|⟨p,hp,h1,h2⟩)|⟨q,hq,hk,p,hp,h1,h2⟩) hc
  ·omega
  ·exact h2 (hc.1 p hp h1)
  ·rw[acn hm]at hq
   exact h2 (hc.2 q (by omega) (by omega) (by rw[tnc];exact hq.2) hk p hp h1)
 ·intro hc
  refine Classical.byContradiction λhno=>hc ⟨λp hp h1=>?_,λq h0 h1 hq hk p hp h2=>?_⟩
  ·exact Classical.byContradiction λh2=>hno (.inl (.inr ⟨p,hp,h1,h2⟩))
  ·refine Classical.byContradiction λh3=>hno (.inr ⟨q.toNat,(acn hm).2 ⟨by omega,hq⟩,?_,p,?_,h2,h3⟩)
   ·rw[show ((q.toNat:Nat):Int)=q by omega];exact hk
   ·rw[show ((q.toNat:Nat):Int)=q by omega];exact hp
end
end
end Go.Proofs
namespace Go.Sh
theorem StX.alNU{P:Program}{X:Nat→Prop}{w0 w:World}{r:Gh}{L:List Asr}{t:TypeId}{c:List Value}(S:StX X w0 r w L)[z:ZrT P t c]{K:Value→World→Prop}(h:∀b w',StX X w0 r w' (.cell b c t::L)→K (.pointer (some ⟨b,0,none⟩)) w'):
  opW P w (Instr.alloc t true (.tuple #[])) λt' w'=>NC w w'∧Ext w w'∧K t' w':=
 adL z.h λb w' hb e _ B=>⟨NC.of_ext e,e,h b w' (S.add e (by omega) B)⟩
end Go.Sh
namespace Go.Proofs
open Go.Sh Go.RowKit Go.BM
section
section
variable {u:UnD} {g:GrD} {d:RgD} {e:Int} {ls:List LnD} {b:Nat} {w:World} {r:Gh} {K:Value→World→Prop}
abbrev aji(b12 b15 b16 b17:Nat):Value:=.func (.func Tryz.X0) #[] #[.pointer (some ⟨b12,0,none⟩),.pointer (some ⟨b15,0,none⟩),.pointer (some ⟨b16,0,none⟩),.pointer (some ⟨b17,0,none⟩)]
theorem Jw{q f:Int}{b12 b15 b16 b17:Nat}{X:Nat→Prop}{w0:World}{M:List Asr}{W W2:Int}{ws rs:List (BitVec 64)}{cr cq:List Value}(S:StX X w0 r w (.cell b17 [.int .i64 f] 3::M))(hL:LkG2 r b u g d e ls)
  (h12:Ob r λw=>w.cell? ⟨b12,0,none⟩=some (.pointer (some ⟨b,0,none⟩))) (hrw:RwbC r cr (W,ws)) (h15:∀j v,cr[j]? = some v→Ob r λw=>w.cell? ⟨b15,j,none⟩=some v)
  (hrs:RwbC r cq (W2,rs)) (h16:∀j v,cq[j]? = some v→Ob r λw=>w.cell? ⟨b16,j,none⟩=some v)
  (hwl:ws.length≤100000) (hws:g.pts.length≤64*ws.length) (hsl:rs.length≤100000) (hss:g.pts.length≤64*rs.length) (hq0:0≤q) (hq:q.toNat<g.pts.length) (hnx:∀p∈nextP g.pts[q.toNat],0≤p∧p<g.pts.length)
  (h:∀w',NC w w'→StX X w0 r w' (.cell b17 [.int .i64 (minF ws rs f (nextP g.pts[q.toNat]))] 3::M)→K (.tuple #[]) w'):
  zE Tryz.prog (aji b12 b15 b16 b17) #[.int .i64 q] w K:=by
 refine alJ (by kernel_rfl) ?_
 refine Tryz.acg ?_
 unfold Tryz.Qq
 have hlow:=S.low
 have R:=S.part
 refine zf (R.at h12) ?_
 refine QO R.holds hL hq0 hq λv10 w1 e1 o1=>⟨NC.of_ext e1,?_⟩
 have hfl:=afb (p:=g.pts[q.toNat])
 generalize nextP g.pts[q.toNat]=A at hnx h o1 hfl
 obtain⟨s1,R,hs1,hb1,_⟩:=(R.take e1 o1).doneRow qJ (by decide) rfl
 haveI:jP s1:=⟨λb o h=>by obtain⟨c,rfl⟩:=hb1 b o h;rfl⟩
 obtain⟨qr,kr,rfl,_,_⟩:=hs1.shape
 obtain⟨pw',cw,rfl,hws'⟩:=id hrw
 obtain⟨pq',cq',rfl,hrs'⟩:=id hrs
 refine gg_ ?_
 refine zi (ι:=Nat) (λi=>[.int .i64 (i:Nat)]) (λi w'=>i≤A.length∧StX (Xb (.cell b17 [.int .i64 f] 3::M)) w (r.or s1) w' (.cell b17 [.int .i64 (minF ws rs f (A.take i))] 3::M)) (λi=>A.length-i) 0 rfl ⟨gzl _,R⟩ ?_
 clear R
 rintro i d0 w3 ⟨hi,R⟩ K2 hK2
 simp only[gdz]
 refine gg_ ?_
 refine zj (λhlt=>?_) (λhge=>?_)
 ·have hlt:i<A.length:=by omega
  have hsn:=ako (ws:=ws) (rs:=rs) (f:=f) hlt
  obtain⟨b8,o8,rfl,_,hc8⟩:=xR hs1 hlt
  have hp:=hnx _ (gem hlt)
  generalize A[i]=p at hsn hc8 hp
  generalize minF ws rs f (A.take i)=m at R hsn
  refine zn (λ_ w'=>StX (Xb (.cell b17 [.int .i64 f] 3::M)) w (r.or s1) w' (.cell b17 [.int .i64 (minF ws rs f (A.take (i+1)))] 3::M)) (λK6 hK6=>?_) ?_
  ·rw[hsn]at hK6
   refine gg_ ?_
   refine zf (by rw[tnc];exact R.at (Ob.up (s:=r.or s1) hc8)) ?_
   refine zo (n:=2) (c:=[.int .i64 W,.slice pw' ws.length cw]) rfl (λj v hj=>by rw[Nat.zero_add];exact R.at (Ob.up (s:=r.or s1) (h15 j v hj))) ?_
   refine jH R.holds (RwbC.up hrw) hp.1 (by omega) hwl λw4 e4=>⟨NC.of_ext e4,?_⟩
   have R:=R.go e4
   refine zr (c:=!bit rs p.toNat) (λ_ K7 hK7=>?_) λw5 e5=>?_
   ·refine zo (n:=2) (c:=[.int .i64 W2,.slice pq' rs.length cq']) rfl (λj v hj=>by rw[Nat.zero_add];exact R.at (Ob.up (s:=r.or s1) (h16 j v hj))) ?_
    refine jH R.holds (RwbC.up hrs) hp.1 (by omega) hsl λw6 e6=>⟨NC.of_ext e6,?_⟩
    refine gp_ ?_
    exact hK7 _ e6
   have R:=R.go e5
   refine c_b (λhc=>?_) (λhc=>?_)
   ·rw[if_pos (show Z6 ws rs p=true from hc)]at hK6
    refine R.ld (b:=b17) ?_
    refine alH ?_
    refine R.stN' (b:=b17) λw7 R=>?_
    exact hK6 [] _ R
   ·rw[if_neg (show¬Z6 ws rs p=true by rw[Z6,hc];decide)]at hK6
    exact hK6 [] _ R
  ·clear R
   rintro _ w9 R d
   refine gg_ ?_
   exact hK2 (i+1) _ ⟨hlt,R⟩ (by omega)
 ·have hie:i=A.length:=by omega
  rw[hie,List.take_length]at R
  intro w17 e17
  have R:=R.shut e17
  have R:=R.less (q:=r) (λb o h=>.inl h) (List.Sublist.refl _)
  exact h _ (NC.of_doms S R.x) (S.whole R λ_ h=>h)
theorem aaG{R:List xF}{v:Value}{k:Nat}(hr:Holds r w)(hL:LkG2 r b u g d e ls)(hM:MayU u)(hH:HeadU u k g)(hpt:∀p∈g.pts,zI u g p=true)(hR:SlG 2 r (RwbC r) v R)(hf:R.length≤1000000)
  (h:∀x w',Ext w w'→(e=0→x=z7 R d.ct (g.pts.length+g.lv))→K (.bool x) w'):
  zd Tryz.prog Tryz.xo #[.pointer (some ⟨b,0,none⟩),v] w K:=
 abz hr hL hM hH hpt hR hf (λ_ w' e'=>h _ w' e' λ_=>rfl) λhe x w' e'=>h x w' e' λh0=>absurd h0 he
theorem afT{fn:Int}{v:Value}{R Q:List xF}{vR vQ:Value}(hr:Holds r w)(hu:UnG r v u)(hR:SlG 2 r (RwbC r) vR R)(hQ:SlG 2 r (RwbC r) vQ Q)(hf:R.length≤1000000)(hfq:Q.length≤1000000)(hT:TabG r)
  (h0:∀e w',e≠0→(∀g,IsF u fn g→lkE u fn=0→z7 R (lkR u fn).ct (g.pts.length+g.lv)=true→z7 Q (lkS u fn g).length g.pts.length=false)→Ext w w'→K (.tuple #[.int .i64 0,.int .i64 0,.bool false,.int .i64 e]) w')
  (h1:∀g,IsF u fn g→lkE u fn=0→z7 R (lkR u fn).ct (g.pts.length+g.lv)=true→z7 Q (lkS u fn g).length g.pts.length=true→∀(i p:Int)(ok:Bool) w',Ext w w'→(ok=true↔∀n (hn:n<(lkS u fn g).length),aaD g (lkS u fn g)[n] (R.getD (lkS u fn g)[n].re.toNat (0,[])).2 (Q.getD n (0,[])).2)→K (.tuple #[.int .i64 i,.int .i64 p,.bool ok,.int .i64 0]) w'):
  zd Tryz.prog Tryz.Yt #[v,.int .i64 fn,vR,vQ] w K:=by
 refine Tryz.aer ?_
 unfold Tryz.Vw
 obtain⟨pR,capR,rfl,_,_⟩:=hR.shape
 obtain⟨pQ,capQ,rfl,_,_⟩:=hQ.shape
 obtain⟨p0,cap0,vf,rfl,_,_,_,_,_⟩:=id hu
 have S:=St.start hr
 have hlow:=S.low
 refine S.boxN λb4 w1 _ S=>?_
 have S:StX noX w r w1 [.cell b4 [.slice p0 u.ss.length cap0,vf,.int .i64 u.mn] 25]:=S
 refine S.ldB (b:=b4) ?_ rfl
 refine jm S.holds hu (λhi w2 e2=>⟨NC.of_ext e2,?_⟩) λhi g b s w2 hg e2 n2 hL=>⟨NC.of_ext e2,?_⟩
 ·have S:=S.go e2
  refine gp_ ?_
  refine gp_ ?_
  refine S.alN λb12 w3 _ S=>?_
  refine S.stN' (b:=b12) λw4 S=>?_
  refine zn (λx w'=>x=[.int .i64 2]∧w'=w4) (λK3 hK3=>?_) ?_
  ·refine gp_ ?_
   refine c_f rfl ?_
   exact hK3 _ _ ⟨rfl,rfl⟩
  rintro _ _ ⟨rfl,rfl⟩ d
  rw[gdz]
  refine gp_ ?_
  refine c_t rfl ?_
  intro w16 e16
  exact h0 2 _ (by decide) (λg F=>by have:=F.is;rw[hi]at this;cases this) (S.shut e16).ext
 obtain⟨S,_,ha⟩:=S.tell e2 n2
 have F:=isF hi hg
 have hlf:(lkS u fn g).length≤1000000:=Nat.le_trans kz (by have:=F.head.pt1024;omega)
 refine gp_ ?_
 refine gp_ ?_
 refine S.alN λb12 w3 _ S=>?_
 refine S.stN' (b:=b12) λw4 S=>?_
 have S:StX noX w (r.or s) w4 [.cell b12 [.pointer (some ⟨b,0,none⟩)] 151,.cell b4 [.slice p0 u.ss.length cap0,vf,.int .i64 u.mn] 25]:=S
 have S:=(S.frzAt b12).tl
 have h12:Ob ((r.or s).or (Go.Sh.one b12 [.pointer (some ⟨b,0,none⟩)] 151)) λw=>w.cell? ⟨b12,0,none⟩=some (.pointer (some ⟨b,0,none⟩)):=xK (i:=0) (c:=[.pointer (some ⟨b,0,none⟩)]) (T:=151) rfl
 have hL:LkG2 ((r.or s).or (Go.Sh.one b12 [.pointer (some ⟨b,0,none⟩)] 151)) b u g (lkR u fn) (lkE u fn) (lkS u fn g):=hL.up
 have hR2:SlG 2 ((r.or s).or (Go.Sh.one b12 [.pointer (some ⟨b,0,none⟩)] 151)) (RwbC ((r.or s).or (Go.Sh.one b12 [.pointer (some ⟨b,0,none⟩)] 151))) (.slice pR R.length capR) R:=hR.up' inferInstance λ_ _ h=>RwbC.up (RwbC.up (s:=r.or s) h)
 have hQ2:SlG 2 ((r.or s).or (Go.Sh.one b12 [.pointer (some ⟨b,0,none⟩)] 151)) (RwbC ((r.or s).or (Go.Sh.one b12 [.pointer (some ⟨b,0,none⟩)] 151))) (.slice pQ Q.length capQ) Q:=hQ.up' inferInstance λ_ _ h=>RwbC.up (RwbC.up (s:=r.or s) h)
 have hT2:TabG ((r.or s).or (Go.Sh.one b12 [.pointer (some ⟨b,0,none⟩)] 151)):=TabG.up (TabG.up (s:=r.or s) hT)
 have le0:Le r ((r.or s).or (Go.Sh.one b12 [.pointer (some ⟨b,0,none⟩)] 151)):=inferInstance
 generalize ((r.or s).or (Go.Sh.one b12 [.pointer (some ⟨b,0,none⟩)] 151))=r' at S h12 hL hR2 hQ2 hT2 le0
 have fin:∀{W W':World}{q:Gh}{L:List Asr},StX noX w q W L→(∀b o,r b o→q b o)→Shuts w.heap.size W W'→Ext w W':=λS hq e=>((S.less hq (List.nil_sublist _)).shut e).ext
 refine zn (λx w'=>∃x0,(lkE u fn=0→x0=z7 R (lkR u fn).ct (g.pts.length+g.lv))∧x=[.int .i64 (if(x0&&z7 Q (lkS u fn g).length g.pts.length)=true then lkE u fn else 2)]∧StX noX w r' w' []) (λK5 hK5=>?_) ?_
 ·refine gp_ ?_
  refine c_t rfl ?_
  have S:=S.go (Ext.drew _)
  refine zf (S.at h12) ?_
  refine zf (S.at h12) ?_
  refine aaG S.holds hL F.may F.head F.pts hR2 hf λx0 w9 e9 hx0=>⟨NC.of_ext e9,e9,?_⟩
  have S:=S.go e9
  refine zr (c:=z7 Q (lkS u fn g).length g.pts.length) (λ_ K2 hK2=>?_) λw13 e13=>?_
  ·refine zf (S.at h12) ?_
   refine VB S.holds hL hQ2 hfq λw14 e14=>⟨NC.of_ext e14,e14,?_⟩
   exact hK2 _ e14
  have S:=S.go e13
  refine xA S.holds hL ?_
  exact⟨NC.of_ext (Ext.refl _),hK5 _ _ ⟨x0,hx0,rfl,S⟩⟩
 clear S
 rintro _ w8 ⟨x0,hx0,rfl,S⟩ dd
 rw[gdz]
 refine gp_ ?_
 refine zj (λhne=>?_) (λhe=>?_)
 ·intro w16 e16
  refine h0 _ _ hne (λg' F' hz hgr=>?_) (fin S le0.le e16)
  obtain rfl:g'=g:=Option.some.inj (F'.at'.symm.trans hg)
  cases hh:z7 Q (lkS u fn g').length g'.pts.length with
  |false=>rfl
  |true=>
   have h2:(x0&&z7 Q (lkS u fn g').length g'.pts.length)=true:=by rw[hx0 hz,hgr,hh];rfl
   rw[h2,if_pos rfl]at hne
   exact absurd hz hne
 have hgood:(x0&&z7 Q (lkS u fn g).length g.pts.length)=true:=by
  cases hh:(x0&&z7 Q (lkS u fn g).length g.pts.length)with
  |true=>rfl
  |false=>rw [hh,if_neg (by decide)]at he;exact absurd (show(2:Int)≠0 by decide) he
 have hz:lkE u fn=0:=by rw[hgood,if_pos rfl]at he;omega
 rw[gba]at hgood
 have hgR:z7 R (lkR u fn).ct (g.pts.length+g.lv)=true:=by rw[← hx0 hz];exact hgood.1
 have hgQ:=hgood.2
 have h1:=h1 g F hz hgR hgQ
 rw[hx0 hz,hgR,hgQ]
 have hre:=aho F hz
 generalize lkS u fn g=ls at *
 have hRl:=Jv hgR
 have hQl:=Jv hgQ
 have hn:=F.head.pt1024
 have hlv:=F.head.lv0
 have hpt:=F.pts
 have hnx:∀q:Int,∀hq:q.toNat<g.pts.length,∀p∈nextP g.pts[q.toNat],0≤p∧p<g.pts.length:=λq hq p hp=>Ju hpt (q:=q) p (by rw[vX hq];exact hp)
 obtain⟨pl,cl,hlc,hls⟩:=id hL.lns
 obtain⟨pp,cpp,hpc,hps⟩:=id hL.pts
 refine zf (S.at h12) ?_
 refine gg_ ?_
 refine zf (S.at hlc) ?_
 refine gg_ ?_
 refine zi (ι:=Nat) (λi=>[.int .i64 (if(true&&true)=true then lkE u fn else 2),.int .i64 (i:Nat)]) (λi w'=>i≤ls.length∧(∀n (hn:n<ls.length),n<i→aaD g ls[n] (R.getD ls[n].re.toNat (0,[])).2 (Q.getD n (0,[])).2)∧StX noX w r' w' []) (λi=>ls.length-i) 0 rfl ⟨gzl _,λn _ hn=>absurd hn (Nat.not_lt_zero _),S⟩ ?_
 repeat clear S
 rintro i d0 w20 ⟨hi,hno,S⟩ K17 hK17
 simp only[gdz,gds]
 refine gg_ ?_
 refine zj (λhlt=>?_) (λhge=>?_)
 ·have hlt:i<ls.length:=by omega
  obtain⟨bo,oo,co,hqo,hcl,hoc,hoo⟩:=hls.get (by decide) hlt
  have hx:=hre _ (gem hlt)
  have hxr:ls[i].re.toNat<R.length:=by have:=hRl.1;omega
  have hiq:i<Q.length:=by have:=hQl.1;omega
  obtain⟨br,or',cr,hqr,hclr,hrc,hro⟩:=hR2.get (by decide) hxr
  obtain⟨bq,oq,cq,hqq,hclq,hqc,hqo'⟩:=hQ2.get (by decide) hiq
  have hRx:=hRl.2 _ hxr
  have hQx:=hQl.2 _ hiq
  have hgd:R.getD ls[i].re.toNat (0,[])=R[ls[i].re.toNat]:=by rw[ggd,gqg hxr];rfl
  have hgq:Q.getD i (0,[])=Q[i]:=by rw[ggd,gqg hiq];rfl
  have hnext:(aaD g ls[i] R[ls[i].re.toNat].2 Q[i].2)→∀n (hn:n<ls.length),n<i+1→aaD g ls[n] (R.getD ls[n].re.toNat (0,[])).2 (Q.getD n (0,[])).2:=λhc n hn hni=>by
   rcases Nat.lt_or_ge n i with h|h
   ·exact hno n hn h
   ·obtain rfl:n=i:=by omega
    rw[hgd,hgq];exact hc
  have hbad:¬(aaD g ls[i] R[ls[i].re.toNat].2 Q[i].2)→¬∀n (hn:n<ls.length),aaD g ls[n] (R.getD ls[n].re.toNat (0,[])).2 (Q.getD n (0,[])).2:=λhc hh=>hc (by have:=hh i hlt;rwa[hgd,hgq]at this)
  generalize R[ls[i].re.toNat]=y0 at hrc hRx hnext hbad
  generalize Q[i]=y1 at hqc hQx hnext hbad
  clear hgd hgq
  generalize ls[i]=x at hoc hx hxr hqr hro hnext hbad
  obtain⟨W,ws⟩:=y0
  obtain⟨W2,rs⟩:=y1
  obtain⟨hWe,hmay⟩:=hRx
  obtain⟨hWe2,hmay2⟩:=hQx
  have hWe:W=(g.pts.length:Int)+g.lv:=hWe
  have hWe2:W2=(g.pts.length:Int):=hWe2
  have hmay:BM.May W ws:=hmay
  have hmay2:BM.May W2 rs:=hmay2
  have hm1:=hmay.1;have hm2:=hmay.2.1;have hm3:=hmay.2.2.1
  have hk1:=hmay2.1;have hk2:=hmay2.2.1;have hk3:=hmay2.2.2.1
  simp only at hnext hbad
  subst hWe2
  have hcls:=amw (x:=x) (ws:=ws) hpt hmay2
  have hoc0:=hoc
  obtain⟨vx,rfl,hxs⟩:=hoc
  obtain⟨qx,cx,rfl,_,_⟩:=hxs.sl.shape
  have hrc0:=hrc
  have hqc0:=hqc
  obtain⟨pw',cw,rfl,hws'⟩:=hrc
  obtain⟨pq',cq',rfl,hrs'⟩:=hqc
  cases hqo
  cases hqr
  cases hqq
  refine gg_ ?_
  refine zo (n:=5) rfl (λj v hj=>by rw[tnc];exact S.at (hoo j v hj)) ?_
  refine S.alN λb14 w21 _ S=>?_
  refine S.stBN (b:=b14) λw22 S=>?_
  have S:StX noX w r' w22 [.cell b14 (lnC (.slice qx x.pl.ps.length cx) x) 82]:=S
  refine zn (λy w'=>∃b15 b16,y=[.pointer (some ⟨b15,0,none⟩),.pointer (some ⟨b16,0,none⟩)]∧StX noX w r' w' [.cell b16 [.int .i64 g.pts.length,.slice pq' rs.length cq'] 48,.cell b15 [.int .i64 W,.slice pw' ws.length cw] 48,.cell b14 (lnC (.slice qx x.pl.ps.length cx) x) 82]) (λK23 hK23=>?_) ?_
  ·have S:=S.go (Ext.drew _)
   refine gg_ ?_
   refine zo (n:=2) rfl (λj v hj=>S.at (hro j v hj)) ?_
   refine gp_ ?_
   have ldq:∀{W0:World}{M:List Asr}{K':Value→Prop},StX noX w r' W0 M→K' (.agg #[.int .i64 g.pts.length,.slice pq' rs.length cq'])→opQ Tryz.prog W0 (Instr.loadAt 48 (.pointer (some ⟨bq,oq+(i:Int).toNat*2,none⟩))) K':=λS k=>zo (n:=2) rfl (λj v hj=>by rw[tnc];exact S.at (hqo' j v hj)) k
   have e1:∀W0 b15 b16,StX noX w r' W0 [.cell b16 [.int .i64 g.pts.length,.slice pq' rs.length cq'] 48,.cell b15 [.int .i64 W,.slice pw' ws.length cw] 48,.cell b14 (lnC (.slice qx x.pl.ps.length cx) x) 82]→K23 [.pointer (some ⟨b15,0,none⟩),.pointer (some ⟨b16,0,none⟩)] W0:=λW0 b15 b16 S=>hK23 _ _ ⟨b15,b16,rfl,S⟩
   have e2:∀W0 b15 b16,StX noX w r' W0 [.cell b15 [.int .i64 W,.slice pw' ws.length cw] 48,.cell b16 [.int .i64 g.pts.length,.slice pq' rs.length cq'] 48,.cell b14 (lnC (.slice qx x.pl.ps.length cx) x) 82]→K23 [.pointer (some ⟨b15,0,none⟩),.pointer (some ⟨b16,0,none⟩)] W0:=λW0 b15 b16 S=>hK23 _ _ ⟨b15,b16,rfl,S.permO (List.Perm.swap _ _ _)⟩
   refine⟨ace (ldq S ⟨.refl _,?_,?_⟩),S.alNU λb15 w38 S=>⟨ace (ldq S ⟨.refl _,?_⟩),S.alNU λb16 w46 S=>⟨ace (ldq S ⟨.refl _,?_⟩),?_⟩⟩,S.alNU λb16 w56 S=>⟨ace (ldq S ⟨.refl _,?_⟩),S.alNU λb15 w64 S=>⟨ace (ldq S ⟨.refl _,?_⟩),?_⟩⟩⟩
   ·refine S.alNU λb15 w28 S=>S.alNU λb16 w29 S=>?_
    refine S.stBN (b:=b15) λw30 S=>?_
    refine S.stBN (b:=b16) λw31 S=>?_
    exact e1 _ _ _ S
   ·refine S.alNU λb16 w28 S=>S.alNU λb15 w29 S=>?_
    refine S.stBN (b:=b15) λw30 S=>?_
    refine S.stBN (b:=b16) λw31 S=>?_
    exact e2 _ _ _ S
   ·refine S.alNU λb16 w29 S=>?_
    refine S.stBN (b:=b15) λw30 S=>?_
    refine S.stBN (b:=b16) λw31 S=>?_
    exact e1 _ _ _ S
   ·refine S.stBN (b:=b15) λw30 S=>?_
    refine S.stBN (b:=b16) λw31 S=>?_
    exact e1 _ _ _ S
   ·refine S.stBN (b:=b15) λw30 S=>?_
    refine ace (ldq S ⟨.refl _,?_⟩)
    refine S.stBN (b:=b16) λw31 S=>?_
    exact e1 _ _ _ S
   ·refine S.alNU λb15 w29 S=>?_
    refine S.stBN (b:=b15) λw30 S=>?_
    refine S.stBN (b:=b16) λw31 S=>?_
    exact e2 _ _ _ S
   ·refine S.stBN (b:=b15) λw30 S=>?_
    refine S.stBN (b:=b16) λw31 S=>?_
    exact e2 _ _ _ S
   ·refine S.stBN (b:=b15) λw30 S=>?_
    refine ace (ldq S ⟨.refl _,?_⟩)
    refine S.stBN (b:=b16) λw31 S=>?_
    exact e2 _ _ _ S
  clear S
  rintro _ w26 ⟨b15,b16,rfl,S⟩ d26
  simp only[gdz,gds]
  have S:=((S.frzAt b16).frzAt b15).frzAt b14
  obtain⟨ρ,hρ,S⟩:=S.any
  have l1:Le r' ρ:=by rw[hρ];infer_instance
  have l14:Le (Go.Sh.one b14 (lnC (.slice qx x.pl.ps.length cx) x) 82) ρ:=by rw[hρ];infer_instance
  have l15:Le (Go.Sh.one b15 [.int .i64 W,.slice pw' ws.length cw] 48) ρ:=by rw[hρ];infer_instance
  have l16:Le (Go.Sh.one b16 [.int .i64 g.pts.length,.slice pq' rs.length cq'] 48) ρ:=by rw[hρ];infer_instance
  clear hρ
  refine zf (S.at (Ob.up (s:=ρ) h12)) ?_
  refine gg_ ?_
  refine zf (S.at (Ob.up (s:=ρ) hpc)) ?_
  refine gg_ ?_
  refine S.alN λb17 w74 _ S=>?_
  refine S.stN' (b:=b17) λw75 S=>?_
  refine gp_ ?_
  refine S.alN λb18 w76 _ S=>?_
  refine S.stN' (b:=b18) λw77 S=>?_
  have S:StX noX w ρ w77 [.cell b18 [aji b12 b15 b16 b17] 178,.cell b17 [.int .i64 g.pts.length] 3]:=S
  have S:=S.frzAt b18
  obtain⟨σ,hσ,S⟩:=S.any
  have h18:Ob σ λw=>w.cell? ⟨b18,0,none⟩=some (aji b12 b15 b16 b17):=by rw[hσ];exact xK (i:=0) (c:=[aji b12 b15 b16 b17]) (T:=178) rfl
  have m0:Le ρ σ:=by rw[hσ];infer_instance
  clear hσ
  have m1:Le r' σ:=⟨λb o h=>m0.le b o (l1.le b o h)⟩
  have m14:Le (Go.Sh.one b14 (lnC (.slice qx x.pl.ps.length cx) x) 82) σ:=⟨λb o h=>m0.le b o (l14.le b o h)⟩
  have m15:Le (Go.Sh.one b15 [.int .i64 W,.slice pw' ws.length cw] 48) σ:=⟨λb o h=>m0.le b o (l15.le b o h)⟩
  have m16:Le (Go.Sh.one b16 [.int .i64 g.pts.length,.slice pq' rs.length cq'] 48) σ:=⟨λb o h=>m0.le b o (l16.le b o h)⟩
  have mr:Le r σ:=⟨λb o h=>m1.le b o (le0.le b o h)⟩
  have h14:∀j v,(lnC (.slice qx x.pl.ps.length cx) x)[j]? = some v→Ob σ λw=>w.cell? ⟨b14,j,none⟩=some v:=λj v hj=>xK (i:=j) (c:=(lnC (.slice qx x.pl.ps.length cx) x)) (T:=82) hj
  have h15:∀j v,[Value.int .i64 W,.slice pw' ws.length cw][j]? = some v→Ob σ λw=>w.cell? ⟨b15,j,none⟩=some v:=λj v hj=>xK (i:=j) (c:=[.int .i64 W,.slice pw' ws.length cw]) (T:=48) hj
  have h16:∀j v,[Value.int .i64 g.pts.length,.slice pq' rs.length cq'][j]? = some v→Ob σ λw=>w.cell? ⟨b16,j,none⟩=some v:=λj v hj=>xK (i:=j) (c:=[.int .i64 g.pts.length,.slice pq' rs.length cq']) (T:=48) hj
  have k12:Ob σ λw=>w.cell? ⟨b12,0,none⟩=some (.pointer (some ⟨b,0,none⟩)):=h12.up
  have kL:LkG2 σ b u g (lkR u fn) (lkE u fn) ls:=hL.up
  have krc:RwbC σ [.int .i64 W,.slice pw' ws.length cw] (W,ws):=hrc0.up
  have kqc:RwbC σ [.int .i64 g.pts.length,.slice pq' rs.length cq'] ((g.pts.length:Int),rs):=hqc0.up
  have kx:LnG σ (lnC (.slice qx x.pl.ps.length cx) x) x:=hoc0.up
  have kT:TabG σ:=hT2.up
  have kpc:=Ob.up (s:=σ) hpc
  clear l1 l14 l15 l16 m0 m14 m15 m16
  refine zf (S.at h18) ?_
  refine gg_ ?_
  refine zf (S.at (h14 0 _ rfl)) ?_
  have hlow77:=S.low
  refine Jw (f:=(g.pts.length:Int)) (W:=W) (W2:=(g.pts.length:Int)) S kL k12 krc h15 kqc h16 (by omega) (by omega) (by omega) (by omega) hx.1.1 hx.1.2 (hnx _ hx.1.2) λw78 nc S=>⟨nc,?_⟩
  rw[← vX hx.1.2]at S
  refine zo (n:=2) (c:=[.int .i64 g.pts.length,.slice pq' rs.length cq']) rfl (λj v hj=>by rw[Nat.zero_add];exact S.at (h16 j v hj)) ?_
  refine ahY S.holds kqc kT λgI sI w79 e79 n79 nb79 hI=>⟨NC.of_ext e79,?_⟩
  obtain⟨S,_,_⟩:=S.tell e79 n79
  simp only at hI
  have hw79:=S.x.size
  have hlow79:=S.low
  refine anP ((Z5 (g.pts.length:Int) rs).map acd) (λb=>b=b17) (λk D W0=>D=(λb=>b=b17)∧StX noX w (σ.or sI) W0 [.cell b17 [.int .i64 (eachF g x ws rs (minF ws rs g.pts.length (xi g x.q)) ((Z5 (g.pts.length:Int) rs).take k))] 3]) ?_ (hI _ _ (λb hb o ho=>?_) S.holds) ?_ ?_ ⟨rfl,S⟩ ?_ ?_
  ·rintro b rfl
   exact⟨_,S.has (.cell b [.int .i64 (minF ws rs g.pts.length (xi g x.q))] 3) (by simp),rfl⟩
  ·subst hb
   exact(S.mine (.cell b [.int .i64 (minF ws rs g.pts.length (xi g x.q))] 3) (by simp) b rfl).2 o ho
  ·intro y hy
   obtain⟨z,_,rfl⟩:=List.mem_map.1 hy
   rfl
  ·rintro k D W0 W' ⟨h1,S⟩ e
   exact⟨h1,S.nl e hw79⟩
  ·clear S
   rintro k y D W0 hy ⟨rfl,S⟩ KR hN
   rw[List.getElem?_map,Option.map_eq_some_iff]at hy
   obtain⟨z,hz',rfl⟩:=hy
   have hzm:=(acn hmay2).1 (List.mem_of_getElem? hz')
   have hzl:(z:Int).toNat<g.pts.length:=by omega
   have hsn:=ajh (g:=g) (x:=x) (ws:=ws) (rs:=rs) (f:=minF ws rs g.pts.length (xi g x.q)) hz'
   generalize eachF g x ws rs (minF ws rs g.pts.length (xi g x.q)) ((Z5 (g.pts.length:Int) rs).take k)=m at S hsn
   refine⟨.refl _,λW9 e9=>?_⟩
   have S:=S.nl e9 hw79
   simp only[gdz]
   refine zf (S.at (Ob.up (s:=σ.or sI) k12)) ?_
   refine zo (n:=5) (c:=(lnC (.slice qx x.pl.ps.length cx) x)) rfl (λj v hj=>by rw[Nat.zero_add];exact S.at (Ob.up (s:=σ.or sI) (h14 j v hj))) ?_
   refine XS S.holds (LkG2.up kL) (LnG.up kx) (Int.natCast_nonneg z) hzl λw85 e85=>⟨NC.of_ext e85,?_⟩
   have hkq:qm g x (z:Int)=vc g.pts[(z:Int).toNat] x:=by rw[qm,gqg hzl];rfl
   rw[← hkq]
   refine gp_ ?_
   have R:=S.part.go e85
   refine c_b (λhk=>?_) (λhk=>?_)
   ·have hk:qm g x (z:Int)=false:=by simpa using hk
    rw[hk,if_neg (by decide)]at hsn
    refine zf (R.at (Ob.up (s:=σ.or sI) h18)) ?_
    refine Jw (f:=m) (W:=W) (W2:=(g.pts.length:Int)) R (LkG2.up kL) (Ob.up k12) (RwbC.up krc) (λj v hj=>Ob.up (h15 j v hj)) (RwbC.up kqc) (λj v hj=>Ob.up (h16 j v hj)) (by omega) (by omega) (by omega) (by omega) (Int.natCast_nonneg z) hzl (hnx _ hzl) λw86 nc R=>⟨nc,?_⟩
    rw[← vX hzl,← hsn]at R
    exact⟨⟨R.x.os,R.x.tape,R.x.output,R.x.size,λk hk hn=>R.x.block k hk λh=>h.elim hn λh=>h⟩,hN _ _ (λd hd=>.inl hd) ⟨rfl,S.whole R λ_ h=>h⟩⟩
   ·have hk:qm g x (z:Int)=true:=by simpa using hk
    rw[if_pos hk]at hsn
    rw[← hsn]at S R
    exact⟨⟨R.x.os,R.x.tape,R.x.output,R.x.size,λk hk hn=>R.x.block k hk λh=>h.elim hn λh=>h⟩,hN _ _ (λd hd=>.inl hd) ⟨rfl,S.whole R λ_ h=>h⟩⟩
  ·clear S
   rintro D W0 ⟨_,S⟩
   rw[List.length_map,List.take_length]at S
   have S:=S.go (Ext.drew _)
   refine S.ld (b:=b17) ?_
   refine zf (S.at (Ob.up (s:=σ.or sI) k12)) ?_
   refine gg_ ?_
   refine zf (S.at (Ob.up (s:=σ.or sI) kpc)) ?_
   refine gg_ ?_
   refine zj (λhf=>?_) (λhf=>?_)
   ·have S:=S.go (Ext.drew _)
    refine S.ld (b:=b17) ?_
    intro w88 e88
    rw[hz]
    exact h1 _ _ false _ (fin S (λb o h=>.inl (mr.le b o h)) e88) ⟨λh=>(by cases h),λhh=>absurd hh (hbad (hcls.1 hf))⟩
   ·refine YR (by omega) ?_
    exact hK17 (i+1) _ ⟨hlt,hnext (Classical.not_not.1 λhc=>hf (hcls.2 hc)),S.less (λb o h=>.inl (m1.le b o h)) (List.nil_sublist _)⟩ (by omega)
 ·have hie:i=ls.length:=by omega
  subst hie
  intro w91 e91
  rw[hz]
  exact h1 0 0 true _ (fin S le0.le e91) ⟨λ_ n hn=>hno n hn hn,λ_=>rfl⟩
end
end
section
section
variable {u:UnD} {w:World} {r:Gh} {K:Value→World→Prop}
theorem ah7{fn q:Int}{g:GrD}{x:LnD}{v:Value}{R:List xF}{vR:Value}(hr:Holds r w)(hu:UnG r v u)(hR:SlG 2 r (RwbC r) vR R)(hf:R.length≤1000000)(F:IsF u fn g)(hz:lkE u fn=0)
  (hgR:z7 R (lkR u fn).ct (g.pts.length+g.lv)=true) (hx:lkS u fn g=[x]) (hq:0≤q∧q<g.pts.length) (hnq:xi g x.q=[q]) (hb:bit (R.getD x.re.toNat (0,[])).2 q.toNat=true)
  (h:∀p cap w',Ext w w'→K (.tuple #[.slice p 2 cap,.bool true,.int .i64 0]) w'):zd Tryz.prog Tryz.JH #[v,.int .i64 fn,vR,.int .i64 0,.int .i64 q] w K:=by
 refine Tryz.ah0 ?_
 unfold Tryz.adx
 obtain⟨pR,capR,rfl,_,_⟩:=hR.shape
 obtain⟨p0,cap0,vf,rfl,_,_,_,_,_⟩:=id hu
 have S:=St.start hr
 refine S.box λb5 w1 S=>?_
 have S:StX noX w r w1 [.cell b5 [.slice p0 u.ss.length cap0,vf,.int .i64 u.mn] 25]:=S
 refine S.ldB (b:=b5) ?_ rfl
 refine jm S.holds hu (λhi w2 e2=>by have:=F.is;rw[hi]at this;cases this) λhi g' b s w2 hg e2 n2 hL=>?_
 obtain rfl:g'=g:=Option.some.inj (hg.symm.trans F.at')
 obtain⟨S,_,ha⟩:=S.tell e2 n2
 have hre:=aho F hz
 rw[hx]at hL hre
 rw[hz]at hL
 have hx0:=hre x (by simp)
 have hR2:SlG 2 (r.or s) (RwbC (r.or s)) (.slice pR R.length capR) R:=hR.up' inferInstance λ_ _ h=>RwbC.up h
 have S:=S.tl
 clear hR
 generalize r.or s=r' at S hL hR2
 refine gp_ ?_
 refine gp_ ?_
 refine zn (λx w'=>x=[.int .i64 0]∧StX noX w r' w' []) (λK3 hK3=>?_) ?_
 ·refine gp_ ?_
  refine c_t rfl ?_
  refine aaG S.holds hL F.may F.head F.pts hR2 hf λx0 w7 e7 hx1=>?_
  have S:=S.go e7
  rw[hx1 rfl,hgR]
  refine zg (c:=true) (λ_ K2 hK2=>?_) ?_
  ·refine abx S.holds hL (by simp) ?_
   exact hK2
  refine zg (c:=true) (λ_ K2 hK2=>?_) ?_
  ·refine XR S.holds hL ?_
   rw[gde hq.1,gde hq.2]
   exact hK2
  refine xA S.holds hL ?_
  exact hK3 _ _ ⟨rfl,S⟩
 clear S
 rintro _ w6 ⟨rfl,S⟩ d
 rw[gdz]
 refine gp_ ?_
 refine c_f rfl ?_
 obtain⟨pl,cl,hlc,hls⟩:=id hL.lns
 have hRl:=Jv hgR
 have hn:=F.head.pt1024
 have hlv:=F.head.lv0
 have hxr:x.re.toNat<R.length:=by have:=hRl.1;omega
 obtain⟨br,or',cr,hqr,hclr,hrc,hro⟩:=hR2.get (by decide) hxr
 have hRx:=hRl.2 _ hxr
 have hgd:R.getD x.re.toNat (0,[])=R[x.re.toNat]:=by rw[ggd,gqg hxr];rfl
 rw[hgd]at hb
 generalize R[x.re.toNat]=y0 at hrc hRx hb
 obtain⟨W,ws⟩:=y0
 obtain⟨hWe,hmay⟩:=hRx
 have hWe:W=(g'.pts.length:Int)+g'.lv:=hWe
 have hmay:BM.May W ws:=hmay
 have hm1:=hmay.1;have hm2:=hmay.2.1;have hm3:=hmay.2.2.1
 have hb:bit ws q.toNat=true:=hb
 have hrc0:=hrc
 obtain⟨pw',cw,rfl,hws'⟩:=hrc
 cases hqr
 obtain⟨bo,oo,co,hqo,hcl,hoc,hoo⟩:=hls.get (i:=0) (by decide) (by simp)
 have hoc0:=hoc
 obtain⟨vx,rfl,hxs⟩:=hoc
 simp only[List.getElem_cons_zero]at hxs hoo hoc0
 obtain⟨qx,cx,rfl,_,_⟩:=hxs.sl.shape
 cases hqo
 refine gg_ ?_
 refine zf (S.at hlc) ?_
 refine gg_ ?_
 rw[show [x].length=1 from rfl]
 refine gg_ ?_
 refine zo (n:=5) rfl (λj v hj=>by simpa using S.at (hoo j v hj)) ?_
 refine S.al λb14 w19 S=>?_
 refine S.stB (b:=b14) λw20 S=>?_
 have S:StX noX w r' w20 [.cell b14 [.int .i64 x.q,.int .i64 x.pl.l,.slice qx x.pl.ps.length cx,.bool x.mu,.int .i64 x.re] 82]:=S
 refine gg_ ?_
 refine zo (n:=2) rfl (λj v hj=>S.at (hro j v hj)) ?_
 refine S.al λb15 w21 S=>?_
 refine S.stB (b:=b15) λw22 S=>?_
 refine S.mkMapI λbm w23 S=>?_
 refine gg_ ?_
 refine S.lit (e:=3) (cs:=[.int .i64 x.q]) (by kernel_rfl) λb66 w24 S=>?_
 obtain⟨S,hs66,_⟩:=S.litNew b66 (sz:=1) (R:=yN) (l:=[x.q]) (xg rfl rfl) (by decide)
 have hs66:SlG 1 (Go.Sh.one b66 [.int .i64 x.q] 3) yN (.slice (some ⟨b66,0,none⟩) 1 1) [x.q]:=hs66
 refine S.lit (e:=55) (cs:=[.slice (some ⟨b66,0,none⟩) 1 1]) (by kernel_rfl) λb67 w25 S=>?_
 have S:StX noX w (r'.or (Go.Sh.one b66 [.int .i64 x.q] 3)) w25 [.cell b67 [.slice (some ⟨b66,0,none⟩) 1 1] 55,.obj bm (J1 []),.cell b15 [.int .i64 W,.slice pw' ws.length cw] 48,.cell b14 [.int .i64 x.q,.int .i64 x.pl.l,.slice qx x.pl.ps.length cx,.bool x.mu,.int .i64 x.re] 82]:=S
 have S:=S.frzAt b67
 have h67:Ob ((r'.or (Go.Sh.one b66 [.int .i64 x.q] 3)).or (Go.Sh.one b67 [.slice (some ⟨b66,0,none⟩) 1 1] 55)) λw=>w.cell? ⟨b67,0,none⟩=some (.slice (some ⟨b66,0,none⟩) 1 1):=xK (i:=0) (c:=[.slice (some ⟨b66,0,none⟩) 1 1]) (T:=55) rfl
 have h66:Ob ((r'.or (Go.Sh.one b66 [.int .i64 x.q] 3)).or (Go.Sh.one b67 [.slice (some ⟨b66,0,none⟩) 1 1] 55)) λw=>w.cell? ⟨b66,0,none⟩=some (.int .i64 x.q):=xK (i:=0) (c:=[.int .i64 x.q]) (T:=3) rfl
 have hs66:SlG 1 ((r'.or (Go.Sh.one b66 [.int .i64 x.q] 3)).or (Go.Sh.one b67 [.slice (some ⟨b66,0,none⟩) 1 1] 55)) yN (.slice (some ⟨b66,0,none⟩) 1 1) [x.q]:=hs66.cells
 have hL:LkG2 ((r'.or (Go.Sh.one b66 [.int .i64 x.q] 3)).or (Go.Sh.one b67 [.slice (some ⟨b66,0,none⟩) 1 1] 55)) b u g' (lkR u fn) 0 [x]:=LkG2.up (LkG2.up (s:=r'.or (Go.Sh.one b66 [.int .i64 x.q] 3)) hL)
 have hrc0:RwbC ((r'.or (Go.Sh.one b66 [.int .i64 x.q] 3)).or (Go.Sh.one b67 [.slice (some ⟨b66,0,none⟩) 1 1] 55)) [.int .i64 W,.slice pw' ws.length cw] (W,ws):=RwbC.up (RwbC.up (s:=r'.or (Go.Sh.one b66 [.int .i64 x.q] 3)) hrc0)
 generalize (r'.or (Go.Sh.one b66 [.int .i64 x.q] 3)).or (Go.Sh.one b67 [.slice (some ⟨b66,0,none⟩) 1 1] 55)=ρ at S h67 h66 hs66 hL hrc0
 have hnq:nextP g'.pts[x.q.toNat]=[q]:=(vX hx0.1.2).symm.trans hnq
 refine abX 3 ?_
 intro d26 K26 hK26
 rw[gdz]
 refine gg_ ?_
 refine zg (c:=true) (λ_ K2 hK2=>S.mapGetI mpW aen ?_) ?_
 ·show opP Tryz.prog (zL .eql 55 true (.slice none 0 0) (.slice none 0 0)) _
  refine gp_ ?_
  exact hK2
 refine c_t rfl ?_
 have S:=S.ownNil 55 1
 refine gg_ ?_
 refine abX 3 ?_
 intro d34 K34 hK34
 simp only[gdz,gds]
 refine gg_ ?_
 refine c_t rfl ?_
 intro K38 hK38
 refine gg_ ?_
 refine zf (S.at h67) ?_
 refine gg_ ?_
 refine zf (S.at h66) ?_
 refine gg_ ?_
 refine zg (c:=true) (λhb=>by simp at hb) ?_
 refine c_f rfl ?_
 refine QO S.holds hL hx0.1.1 hx0.1.2 λv47 w47 e47 o47=>?_
 rw[hnq]at o47
 have S:=S.take e47 o47
 refine afH S (by simp) λw48 S=>?_
 have hso:Zs [q]=[q]:=by simp[Zs]
 rw[hso]at S
 obtain⟨s5,T,hs5,_,_⟩:=S.doneRow (l:=[q]) qJ (by decide) rfl
 repeat clear S
 obtain⟨p5,c5,rfl,_,_⟩:=hs5.shape
 obtain⟨b5',o5,rfl,_,g5⟩:=xR hs5 (i:=0) (by simp)
 have S:=T
 clear T
 have g5:Ob s5 λw=>w.cell? ⟨b5',o5+0,none⟩=some (.int .i64 q):=g5
 refine gg_ ?_
 refine abX 3 ?_
 intro d49 K49 hK49
 simp only[gdz,gds]
 refine gg_ ?_
 refine c_t rfl ?_
 intro K53 hK53
 refine gg_ ?_
 rw[show [q].length=1 from rfl]
 refine gg_ ?_
 refine zf (by simpa using S.at (Ob.up (s:=ρ.or s5) g5)) ?_
 refine S.ldB (b:=b15) ?_ rfl
 refine jH S.holds hrc0.up hq.1 (by omega) (by omega) λw57 e57=>?_
 have S:=S.go e57
 rw[hb]
 refine zg (c:=true) (λ_ K2 hK2=>S.mapGetI mpW aen ?_) ?_
 ·show opP Tryz.prog (zL .eql 55 true (.slice none 0 0) (.slice none 0 0)) _
  refine gp_ ?_
  exact hK2
 refine c_t rfl ?_
 refine gg_ ?_
 refine zf (S.at (Ob.up (s:=ρ.or s5) h67)) ?_
 refine ahS S hs66.cells (by simp) λv62 w62 S=>?_
 refine S.lit (e:=3) (cs:=[.int .i64 q]) (by kernel_rfl) λb8 w63 S=>?_
 refine S.ap (v:=v62) (m':=1) (Sl.blk (S.blk b8)) (λv99 w64 S=>?_) (by simp)
 have S:=S.drop b8
 obtain⟨s7,T,hs7,_,_⟩:=S.doneRow (l:=[x.q,q]) (show RowOf 1 yN (ints [x.q]++[.int .i64 q]) [x.q,q]from qJ (l:=[x.q,q])) (by decide) rfl
 repeat clear S
 obtain⟨p7,c7,rfl,_,_⟩:=hs7.shape
 obtain⟨b7',o7,rfl,_,_⟩:=xR hs7 (i:=0) (by simp)
 have S:=T
 clear T
 refine S.mapAddI mpW rfl λw65 S=>?_
 refine S.mapGetI mpW aen ?_
 have hlk:(([]++[(q,Value.slice (some ⟨b7',o7,none⟩) 2 c7)]:List (Int×Value)).lookup q).getD (.slice none 0 0)=.slice (some ⟨b7',o7,none⟩) 2 c7:=by simp
 refine hlk.symm▸?_
 refine S.lit (e:=55) (cs:=[.slice (some ⟨b7',o7,none⟩) 2 c7]) (by kernel_rfl) λb9 w66 S=>?_
 refine S.ap (v:=.slice none 0 0) (m':=1) (Sl.blk (S.blk b9)) (λv5 w67 S=>?_) (by simp)
 have S:=S.drop b9
 refine hK53 _ _ λ_=>?_
 simp only[gdz]
 refine gg_ ?_
 refine hK49 _ _ ?_
 clear hK49
 intro d49' K49' hK49'
 simp only[gdz,gds]
 refine gg_ ?_
 refine c_f rfl ?_
 refine hK38 _ _ λ_=>?_
 simp only[gdz]
 refine gg_ ?_
 refine hK34 _ _ ?_
 clear hK34
 intro d34' K34' hK34'
 simp only[gdz,gds]
 refine gg_ ?_
 refine c_f rfl ?_
 refine hK26 _ _ ?_
 clear hK26
 intro d26' K26' hK26'
 obtain⟨p5,c5',hv5,_⟩:=S.rowS v5
 subst hv5
 simp only[gdz,gds]
 refine gg_ ?_
 refine zg (c:=false) (λ_ K2 hK2=>S.mapGetI mpW aen ?_) ?_
 ·refine hlk.symm▸?_
  refine gp_ ?_
  exact hK2
 refine c_f (by simp) ?_
 have S:=S.go (Ext.drew _)
 refine S.mapGetI mpW aen ?_
 refine hlk.symm▸?_
 refine S.mapGetI mpW aen ?_
 refine hlk.symm▸?_
 refine gp_ ?_
 exact h _ _ _ S.ext
end
theorem ais:zM (zK zS 0 (-1))=(⟨0,4,2,[yk,yk,akZ 0],[1,-1,-1,-1]⟩,0):=by rw[ak0 (by decide)];rfl
theorem alu{t:TyD}(ht:mayB [] t=true):(yG [] [t] ⟨0,[]⟩).1=t:=by
 have ho:zW [] [t] ⟨0,[]⟩=true:=by
  rw[zW,hst]
  show(((decide ((0:Int)≤0)&&decide ((0:Int)<1))&&decide (0≤8))&&(true&&(mayB [] t&&true)))=true
  rw[ht];rfl
 rw[yG,zz,if_pos ho];rfl
def ln0:LnD:=⟨0,plD 1,true,1⟩
theorem J8:lkE zS 0=0:=by rw[lkE,ais]
theorem alL:lkR zS 0=⟨0,4,2,[yk,yk,akZ 0],[1,-1,-1,-1]⟩:=by rw[lkR,ais]
theorem qZ:lkS zS 0 zJ=[ln0]:=by rw[lkS,J8,alL];rfl
theorem af2:IsF zS 0 zJ:=isF (ab7 (by decide)) rfl
theorem ait{p:PtD}{l:Int}{ps:List Int}(hp:p.to=⟨l,ps⟩)(ha:ahb p=true)(hd:(yX [] (jj [] [yk,yk,qQ] ⟨l,ps⟩)).1=false):QP zS zJ p=[⟨⟨l,ps⟩,1,true⟩]:=by
 rw[QP,if_pos ha,hp]
 show [(⟨⟨l,ps⟩,if (yX [] (jj [] [yk,yk,qQ] ⟨l,ps⟩)).1=true then 2 else 1,true⟩:AcD)]=_
 rw[hd];rfl
theorem akp:wdsL 4 [1,2]=[6#64]:=by decide
theorem alO:wdsL 4 [1]=[2#64]:=by decide
theorem anW:BM.May 4 [6#64]:=⟨by decide,by decide,by decide,λk h1 h2=>by
 have :∀k:Fin 64,4≤k.val→bit [6#64] k.val=false:=by decide
 have h2:k<64:=by simpa using h2
 exact this ⟨k,h2⟩ (by show 4≤k;omega)⟩
theorem ano{p:Int}:InF zJ ln0 [6#64] p↔p=1:=by
 constructor
 ·intro h
  induction h with
  |start h hb=>
   have h:_∈([1]:List Int):=h
   simpa using h
  |step hq hk h hb ih=>subst ih;exact absurd hk (by decide)
 ·rintro rfl
  exact .start (show(1:Int)∈([1]:List Int)by simp) (by decide)
theorem amx{D:List Int}(h:D.Nodup)(hm:∀p:Int,p=1↔p∈D):D=[1]:=by
 cases D with
 |nil=>exact absurd ((hm 1).1 rfl) List.not_mem_nil
 |cons a l=>
  have ha:=(hm a).2 List.mem_cons_self
  subst ha
  cases l with
  |nil=>rfl
  |cons b l=>
   have hb:=(hm b).2 (List.mem_cons_of_mem _ List.mem_cons_self)
   subst hb
   exact absurd List.mem_cons_self (List.nodup_cons.1 h).1
theorem amy{y:xF}(h:aey zJ [(4,[6#64]),(4,[6#64])] ln0 y):y=(4,[2#64]):=by
 obtain⟨h1,D,h2,h3,_,h5⟩:=h
 have hD:=amx h5 λp=>ano.symm.trans (h3 p)
 subst hD
 exact Prod.ext h1 (h2.trans alO)
theorem anX:BM.May 4 [2#64]:=⟨by decide,by decide,by decide,λk h1 h2=>by
 have :∀k:Fin 64,4≤k.val→bit [2#64] k.val=false:=by decide
 have h2:k<64:=by simpa using h2
 exact this ⟨k,h2⟩ (by show 4≤k;omega)⟩
theorem amz:aaD zJ ln0 [6#64] [2#64]:=by
 refine⟨λp hp hb=>?_,λq h0 h1 hq hk p hp hb=>?_⟩
 ·have hp:p∈([1]:List Int):=hp
  simp only[List.mem_singleton]at hp
  subst hp;decide
 ·have h1:q<4:=h1
  obtain rfl|rfl|rfl|rfl:q=0∨q=1∨q=2∨q=3:=by omega
  ·exact absurd hq (by decide)
  ·exact absurd hk (by decide)
  ·exact absurd hq (by decide)
  ·exact absurd hq (by decide)
theorem ahx{R:List xF}{c W:Int}(h1:(R.length:Int)=c)(h2:∀x∈R,x.1=W∧BM.May x.1 x.2):z7 R c W=true:=by
 rw[z7,gba,gdt,Bool.not_eq_true',List.any_eq_false]
 refine⟨h1,λx hx=>?_⟩
 obtain⟨h3,h4⟩:=h2 x hx
 rw[aev,BM.mayB_true h4,h3];simp
theorem aco:z7 [(4,[6#64]),(4,[6#64])] (lkR zS 0).ct (zJ.pts.length+zJ.lv)=true:=by
 rw[alL]
 refine ahx rfl λx hx=>?_
 have :x=(4,[6#64]):=by simpa using hx
 subst this
 exact⟨rfl,anW⟩
theorem ahy:z7 [(4,[2#64])] (lkS zS 0 zJ).length zJ.pts.length=true:=by
 rw[qZ]
 refine ahx rfl λx hx=>?_
 have :x=(4,[2#64]):=by simpa using hx
 subst this
 exact⟨rfl,anX⟩
theorem alv:jj [] [yk,yk,qQ] ⟨1,[]⟩=yk:=alu (by rw[hmay];kernel_rfl)
theorem alw:(yX [] (jj [] [yk,yk,qQ] ⟨1,[]⟩)).1=false:=by rw[alv];kernel_rfl
theorem anp:vw zS zJ hp1=[⟨plD 1,1,true⟩]:=by
 rw[vw,ait (l:=1) (ps:=[]) rfl rfl alw];rfl
theorem aiu:jn zS zJ ln0 ⟨plD 1,1,true⟩=true:=by
 rw[jn,if_neg (by decide),if_pos (by decide)]
theorem amA:QQ zS zJ [ln0] [(4,[2#64])]=some (1,0):=by
 refine aj7 (by decide) (by decide) (λy hy n hn=>?_) (λn hn=>absurd hn (Nat.not_lt_zero _)) ?_
 ·obtain rfl:y=0:=by omega
  have hn:n<1:=hn
  obtain rfl:n=0:=by omega
  rfl
 ·show(bit [2#64] 1&&(vw zS zJ hp1).any (jn zS zJ ln0))=true
  rw[anp]
  simp only[List.any_cons,List.any_nil,aiu];decide
theorem anq{p:PlD}{t:TyD×List Int}(h0:0≤p.l∧p.l<3∧p.ps.length≤8)(hw:zD [] p.ps (zJ.tys.getD p.l.toNat zF)=some t):zz [] zJ.tys p=some t:=by
 have ho:zW [] zJ.tys p=true:=by
  rw[zW,gde h0.1,gde (show p.l<(zJ.tys.length:Int)from h0.2.1),gde h0.2.2,hst]
  show(decide ((0:Int)=0)&&(mayB [] yk&&(mayB [] yk&&(mayB [] qQ&&true))))=true
  rw[hmay,hmay];kernel_rfl
 rw[zz,if_pos ho,hw]
theorem amB:jj [] [yk,yk,qQ] ⟨2,[-1]⟩=yk:=by
 have ho:zW [] [qQ] ⟨0,[-1]⟩=true:=by
  rw[zW,hst]
  show(((decide ((0:Int)≤0)&&decide ((0:Int)<1))&&decide (1≤8))&&(decide ((0:Int)=0)&&(mayB [] qQ&&true)))=true
  rw[hmay];kernel_rfl
 show(yG [] [qQ] ⟨0,[-1]⟩).1=yk
 rw[yG,zz,if_pos ho];rfl
theorem akq:(yX [] (jj [] [yk,yk,qQ] ⟨2,[-1]⟩)).1=false:=by rw[amB];kernel_rfl
theorem anr:vw zS zJ hp2=[⟨⟨2,[-1]⟩,1,true⟩]:=by
 rw[vw,ait (l:=2) (ps:=[-1]) rfl rfl akq];rfl
theorem alx:mkd ((lkS zS 0 zJ).map (vc hp1))=[0]:=by rw[qZ];rfl
theorem aeC{b:Bool}(h:b=true):yO zS 0 b=0:=by rw[yO,if_pos ⟨ab7 (by decide),h⟩,J8]
theorem ahz{q:Int}(h:0≤q∧q<4):qk zS 0 q=true:=by
 show(decide (0≤q)&&decide (q<((4:Nat):Int)))=true
 rw[gde h.1,gde (show q<((4:Nat):Int)from h.2)];rfl
theorem ans:jp zS 0 0 ⟨plD 1,1,true⟩=true:=by
 show((((decide ((0:Int)≤0)&&decide ((0:Int)<((lkS zS 0 zJ).length:Int)))&&(zz [] zJ.tys (plD 1)).isSome)&&decide ((1:Int)≤1))&&decide ((1:Int)≤3))=true
 rw[qZ,anq (t:=(yk,[])) (by decide) rfl];rfl
theorem ant:acm zS 0 0 ⟨plD 1,1,true⟩=true:=by
 show(match (lkS zS 0 zJ)[(0:Nat)]? with|some x=>jn zS zJ x ⟨plD 1,1,true⟩|none=>false)=true
 rw[qZ];exact aiu
section
variable {X:Nat→Prop} {w0 w:World} {r:Gh} {L:List Asr} {K:Value→World→Prop}
theorem ajj{n:Nat}(hn:n≤1032)(S:StX X w0 r w L)
  (h:∀b w',StX X w0 r w' (.cell b (wcs (List.replicate ((n+63)/64) 0#64)) 205::L)→K (.agg #[.int .i64 n,.slice (some ⟨b,0,none⟩) ((n+63)/64) ((n+63)/64)]) w'):zd Tryz.prog Tryz.Xl #[.int .i64 n] w K:=by
 refine Tryz.afL ?_
 unfold Tryz.aar
 refine S.al λb2 w1 S=>?_
 refine gg_ ?_
 refine S.mkS (by omega) (by omega) λb w2 S=>?_
 rw[show (((n:Int)+63)/64).toNat=(n+63)/64 by omega]at S⊢
 have S:=(show StX X w0 r w2 (.cell b (wcs (List.replicate ((n+63)/64) 0#64)) 205::.cell b2 [.int .i64 0,.slice none 0 0] 48::L)by
  rw[wcs,List.map_replicate];exact S)
 refine zq (cs:=#[.int .i64 n,.slice (some ⟨b,0,none⟩) ((n+63)/64) ((n+63)/64)]) (by kernel_rfl) ?_
 refine S.stB (b:=b2) λw3 S=>?_
 refine S.ceB (b:=b2) ?_ rfl
 exact h _ _ S.d2
theorem aly{n:Nat}{l:List Int}{p:Option Addr}{cap:Nat}(hn:n≤1024)(S:StX X w0 r w L)(hl:SlG 1 r yN (.slice p l.length cap) l)(hlf:l.length≤1000000)(hin:∀x∈l,0≤x∧x<n)
  (h:∀b w',StX X w0 r w' (.cell b (wcs (wdsL n l)) 205::L)→K (.agg #[.int .i64 n,.slice (some ⟨b,0,none⟩) ((n+63)/64) ((n+63)/64)]) w'):zd Tryz.prog Tryz.JF #[.int .i64 n,.slice p l.length cap] w K:=by
 refine Tryz.ahV ?_
 unfold Tryz.adr
 refine S.al λb4 w1 S=>?_
 refine ajj (by omega) S λbw w2 S=>?_
 refine S.al λb5 w3 S=>?_
 refine S.stB (b:=b5) λw4 S=>?_
 have S:StX X w0 r w4 (.cell b5 (rwL n bw) 48::.cell bw (wcs (wdsL n (l.take 0))) 205::.cell b4 [.int .i64 0,.slice none 0 0] 48::L):=S
 refine zi (ι:=Nat) (λi=>[.int .i64 (i:Nat)]) (λi w'=>i≤l.length∧StX X w0 r w' (.cell b5 (rwL n bw) 48::.cell bw (wcs (wdsL n (l.take i))) 205::.cell b4 [.int .i64 0,.slice none 0 0] 48::L)) (λi=>l.length-i) 0 rfl ⟨gzl _,S⟩ ?_
 clear S
 rintro i d w8 ⟨hi,S⟩ K5 hK5
 rw[gdz]
 refine gg_ ?_
 refine zj (λhlt=>?_) (λhge=>?_)
 ·have hlt:i<l.length:=by omega
  obtain⟨b8,o8,rfl,_,hc8⟩:=xR hl hlt
  have hp:=hin _ (gem hlt)
  have hadd:=ahn (n:=n) (D:=l.take i) (p:=l[i])
  rw[← List.take_succ_eq_append_getElem hlt]at hadd
  have hwn:(wdsL n (l.take i)).length=(n+63)/64:=vy
  generalize l[i]=p at hc8 hp hadd
  generalize wdsL n (l.take i)=ws at S hadd hwn
  have hpw:p.toNat/64<ws.length:=by omega
  have S:=S.go (Ext.drew _)
  refine gg_ ?_
  refine zf (by rw[tnc];exact S.at hc8) ?_
  refine gg_ ?_
  refine zf (by rw[tnc];exact S.at hc8) ?_
  refine gg_ ?_
  refine S.ld (b:=bw) (v:=u64 (ws.getD (p.toNat/64) 0)) ?_ (by rw[show 0+(p/64).toNat=p.toNat/64 by omega,wcs,List.getElem?_map,ggd,gqg hpw];rfl)
  refine gg_ ?_
  refine zf (by rw[tnc];exact S.at hc8) ?_
  refine gg_ ?_
  rw[show (p%64).toNat=p.toNat%64 by omega]
  have hq2:0+(p/64).toNat<(wcs ws).length:=by rw[wcs,List.length_map];omega
  refine S.st (b:=bw) (λw7 S=>?_) hq2
  rw[show 0+(p/64).toNat=p.toNat/64 by omega]at S
  refine gg_ ?_
  refine hK5 (i+1) _ ⟨hlt,?_⟩ (by omega)
  rw[hadd,wcs,List.map_set]
  exact S
 ·have hie:i=l.length:=by omega
  subst hie
  rw[List.take_length]at S
  refine S.ldB (b:=b5) ?_ rfl
  refine S.stB (b:=b4) λw10 S=>?_
  refine S.ceB (b:=b4) ?_ rfl
  exact h bw _ ((S.drop b5).drop b4)
theorem QR{n:Nat}{l:List Int}{p:Option Addr}{cap:Nat}(hn:n≤1024)(S:StX X w0 r w L)(hl:SlG 1 r yN (.slice p l.length cap) l)(hlf:l.length≤1000000)(hin:∀x∈l,0≤x∧x<n)
  (h:∀b w',StX X w0 r w' (.cell b (wcs (wdsL n l)) 205::L)→K (.agg #[.int .i64 n,.slice (some ⟨b,0,none⟩) ((n+63)/64) ((n+63)/64)]) w'):zd Tryz.prog Tryz.jR #[.int .i64 n,.slice p l.length cap] w K:=by
 refine Tryz.ahp ?_
 unfold Tryz.abB
 refine S.al λb4 w1 S=>?_
 refine aly hn S hl hlf hin λbw w2 S=>?_
 refine S.stB (b:=b4) λw3 S=>?_
 refine S.ceB (b:=b4) ?_ rfl
 exact h bw _ (S.drop b4)
end
theorem afU{x:xF}{cx cy:List Value}{w:World}{r:Gh}{K:Value→World→Prop}(hr:Holds r w)(hx:RwbC r cx x)(hy:RwbC r cy x)(h:∀w',Ext w w'→K (.bool true) w'):zd Tryz.prog Tryz.Xk #[.agg cx.toArray,.agg cy.toArray] w K:=by
 refine Tryz.afK ?_
 unfold Tryz.aaq
 obtain⟨p,cap,rfl,hS⟩:=hx
 obtain⟨q,caq,rfl,hQ⟩:=hy
 have hf:x.2.length≤9223372036854775807:=hS.few
 have S:=St.start hr
 refine S.box λb2 w1 S=>?_
 refine S.box λb3 w2 S=>?_
 have S:StX noX w r w2 [.cell b3 [.int .i64 x.1,.slice q x.2.length caq] 48,.cell b2 [.int .i64 x.1,.slice p x.2.length cap] 48]:=S
 refine gg_ ?_
 refine zm (c:=false) (λ_ K2 hK2=>?_) ?_
 ·refine gg_ ?_
  rw[show decide ((x.2.length:Int)≠(x.2.length:Nat))=false by simp]
  exact hK2
 refine c_f (by simp) ?_
 refine zi (ι:=Nat) (λi=>[.int .i64 (i:Nat)]) (λi w'=>i≤x.2.length∧StX noX w r w' [.cell b3 [.int .i64 x.1,.slice q x.2.length caq] 48,.cell b2 [.int .i64 x.1,.slice p x.2.length cap] 48]) (λi=>x.2.length-i) 0 rfl ⟨gzl _,S⟩ ?_
 clear S
 rintro i d w8 ⟨hi,S⟩ K5 hK5
 rw[gdz]
 refine gg_ ?_
 refine zj (λhlt=>?_) (λhge=>?_)
 ·have hlt:i<x.2.length:=by omega
  obtain⟨bw,ow,hpw,_,hcw⟩:=Jm hS.sl hlt
  obtain⟨bv,ov,hpv,_,hcv⟩:=Jm hQ.sl hlt
  subst hpw;subst hpv
  have S:=S.go (Ext.drew _)
  refine gg_ ?_
  refine zf (by rw[tnc];exact S.at hcw) ?_
  refine gg_ ?_
  refine zf (by rw[tnc];exact S.at hcv) ?_
  refine aiD ?_
  refine c_f (by simp) ?_
  refine gg_ ?_
  exact hK5 (i+1) _ ⟨hlt,S⟩ (by omega)
 ·exact h _ S.ext
section
variable {u:UnD} {fn:Int} {v:Value} {w:World} {r:Gh} {K:Value→World→Prop}
theorem ajk(hr:Holds r w)(hu:UnG r v u)
  (h0:lkE u fn≠0→∀w',Ext w w'→K (.tuple #[.slice none 0 0,.int .i64 (lkE u fn)]) w')
  (h1:lkE u fn=0→∀g s pl cl w',IsF u fn g→Ext w w'→New w s w'→SlG 5 s (LnG s) (.slice pl (lkS u fn g).length cl) (lkS u fn g)→K (.tuple #[.slice pl (lkS u fn g).length cl,.int .i64 0]) w'):zd Tryz.prog Tryz.XZ #[v,.int .i64 fn] w K:=by
 refine aje hr hu h0 λhe g vs s pl cl w' F ha hvl S=>?_
 obtain⟨p0,cap0,vf,rfl,_,_,_,_,hfn⟩:=id hu
 obtain⟨qf,capf,rfl,_,_⟩:=hfn.sl.shape
 obtain⟨hlt,hge⟩:=List.getElem?_eq_some_iff.1 F.at'
 obtain⟨bf,of,cf,_,hcf,hgc,hfo⟩:=hfn.sl.get (by decide) hlt
 rw[hge]at hgc
 have hin:=akh (fn:=fn) hgc F.may F.head F.pts
 have h1:=h1 he g
 generalize lkS u fn g=ls at *
 have S:StX noX w (r.or s) w' (jO vs ls++[.row (.slice pl ls.length cl) 82 5 ls.length (jl vs ls)]):=S.permO (List.perm_append_comm (l₂:=[_]))
 obtain⟨s1,S,hs1,a1⟩:=acj hvl (λx hx=>⟨(hin x hx).1,by have:=(hin x hx).2;omega⟩) S
 obtain⟨s2,S,hs2,_,a2⟩:=S.doneRow (l:=ls) (R:=LnG s1) (sz:=5) (aci hvl λi k1 k2=>⟨_,rfl,hs1 i k1 k2⟩) (by decide) rfl
 have T:StX noX w (r.or ((s.or s1).or s2)) w' []:=S.less (λb o h=>Or.elim h (λh=>.inl (.inl (.inl h))) λh=>Or.elim h (λh=>Or.elim h (λh=>.inl (.inl (.inr h))) λh=>.inl (.inr h)) .inr) (List.Sublist.refl _)
 refine h1 _ pl cl w' F T.ext (StX.newOf T ((ha.or' λb o ho=>(a1 b o ho).resolve_right id).or' λb o ho=>(a2 b o ho).resolve_right id)) ?_
 exact hs2.up' inferInstance λc x hx=>LnG.up hx
end
theorem afV{w:World}{r:Gh}{K:Value→World→Prop}(hr:Holds r w)(hT:TabG r)(h:∀w',Ext w w'→K (.bool true) w'):zd Tryz.prog Tryz.xe #[] w K:=by
 refine Tryz.aeA ?_
 unfold Tryz.VD
 have S:=St.start hr
 refine ahu λv2 s2 w2 e2 n2 hu=>?_
 obtain⟨S,_,_⟩:=S.tell e2 n2
 refine S.al λb1 w3 S=>?_
 obtain⟨p0,cap0,vf,rfl,_,_,_,_,hfn⟩:=id hu
 obtain⟨qf,capf,rfl,_,_⟩:=hfn.sl.shape
 refine S.stB (b:=b1) λw4 S=>?_
 have S:StX noX w (r.or s2) w4 [.cell b1 [.slice p0 0 cap0,.slice qf 1 capf,.int .i64 0] 25]:=S
 have hu:UnG (r.or s2) (.agg #[.slice p0 0 cap0,.slice qf 1 capf,.int .i64 0]) zS:=UnG.up hu
 have hT:TabG (r.or s2):=hT.up
 generalize r.or s2=ρ at S hu hT
 refine S.ldB (b:=b1) ?_ rfl
 refine ajk S.holds hu (λhe=>absurd J8 he) λhz g s5 pl cl w5 F e5 n5 hls=>?_
 obtain rfl:g=zJ:=Option.some.inj (F.at'.symm.trans rfl)
 rw[qZ]at hls⊢
 obtain⟨S,_,_⟩:=S.tell e5 n5
 refine gp_ ?_
 refine gp_ ?_
 refine S.ldB (b:=b1) ?_ rfl
 refine ahk S.holds (UnG.up hu) (λhe=>absurd (aeC (ahz (by decide))) he) λ_ g p v6 s6 w6 F6 _ hp e6 n6 h6=>?_
 obtain rfl:g=zJ:=Option.some.inj (F6.at'.symm.trans rfl)
 obtain rfl:hp2=p:=Option.some.inj hp
 rw[anr]at h6
 obtain⟨S,_,_⟩:=S.tell e6 n6
 obtain⟨p6,c6,rfl,_,_⟩:=h6.shape
 refine gp_ ?_
 refine gp_ ?_
 refine S.ldB (b:=b1) ?_ rfl
 refine ahl S.holds (UnG.up (UnG.up (s:=ρ.or s5) hu)) (λhe=>absurd (aeC (ahz (by decide))) he) λ_ g p v7 s7 w7 F7 _ hp e7 n7 h7=>?_
 obtain rfl:g=zJ:=Option.some.inj (F7.at'.symm.trans rfl)
 obtain rfl:hp1=p:=Option.some.inj hp
 rw[alx]at h7
 obtain⟨S,_,_⟩:=S.tell e7 n7
 obtain⟨p7,c7,rfl,_,_⟩:=h7.shape
 refine gp_ ?_
 refine gp_ ?_
 obtain⟨σ,hσ,S⟩:=S.any
 have l5:Le s5 σ:=by rw[hσ];infer_instance
 have l6:Le s6 σ:=by rw[hσ];infer_instance
 have l0:Le ρ σ:=by rw[hσ];infer_instance
 clear hσ
 refine S.lit (e:=3) (cs:=[.int .i64 1,.int .i64 2]) (by kernel_rfl) λb8 w8 S=>?_
 obtain⟨S,hs8,_⟩:=S.litNew b8 (sz:=1) (R:=yN) (l:=[1,2]) (yR (c:=[.int .i64 1]) rfl rfl (xg rfl rfl)) (by decide)
 refine QR (n:=4) (l:=[1,2]) (by decide) S hs8.cells (by decide) (by decide) λbw w9 S=>?_
 rw[akp]at S
 obtain⟨S,hw1,_⟩:=S.litNew bw (sz:=1) (R:=WdC) (l:=[6#64]) vU (by decide)
 refine S.lit (e:=3) (cs:=[.int .i64 1,.int .i64 2]) (by kernel_rfl) λb9 w10 S=>?_
 obtain⟨S,hs9,_⟩:=S.litNew b9 (sz:=1) (R:=yN) (l:=[1,2]) (yR (c:=[.int .i64 1]) rfl rfl (xg rfl rfl)) (by decide)
 refine QR (n:=4) (l:=[1,2]) (by decide) S hs9.cells (by decide) (by decide) λbx w11 S=>?_
 rw[akp]at S
 obtain⟨S,hw2,_⟩:=S.litNew bx (sz:=1) (R:=WdC) (l:=[6#64]) vU (by decide)
 obtain⟨τ,hτ,S⟩:=S.any
 have m1:Le (Go.Sh.one bw (wcs [6#64]) 205) τ:=by rw[hτ];infer_instance
 have m2:Le (Go.Sh.one bx (wcs [6#64]) 205) τ:=by rw[hτ];infer_instance
 have m0:Le σ τ:=by rw[hτ];exact⟨λb o h=>.inl (.inl (.inl (.inl h)))⟩
 clear hτ
 have r1:RwbC τ [.int .i64 4,.slice (some ⟨bw,0,none⟩) 1 1] (4,[6#64]):=⟨some ⟨bw,0,none⟩,1,rfl,SlB.cells (r:=Go.Sh.one bw (wcs [6#64]) 205) ⟨hw1,by decide⟩⟩
 have r2:RwbC τ [.int .i64 4,.slice (some ⟨bx,0,none⟩) 1 1] (4,[6#64]):=⟨some ⟨bx,0,none⟩,1,rfl,SlB.cells (r:=Go.Sh.one bx (wcs [6#64]) 205) ⟨hw2,by decide⟩⟩
 refine S.lit (e:=48) (cs:=[.int .i64 4,.slice (some ⟨bw,0,none⟩) 1 1,.int .i64 4,.slice (some ⟨bx,0,none⟩) 1 1]) (by kernel_rfl) λb10 w12 S=>?_
 obtain⟨S,hrs,_⟩:=S.litNew b10 (sz:=2) (R:=RwbC τ) (l:=[(4,[6#64]),(4,[6#64])]) (by exact(yR (c:=[.int .i64 4,.slice (some ⟨bw,0,none⟩) 1 1]) rfl r1 (xg (c:=[.int .i64 4,.slice (some ⟨bx,0,none⟩) 1 1]) rfl r2))) (by decide)
 obtain⟨κ,hκ,S⟩:=S.any
 have k0:Le τ κ:=by rw[hκ];infer_instance
 have k1:Le (Go.Sh.one b10 [.int .i64 4,.slice (some ⟨bw,0,none⟩) 1 1,.int .i64 4,.slice (some ⟨bx,0,none⟩) 1 1] 48) κ:=by rw[hκ];infer_instance
 clear hκ
 have kρ:Le ρ κ:=⟨λb o h=>k0.le b o (m0.le b o (l0.le b o h))⟩
 have k5:Le s5 κ:=⟨λb o h=>k0.le b o (m0.le b o (l5.le b o h))⟩
 have k6:Le s6 κ:=⟨λb o h=>k0.le b o (m0.le b o (l6.le b o h))⟩
 have hrs:SlG 2 κ (RwbC κ) (.slice (some ⟨b10,0,none⟩) 2 2) [(4,[6#64]),(4,[6#64])]:=hrs.up' k1 λc x h=>RwbC.up (s:=κ) h
 have hu:UnG κ (.agg #[.slice p0 0 cap0,.slice qf 1 capf,.int .i64 0]) zS:=UnG.up hu
 have hT:TabG κ:=hT.up
 refine S.ldB (b:=b1) ?_ rfl
 refine afP S.holds hu hrs (by decide) (λe w13 he hbad e13=>?_) λg F8 _ _ v13 s13 Y w13 e13 n13 hY hYl hYr=>?_
 ·exfalso
  have:=hbad zJ af2 J8
  rw[aco]at this;cases this
 obtain rfl:g=zJ:=Option.some.inj (F8.at'.symm.trans rfl)
 obtain⟨S,_,_⟩:=S.tell e13 n13
 have hY1:Y=[(4,[2#64])]:=by
  have hl:Y.length=1:=by rw[hYl,qZ];rfl
  obtain⟨y,rfl⟩:=List.length_eq_one_iff.1 hl
  have:=hYr 0 (by rw[qZ];decide) (by simp)
  have h0:(lkS zS 0 zJ)[0]'(by rw[qZ];decide)=ln0:=by simp[qZ]
  rw[h0]at this
  have h9:y=(4,[2#64]):=amy this
  rw[h9]
 subst hY1
 obtain⟨pY,cY,rfl,_,_⟩:=hY.shape
 have hu1:UnG (κ.or s13) (.agg #[.slice p0 0 cap0,.slice qf 1 capf,.int .i64 0]) zS:=UnG.up hu
 have hrs1:SlG 2 (κ.or s13) (RwbC (κ.or s13)) (.slice (some ⟨b10,0,none⟩) 2 2) [(4,[6#64]),(4,[6#64])]:=hrs.up' inferInstance λ_ _ h=>RwbC.up h
 have hY1:SlG 2 (κ.or s13) (RwbC (κ.or s13)) (.slice pY 1 cY) [(4,[2#64])]:=hY.up' inferInstance λ_ _ h=>RwbC.up h
 have hT1:TabG (κ.or s13):=hT.up
 have d5:Le s5 (κ.or s13):=⟨λb o h=>.inl (k5.le b o h)⟩
 have d6:Le s6 (κ.or s13):=⟨λb o h=>.inl (k6.le b o h)⟩
 generalize κ.or s13=φ at S hu1 hrs1 hY1 hT1 d5 d6
 refine gp_ ?_
 refine gp_ ?_
 refine S.ldB (b:=b1) ?_ rfl
 refine afQ S.holds hu1 hY1 (by decide) (λe w14 he hbad e14=>?_) λg F9 _ _ w14 e14=>?_
 ·exfalso
  have:=hbad zJ af2 J8
  rw[ahy]at this;cases this
 obtain rfl:g=zJ:=Option.some.inj (F9.at'.symm.trans rfl)
 rw[qZ,amA]
 have S:=S.go e14
 refine gp_ ?_
 refine gp_ ?_
 refine gp_ ?_
 refine gp_ ?_
 refine S.ldB (b:=b1) ?_ rfl
 refine ah7 (x:=ln0) S.holds hu1 hrs1 (by decide) af2 J8 aco qZ (by decide) rfl (by decide) λpw cw w15 e15=>?_
 have S:=S.go e15
 refine gp_ ?_
 refine gp_ ?_
 refine gp_ ?_
 refine S.ldB (b:=b1) ?_ rfl
 refine afT S.holds hu1 hrs1 hY1 (by decide) (by decide) hT1 (λe w16 he hbad e16=>?_) λg Fa _ _ _ i p ok w16 e16 hok=>?_
 ·exfalso
  have:=hbad zJ af2 J8 aco
  rw[ahy]at this;cases this
 obtain rfl:g=zJ:=Option.some.inj (Fa.at'.symm.trans rfl)
 have hokt:ok=true:=hok.2 λn hn=>by
  have hn1:n<1:=by rw[qZ]at hn;exact hn
  obtain rfl:n=0:=by omega
  have h0:(lkS zS 0 zJ)[0]'(by rw[qZ];decide)=ln0:=by simp[qZ]
  rw[h0]
  exact amz
 subst hokt
 have S:=S.go e16
 refine gp_ ?_
 refine gp_ ?_
 refine gp_ ?_
 refine gp_ ?_
 refine S.ldB (b:=b1) ?_ rfl
 refine zq (cs:=#[.int .i64 1,.slice none 0 0]) (by kernel_rfl) ?_
 refine zq (cs:=#[.int .i64 1,.slice none 0 0,.int .u8 1,.bool true]) (by kernel_rfl) ?_
 refine VA S.holds hu1 (a:=⟨plD 1,1,true⟩) (c:=[.int .i64 1,.slice none 0 0,.int .u8 1,.bool true]) ⟨_,rfl,aik⟩ λw17 e17=>?_
 rw[aeC ans,ant]
 have S:=S.go e17
 obtain⟨bl,ol,cl',hql,_,hlc,hlo⟩:=hls.get (i:=0) (by decide) (by decide)
 cases hql
 obtain⟨vl,rfl,_⟩:=hlc
 obtain⟨ba,oa,ca,hqa,_,hac,hao⟩:=h6.get (i:=0) (by decide) (by decide)
 cases hqa
 obtain⟨va,rfl,_⟩:=hac
 obtain⟨bY,oY,cYc,hqY,_,hYc,hYo⟩:=hY1.get (i:=0) (by decide) (by decide)
 cases hqY
 have hYc0:=hYc
 obtain⟨pYw,cYw,rfl,_⟩:=hYc
 refine gp_ ?_
 refine gp_ ?_
 refine gp_ ?_
 simp only[gls]
 have S:=S.go (Ext.drew _)
 refine zg (c:=true) (λ_ K2 hK2=>by refine gg_ ?_;exact hK2) ?_
 refine zg (c:=true) (λ_ K2 hK2=>?_) ?_
 ·refine gg_ ?_
  refine zf (by simpa using S.at (Ob.up (s:=φ) (hlo 4 _ rfl))) ?_
  refine gg_ ?_
  exact hK2
 iterate 2 refine zg (c:=true) (λ_ K2 hK2=>by refine gg_ ?_;exact hK2) ?_
 refine zg (c:=true) (λ_ K2 hK2=>?_) ?_
 ·refine gg_ ?_
  refine zf (by simpa using S.at (Ob.up (s:=φ) (hao 2 _ rfl))) ?_
  refine gg_ ?_
  exact hK2
 iterate 4 refine zg (c:=true) (λ_ K2 hK2=>by refine gg_ ?_;exact hK2) ?_
 refine zr (c:=true) (λ_ K2 hK2=>?_) λw56 e56=>?_
 ·refine gg_ ?_
  refine zo (n:=2) rfl (λj v hj=>by simpa using S.at (hYo j v hj)) ?_
  have T:=St.start S.holds
  refine T.litU (e:=3) (cs:=[.int .i64 1]) (by kernel_rfl) λb18 w18 T=>?_
  obtain⟨T,hs18,_⟩:=T.litNew b18 (sz:=1) (R:=yN) (l:=[1]) (xg rfl rfl) (by decide)
  have hs18:SlG 1 (φ.or (Go.Sh.one b18 [.int .i64 1] 3)) yN (.slice (some ⟨b18,0,none⟩) 1 1) [1]:=hs18.cells
  have hYc1:=RwbC.up (s:=φ.or (Go.Sh.one b18 [.int .i64 1] 3)) hYc0
  generalize φ.or (Go.Sh.one b18 [.int .i64 1] 3)=ψ at T hs18 hYc1
  refine QR (n:=4) (l:=[1]) (by decide) (St.start T.holds) hs18 (by decide) (by decide) λbz w19 V=>⟨V.ext,?_⟩
  have T:=T.go V.ext
  rw[alO]at V
  obtain⟨V,hw3,_⟩:=V.litNew bz (sz:=1) (R:=WdC) (l:=[2#64]) vU (by decide)
  have hw3:SlB 1 (ψ.or (Go.Sh.one bz (wcs [2#64]) 205)) WdC (.slice (some ⟨bz,0,none⟩) 1 1) [2#64]:=SlB.cells (r:=Go.Sh.one bz (wcs [2#64]) 205) ⟨hw3,by decide⟩
  refine afU (x:=(4,[2#64])) V.holds (RwbC.up hYc1) (cy:=[.int .i64 4,.slice (some ⟨bz,0,none⟩) 1 1]) ⟨_,_,rfl,hw3⟩ λw20 e20=>?_
  exact hK2 _ (T.go e20).ext
 have S:=S.go e56
 iterate 4 refine zg (c:=true) (λ_ K2 hK2=>by refine gg_ ?_;exact hK2) ?_
 refine zg (c:=true) (λ_ K2 hK2=>hK2) ?_
 iterate 2 refine zg (c:=true) (λ_ K2 hK2=>by refine gg_ ?_;exact hK2) ?_
 refine zg (c:=true) (λ_ K2 hK2=>hK2) ?_
 refine zg (c:=true) (λ_ K2 hK2=>by refine gg_ ?_;exact hK2) ?_
 refine zg (c:=true) (λ_ K2 hK2=>hK2) ?_
 refine zg (c:=true) (λ_ K2 hK2=>by refine gg_ ?_;exact hK2) ?_
 exact h _ S.ext
theorem aeD{u:UnD}{fn:Int}{g:GrD}{x:LnD}{a:AcD}{c c':List Value}{v:Value}{w:World}{r:Gh}{K:Value→World→Prop}(hr:Holds r w)(hu:UnG r v u)(F:IsF u fn g)(hx:LnG r c x)(ha:AcG r c' a)
  (hxm:(zz u.ss g.tys x.pl).isSome=true) (ham:(zz u.ss g.tys a.pl).isSome=true) (hd:1≤a.d∧a.d≤3) (h:∀w',Ext w w'→K (.bool (jn u g x a)) w'):
  zd Tryz.prog Tryz.ZM #[v,.int .i64 fn,.agg c.toArray,.agg c'.toArray] w K:=by
 refine Tryz.adv ?_
 unfold Tryz.Jo
 have hst:=F.may.ok
 have hf:=F.head.fine F.may.ok
 obtain⟨h0,h1⟩:=ahv hxm
 rw[ann hst hf h0 h1]at h
 obtain⟨p0,cap0,vf,rfl,_,_,_,_,_⟩:=id hu
 obtain⟨vx,rfl,hxs⟩:=hx
 obtain⟨qx,cx,rfl,_,_⟩:=hxs.sl.shape
 obtain⟨va,rfl,has⟩:=ha
 obtain⟨qa,ca,rfl,_,_⟩:=has.sl.shape
 have haf:a.pl.ps.length≤9223372036854775807:=has.few
 have hpx:PlG r [.int .i64 x.pl.l,.slice qx x.pl.ps.length cx] x.pl:=⟨_,rfl,hxs⟩
 have hpa:PlG r [.int .i64 a.pl.l,.slice qa a.pl.ps.length ca] a.pl:=⟨_,rfl,has⟩
 have S:=St.start hr
 refine S.box λb4 w1 S=>?_
 refine S.box λb6 w2 S=>?_
 refine S.box λb7 w3 S=>?_
 have S:StX noX w r w3 [.cell b7 [.int .i64 a.pl.l,.slice qa a.pl.ps.length ca,.int .u8 a.d,.bool a.wr] 88,.cell b6 [.int .i64 x.q,.int .i64 x.pl.l,.slice qx x.pl.ps.length cx,.bool x.mu,.int .i64 x.re] 82,.cell b4 [.slice p0 u.ss.length cap0,vf,.int .i64 u.mn] 25]:=S
 refine gg_ ?_
 refine zg (c:=!x.mu) (λ_ K2 hK2=>by refine gg_ ?_;exact hK2) ?_
 refine c_b (λhb=>?_) (λhb=>?_)
 ·have:=h _ S.ext
  rw[show (a.wr||x.mu)=false by cases hw:a.wr<;>cases hm:x.mu<;>simp_all,Bool.false_and]at this
  exact this
 rw[show (a.wr||x.mu)=true by cases hw:a.wr<;>cases hm:x.mu<;>simp_all,Bool.true_and]at h
 refine gg_ ?_
 refine S.ldN (b:=b6) (vs:=[.int .i64 x.pl.l,.slice qx x.pl.ps.length cx]) ?_
 refine gg_ ?_
 refine S.ldN (b:=b7) (vs:=[.int .i64 a.pl.l,.slice qa a.pl.ps.length ca]) ?_
 refine Js S.holds hpx hpa λw8 e8=>?_
 have S:=S.go e8
 refine c_b (λhp=>?_) (λhp=>?_)
 ·rw[hp,Bool.true_or]at h
  exact h _ S.ext
 rw[hp,Bool.false_or]at h
 refine gg_ ?_
 refine S.ldN (b:=b7) (vs:=[.int .i64 a.pl.l,.slice qa a.pl.ps.length ca]) ?_
 refine gg_ ?_
 refine S.ldN (b:=b6) (vs:=[.int .i64 x.pl.l,.slice qx x.pl.ps.length cx]) ?_
 refine Js S.holds hpa hpx λw9 e9=>?_
 have S:=S.go e9
 refine gp_ ?_
 refine c_b (λhq=>?_) (λhq=>?_)
 ·rw[air (by simpa using hq)]at h
  exact h _ S.ext
 have hq:yp a.pl x.pl=true:=by simpa using hq
 refine S.ldB (b:=b4) ?_ rfl
 refine gg_ ?_
 refine S.ldN (b:=b6) (vs:=[.int .i64 x.pl.l,.slice qx x.pl.ps.length cx]) ?_
 obtain⟨hlt,hge⟩:=List.getElem?_eq_some_iff.1 F.at'
 refine VC S.holds hu F.may F.fn0 hlt hpx (λw3 hno _=>?_) λt m v' vg s w10 hsp e10 n10 ht hhow=>?_
 ·rw[hge,Y6 hst hf,hxm]at hno
  cases hno
 obtain⟨how,hvg,hw⟩:=hhow
 rw[hge]at hw
 obtain⟨S,_,_⟩:=S.tell e10 n10
 obtain⟨pt,capt,rfl,_⟩:=id ht
 obtain⟨pg,cg,rfl,_,_⟩:=hvg.shape
 have h8:x.pl.ps.length≤8:=by
  rw[J7 hst hf h0 h1]at hxm
  split at hxm
  ·assumption
  ·cases hxm
 have hpw:zz u.ss g.tys x.pl=some (t,how):=by
  rw[J7 hst hf h0 h1,if_pos h8,← hw,ggd,gqg h1];rfl
 have hhl:how.length=x.pl.ps.length:=vS hw
 have hW:(qj u.ss g.tys a.pl x.pl a.d).1=(how.drop a.pl.ps.length).all λk=>decide (k≤Zu a.d):=by
  rw[qj,hpw]
  show(if _ then _ else _:Bool×Int).1=_
  rw[if_neg (by rintro((hh|hh)|hh);rw[ham]at hh;cases hh;omega;omega),hq,Bool.true_and]
 rw[hW]at h
 refine gS_ ?_
 refine S.al λb9 w11 S=>?_
 refine S.stB (b:=b9) λw12 S=>?_
 have S:=S.drop b9
 refine gg_ ?_
 refine zi (ι:=Nat) (λi=>[.int .i64 ((a.pl.ps.length+i:Nat):Int)]) (λi w'=>i≤how.length-a.pl.ps.length∧(∀k (hk:k<how.length),a.pl.ps.length≤k→k<a.pl.ps.length+i→how[k]≤Zu a.d)∧StX noX w (r.or s) w' [.cell b7 [.int .i64 a.pl.l,.slice qa a.pl.ps.length ca,.int .u8 a.d,.bool a.wr] 88,.cell b6 [.int .i64 x.q,.int .i64 x.pl.l,.slice qx x.pl.ps.length cx,.bool x.mu,.int .i64 x.re] 82,.cell b4 [.slice p0 u.ss.length cap0,vf,.int .i64 u.mn] 25]) (λi=>how.length-a.pl.ps.length-i) 0 rfl ⟨gzl _,λk _ h1 h2=>by omega,S⟩ ?_
 clear S
 rintro i dd w16 ⟨hi,hno,S⟩ K13 hK13
 rw[gdz]
 refine gg_ ?_
 refine zj (λhlt2=>?_) (λhge2=>?_)
 ·have hlt2:a.pl.ps.length+i<how.length:=by omega
  obtain⟨b1,o1,rfl,_,g1⟩:=xR hvg hlt2
  have g1:Ob s λw=>w.cell? ⟨b1,o1+(a.pl.ps.length+i),none⟩=some (.int .i64 how[a.pl.ps.length+i]):=g1
  have hnext:how[a.pl.ps.length+i]≤Zu a.d→∀k (hk:k<how.length),a.pl.ps.length≤k→k<a.pl.ps.length+(i+1)→how[k]≤Zu a.d:=λhle k hk k1 k2=>by
   rcases Nat.lt_or_ge k (a.pl.ps.length+i)with hh|hh
   ·exact hno k hk k1 hh
   ·obtain rfl:k=a.pl.ps.length+i:=by omega
    exact hle
  have hbad:¬how[a.pl.ps.length+i]≤Zu a.d→((how.drop a.pl.ps.length).all λk=>decide (k≤Zu a.d))=false:=λhle=>by
   rw[List.all_eq_false]
   refine⟨how[a.pl.ps.length+i],?_,by simpa using hle⟩
   rw[List.mem_iff_getElem]
   exact⟨i,by rw[List.length_drop];omega,by rw[List.getElem_drop]⟩
  generalize how[a.pl.ps.length+i]=y at g1 hnext hbad
  refine gg_ ?_
  refine zg (c:=decide (0<y)) (λ_ K2 hK2=>?_) ?_
  ·refine gg_ ?_
   refine zf (by rw[tnc];exact S.at (Ob.up (s:=r.or s) g1)) ?_
   refine gg_ ?_
   exact hK2
  refine jC (g:=decide (a.d=2)) (c:=decide (1<y)) (λ_ K2 hK2=>by refine gg_ ?_;exact hK2) (λ_ K2 hK2=>?_) ?_
  ·refine gg_ ?_
   refine zf (by rw[tnc];exact S.at (Ob.up (s:=r.or s) g1)) ?_
   refine gg_ ?_
   exact hK2
  refine jC (g:=decide (a.d=3)) (c:=decide (2<y)) (λ_ K2 hK2=>by refine gg_ ?_;exact hK2) (λ_ K2 hK2=>?_) ?_
  ·refine gg_ ?_
   refine zf (by rw[tnc];exact S.at (Ob.up (s:=r.or s) g1)) ?_
   refine gg_ ?_
   exact hK2
  have hcc:((decide (a.d=1)&&decide (0<y)||(decide (a.d=2)&&decide (1<y)))||(decide (a.d=3)&&decide (2<y))) = !decide (y≤Zu a.d):=by
   obtain hh|hh|hh:a.d=1∨a.d=2∨a.d=3:=by omega
   all_goals
    rw[hh,Bool.eq_iff_iff]
    simp[Zu]
    try omega
  rw[hcc]
  refine c_b (λhy=>?_) (λhy=>?_)
  ·have:=h _ S.ext
   rw[hbad (by simpa using hy)]at this
   exact this
  ·refine YR (by omega) ?_
   refine hK13 (i+1) _ ⟨by omega,hnext (by simpa using hy),S⟩ (by omega)
 ·have:=h _ S.ext
  rw[List.all_eq_true.2 λk hk=>?_]at this
  ·exact this
  obtain⟨j,hj,rfl⟩:=List.getElem_of_mem hk
  rw[List.length_drop]at hj
  rw[List.getElem_drop]
  exact gde (hno _ (by omega) (by omega) (by omega))
section
variable {u:UnD} {fn:Int} {v:Value} {w:World} {r:Gh} {K:Value→World→Prop}
theorem amC{g:GrD}(F:IsF u fn g):lkE u fn≠2:=by
 have h:=(F.all (q:=-1) (by have:=F.head.pt1;omega)).2
 rw[lkE,h,zM,if_pos rfl]
 split<;>simp
theorem aeE{p:PlD}{c:List Value}{g:GrD}(hr:Holds r w)(hu:UnG r v u)(F:IsF u fn g)(hp:PlG r c p)
  (h:∀t q cap vg w',Ext w w'→K (.tuple #[tyV t q cap,vg,.bool (zz u.ss g.tys p).isSome]) w'):zd Tryz.prog Tryz.qu #[v,.int .i64 fn,.agg c.toArray] w K:=by
 obtain⟨hlt,hge⟩:=List.getElem?_eq_some_iff.1 F.at'
 refine VC hr hu F.may F.fn0 hlt hp (λw' hno e=>?_) λt m v' vg s w' hsp e n ht _=>?_
 ·rw[hge,Y6 F.may.ok (F.head.fine F.may.ok)]at hno
  have:=h zF none 0 (.slice none 0 0) w' e
  rw[hno]at this
  exact this
 ·obtain⟨q,cap,rfl,_⟩:=ht
  have hs:(zz u.ss g.tys p).isSome=true:=by
   rw[← Y6 F.may.ok (F.head.fine F.may.ok),← hge,hsp]
  have:=h t q cap vg w' e
  rw[hs]at this
  exact this
theorem aaH{n:Int}{a:AcD}{c:List Value}(hr:Holds r w)(hu:UnG r v u)(ha:AcG r c a)(hT:TabG r)
  (h:∀w',Ext w w'→K (.bool true) w'):zd Tryz.prog Tryz.Yd #[v,.int .i64 fn,.int .i64 n,.agg c.toArray] w K:=by
 refine Tryz.VM ?_
 unfold Tryz.Yl
 obtain⟨p0,cap0,vf,rfl,_,_,_,_,hfn⟩:=id hu
 obtain⟨qf,capf,rfl,_,_⟩:=hfn.sl.shape
 have ha0:=ha
 obtain⟨va,rfl,has⟩:=ha
 obtain⟨qa,ca,rfl,_,_⟩:=has.sl.shape
 have haf:a.pl.ps.length≤9223372036854775807:=has.few
 have S:=St.start hr
 refine S.box λb4 w1 S=>?_
 refine S.box λb7 w2 S=>?_
 have S:StX noX w r w2 [.cell b7 [.int .i64 a.pl.l,.slice qa a.pl.ps.length ca,.int .u8 a.d,.bool a.wr] 88,.cell b4 [.slice p0 u.ss.length cap0,.slice qf u.fs.length capf,.int .i64 u.mn] 25]:=S
 refine S.ldB (b:=b4) ?_ rfl
 refine aht S.holds hu λy w3 e3=>?_
 have S:=S.go e3
 have awk:∀{W:World}{ρ:Gh}{L:List Asr}{K':Value→World→Prop},StX noX w ρ W L→TabG ρ→(∀w',Ext w w'→Ext W w'→K' (.bool true) w')→zd Tryz.prog Tryz.xe #[] W K':=λS hT k=>afV S.holds hT λw3 e3=>k _ (S.go e3).ext e3
 refine gp_ ?_
 refine zm (c:=decide (40<(a.pl.ps.length:Int))) (λ_ K2 hK2=>by refine gg_ ?_;exact hK2) ?_
 refine c_b (λ_=>awk S hT λw' e _=>h w' e) (λ_=>?_)
 refine S.ldB (b:=b4) ?_ rfl
 refine S.ldB (b:=b7) ?_ rfl
 refine VA S.holds hu ha0 λw9 e9=>?_
 have S:=S.go e9
 refine gp_ ?_
 refine gp_ ?_
 refine S.ldB (b:=b4) ?_ rfl
 refine ajb S.holds hu λv10 s w10 e10 n10 hd=>?_
 obtain⟨S,_,_⟩:=S.tell e10 n10
 have hd:RgG s v10 (lkR u fn):=hd
 obtain⟨q1,c1,q2,c2,rfl,_,_⟩:=hd.shape
 rw[show (zM (zK u fn (-1))).2=lkE u fn from rfl]
 have hT1:TabG (r.or s):=hT.up
 have hu1:UnG (r.or s) (.agg #[.slice p0 u.ss.length cap0,.slice qf u.fs.length capf,.int .i64 u.mn]) u:=UnG.up hu
 have hd1:RgG (r.or s) _ (lkR u fn):=RgG.up hd
 have ha1:AcG (r.or s) [.int .i64 a.pl.l,.slice qa a.pl.ps.length ca,.int .u8 a.d,.bool a.wr] a:=AcG.up ha0
 have hfn1:=hfn
 have leρ:Le r (r.or s):=inferInstance
 generalize r.or s=ρ at S hT1 hu1 hd1 ha1 leρ
 refine gp_ ?_
 refine gp_ ?_
 refine S.al λb11 w11 S=>?_
 refine S.stB (b:=b11) λw12 S=>?_
 have S:StX noX w ρ w12 [.cell b11 (rgL (lkR u fn).lv (lkR u fn).pt (lkR u fn).ct (.slice q1 (lkR u fn).tys.length c1) (.slice q2 (lkR u fn).at'.length c2)) 74,.cell b7 [.int .i64 a.pl.l,.slice qa a.pl.ps.length ca,.int .u8 a.d,.bool a.wr] 88,.cell b4 [.slice p0 u.ss.length cap0,.slice qf u.fs.length capf,.int .i64 u.mn] 25]:=S
 refine gp_ ?_
 cases hi:isU u fn (-1)with
 |false=>
  rw[akk hi]
  refine c_t rfl ?_
  have hE:∀b,yO u fn b=2:=λb=>by rw[yO,if_neg (by rw[hi];simp)]
  rw[hE]
  refine gp_ ?_
  refine zg (c:=true) (λ_ K2 hK2=>by refine gg_ ?_;exact hK2) ?_
  refine zr (c:=true) (λ_ K2 hK2=>awk S hT1 λw' _ e=>hK2 _ e) λw8 e8=>?_
  exact h _ (S.go e8).ext
 |true=>
 obtain⟨_,_,hlt,_,_⟩:=xZ hi
 have F:=isF hi (gqg hlt)
 generalize hg:u.fs[fn.toNat]=g at F
 refine c_f (decide_eq_false (amC F)) ?_
 have hz2:∀b,yO u fn b=if b=true then lkE u fn else 2:=λb=>by
  rw[yO];simp[F.is]
 rw[hz2]
 refine S.ldB (b:=b4) ?_ rfl
 refine gg_ ?_
 refine S.ldN (b:=b7) (vs:=[.int .i64 a.pl.l,.slice qa a.pl.ps.length ca]) ?_
 refine aeE S.holds hu1 F (p:=a.pl) ⟨_,rfl,SlB.cells has⟩ λt q cap vg w22 e22=>?_
 have S:=S.go e22
 refine gp_ ?_
 refine gp_ ?_
 refine gp_ ?_
 refine S.al λb13 w23 S=>?_
 refine S.stB (b:=b13) λw24 S=>?_
 have S:=S.drop b13
 obtain⟨bf,of,cf,hqf,hcf,hgc,hfo⟩:=hfn.sl.get (by decide) hlt
 rw[hg]at hgc
 obtain⟨x1,x2,x3,x4,y1,y2,y3,y4,rfl,hg0⟩:=aeb hgc
 obtain⟨_,_,_,_,hE4,_,_,_,hptg⟩:=hg0
 cases hE4
 have hfo6:Ob ρ λw=>w.cell? ⟨bf,of+fn.toNat*7+6,none⟩=some (.slice x4 g.pts.length y4):=Ob.up (hfo 6 _ rfl)
 have hpt1:SlB 21 ρ (PtG ρ) (.slice x4 g.pts.length y4) g.pts:=hptg.up' inferInstance λ_ _ h=>PtG.up h
 have hn:=F.head.pt1024
 have hfn0:=F.fn0
 have hlf:(lkS u fn g).length≤1000000:=Nat.le_trans kz (by omega)
 subst hqf
 refine zi (ι:=Nat) (λi=>[.int .i64 ((lnsI g (reF (lkR u fn) (lkE u fn)) i).length:Nat),.int .i64 (i:Nat)]) (λi w'=>i≤g.pts.length∧StX noX w ρ w' [.cell b11 (rgL (lkR u fn).lv (lkR u fn).pt (lkR u fn).ct (.slice q1 (lkR u fn).tys.length c1) (.slice q2 (lkR u fn).at'.length c2)) 74,.cell b7 [.int .i64 a.pl.l,.slice qa a.pl.ps.length ca,.int .u8 a.d,.bool a.wr] 88,.cell b4 [.slice p0 u.ss.length cap0,.slice (some ⟨bf,of,none⟩) u.fs.length capf,.int .i64 u.mn] 25]) (λi=>g.pts.length-i) 0 rfl ⟨gzl _,S⟩ ?_
 repeat clear S
 rintro i dd w28 ⟨hi2,S⟩ K25 hK25
 simp only[gdz,gds]
 refine gg_ ?_
 refine zf (S.at hfo6) ?_
 refine gg_ ?_
 refine zj (λhlt2=>?_) (λhge2=>?_)
 ·have hlt2:i<g.pts.length:=by omega
  obtain⟨bp,op,cp,hqp,hcp,hpg,hpo⟩:=hpt1.sl.get (by decide) hlt2
  have hnext:(lnsI g (reF (lkR u fn) (lkE u fn)) (i+1)).length=(lnsI g (reF (lkR u fn) (lkE u fn)) i).length+if g.pts[i].op=4 then 1 else 0:=by
   rw[Qs,gla,J4,gqg hlt2]
   simp only
   split<;>rfl
  have hfew:(lnsI g (reF (lkR u fn) (lkE u fn)) i).length≤1000000:=Nat.le_trans kz (by omega)
  generalize g.pts[i]=pt at hpg hnext
  generalize (lnsI g (reF (lkR u fn) (lkE u fn)) i).length=k at hnext hfew
  obtain⟨z1,z2,z3,z4,z5,y1',y2',y3',y4',y5',rfl,_⟩:=xQ hpg
  refine zn (λx w'=>x=[.int .i64 ((lnsI g (reF (lkR u fn) (lkE u fn)) (i+1)).length:Nat)]∧StX noX w ρ w' [.cell b11 (rgL (lkR u fn).lv (lkR u fn).pt (lkR u fn).ct (.slice q1 (lkR u fn).tys.length c1) (.slice q2 (lkR u fn).at'.length c2)) 74,.cell b7 [.int .i64 a.pl.l,.slice qa a.pl.ps.length ca,.int .u8 a.d,.bool a.wr] 88,.cell b4 [.slice p0 u.ss.length cap0,.slice (some ⟨bf,of,none⟩) u.fs.length capf,.int .i64 u.mn] 25]) (λK29 hK29=>?_) ?_
  ·rw[hnext]at hK29
   refine gg_ ?_
   refine zf (S.at hfo6) ?_
   rw[hqp]
   refine gg_ ?_
   refine zf (by rw[tnc];exact S.at (hpo 0 _ rfl)) ?_
   refine gp_ ?_
   refine zj (λh4=>?_) (λh4=>?_)
   ·refine gg_ ?_
    rw[if_pos (by omega)]at hK29
    exact hK29 _ _ ⟨rfl,S⟩
   ·rw[if_neg (by omega)]at hK29
    exact hK29 _ _ ⟨rfl,S⟩
  clear S
  rintro _ w32 ⟨rfl,S⟩ d32
  simp only[gdz]
  refine gg_ ?_
  exact hK25 (i+1) _ ⟨hlt2,S⟩ (by omega)
 have hie:i=g.pts.length:=by omega
 subst hie
 rw[show lnsI g (reF (lkR u fn) (lkE u fn)) g.pts.length=lkS u fn g from rfl]
 have hI:jp u fn n a=((((decide (0≤n)&&decide (n<((lkS u fn g).length:Int)))&&(zz u.ss g.tys a.pl).isSome)&&decide (1≤a.d))&&decide (a.d≤3)):=by rw[jp,F.at']
 refine gp_ ?_
 refine zm (c:=decide (a.d<1)) (λ_ K2 hK2=>by refine gg_ ?_;exact hK2) ?_
 refine zm (c:=decide (3<a.d)) (λ_ K2 hK2=>by refine gg_ ?_;exact hK2) ?_
 refine zm (c:=decide (n<0)) (λ_ K2 hK2=>by refine gg_ ?_;exact hK2) ?_
 refine zm (c:=decide (((lkS u fn g).length:Int)≤n)) (λ_ K2 hK2=>by refine gg_ ?_;exact hK2) ?_
 refine c_b (λhbad=>?_) (λhok=>?_)
 ·have hbI:jp u fn n a=false:=by
   cases hh:jp u fn n a with
   |false=>rfl
   |true=>
    rw[hI]at hh
    simp only[gba,Bool.or_eq_true,gdt,Bool.not_eq_true']at hh hbad
    obtain⟨⟨⟨⟨h1,h2⟩,h3⟩,h4⟩,h5⟩:=hh
    rcases hbad with(((hb|hb)|hb)|hb)|hb
    ·rw[h3]at hb;cases hb
    all_goals omega
  rw[hbI,if_neg (by decide)]
  refine gp_ ?_
  refine zg (c:=true) (λ_ K2 hK2=>by refine gg_ ?_;exact hK2) ?_
  refine zr (c:=true) (λ_ K2 hK2=>awk S hT1 λw' _ e=>hK2 _ e) λw8 e8=>?_
  exact h _ (S.go e8).ext
 simp only[Bool.or_eq_false_iff,Bool.not_eq_false',decide_eq_false_iff_not]at hok
 obtain⟨⟨⟨⟨hpl,hda⟩,hdb⟩,hn0⟩,hnl⟩:=hok
 have hbI:jp u fn n a=true:=by
  rw[hI,hpl,gde (show 0≤n by omega),gde (show n<((lkS u fn g).length:Int)by omega),gde (show 1≤a.d by omega),gde (show a.d≤3 by omega)];rfl
 rw[hbI,if_pos rfl]
 refine gp_ ?_
 refine zj (λhne=>?_) (λhz=>?_)
 ·rw[decide_eq_false hne]
  refine gp_ ?_
  refine zg (c:=true) (λ_ K2 hK2=>?_) ?_
  ·refine gp_ ?_
   rw[show decide (lkE u fn=lkE u fn)=true by simp]
   exact hK2
  refine zr (c:=true) (λ_ K2 hK2=>awk S hT1 λw' _ e=>hK2 _ e) λw8 e8=>?_
  exact h _ (S.go e8).ext
 have hz:lkE u fn=0:=by omega
 have hnl2:n.toNat<(lkS u fn g).length:=by omega
 have hbV:acm u fn n a=jn u g (lkS u fn g)[n.toNat] a:=by
  rw[acm,F.at']
  simp only
  rw[gqg hnl2]
 have hmx:=amv F _ (gem hnl2)
 rw[hz,hbV]
 refine gp_ ?_
 have S:=S.go (Ext.drew _)
 refine zr (c:=true) (λ_ K2 hK2=>?_) λw70 e70=>?_
 ·refine S.ldB (b:=b4) ?_ rfl
  refine S.ldB (b:=b4) ?_ rfl
  refine S.ldB (b:=b11) ?_ rfl
  refine S.ldB (b:=b7) ?_ rfl
  refine ah4 S.holds hu1 F hz hd1 λv71 s71 w71 e71 n71 hls=>⟨e71,?_⟩
  have T:=St.start S.holds
  obtain⟨T,_,_⟩:=T.tell e71 n71
  obtain⟨pl,cl,rfl,_,_⟩:=hls.shape
  obtain⟨bx,ox,cx,hqx,hcx,hxc,hxo⟩:=hls.get (by decide) hnl2
  have hxc0:=LnG.up (s:=ρ.or s71) hxc
  obtain⟨vx,rfl,hxs⟩:=hxc
  obtain⟨qx,cx',rfl,_,_⟩:=hxs.sl.shape
  rw[hqx]
  refine gg_ ?_
  refine zo (n:=5) rfl (λj v hj=>T.at (Ob.up (s:=ρ.or s71) (hxo j v hj))) ?_
  refine aeD T.holds (UnG.up hu1) F hxc0 (AcG.up ha1) hmx hpl ⟨by omega,by omega⟩ λw72 e72=>?_
  refine gp_ ?_
  have:=hK2 _ (T.go e72).ext
  simpa using this
 have S:=S.go e70
 refine zr (c:=true) (λ_ K2 hK2=>awk S hT1 λw' _ e=>hK2 _ e) λw8 e8=>?_
 exact h _ (S.go e8).ext
end
end
end Go.Proofs
