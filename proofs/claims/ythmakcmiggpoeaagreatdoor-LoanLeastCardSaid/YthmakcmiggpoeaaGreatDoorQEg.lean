/-
  Contracts and plain laws that the last text leans on.
-/
import Derived.Test.YthmakcmiggpoeaaGreatDoorQEf
import Derived.Test.YthmakcmiggpoeaaGreatDoorQEe
set_option maxRecDepth 100000
set_option maxHeartbeats 8000000
set_option linter.unusedVariables false
set_option linter.unusedSimpArgs false
namespace Go.Proofs
open Go.Sh Go.RowKit Go.BM
section
section
variable {X:Nat→Prop} {w0 w:World} {r:Gh} {L:List Asr} {K:Value→World→Prop}
theorem afW{n:Nat}(hn:n≤1032)(S:StX X w0 r w L)
  (h:∀b w',StX X w0 r w' (.cell b (wcs (List.replicate ((n+63)/64) 0#64)) 205::L)→K (.agg #[.int .i64 n,.slice (some ⟨b,0,none⟩) ((n+63)/64) ((n+63)/64)]) w'):zb Tryz.prog Tryz.ZT #[.int .i64 n] w K:=by
 refine Tryz.acD ?_
 unfold Tryz.Q9
 refine S.al λb2 w1 S=>?_
 refine gg_ ?_
 refine S.mkS (by omega) (by omega) λb w2 S=>?_
 rw[show (((n:Int)+63)/64).toNat=(n+63)/64 by omega]at S⊢
 have S:=(show StX X w0 r w2 (.cell b (wcs (List.replicate ((n+63)/64) 0#64)) 205::.cell b2 [.int .i64 0,.slice none 0 0] 48::L)by
  rw[wcs,List.map_replicate];exact S)
 refine zo (cs:=#[.int .i64 n,.slice (some ⟨b,0,none⟩) ((n+63)/64) ((n+63)/64)]) (by kernel_rfl) ?_
 refine S.stB (b:=b2) λw3 S=>?_
 refine S.ceB (b:=b2) ?_ rfl
 exact h _ _ S.d2
theorem ah9{n:Nat}{l:List Int}{p:Option Addr}{cap:Nat}(hn:n≤1024)(S:StX X w0 r w L)(hl:SlG 1 r xp (.slice p l.length cap) l)(hlf:l.length≤1000000)(hin:∀x∈l,0≤x∧x<n)
  (h:∀b w',StX X w0 r w' (.cell b (wcs (wdsL n l)) 205::L)→K (.agg #[.int .i64 n,.slice (some ⟨b,0,none⟩) ((n+63)/64) ((n+63)/64)]) w'):zb Tryz.prog Tryz.XI #[.int .i64 n,.slice p l.length cap] w K:=by
 refine Tryz.aey ?_
 unfold Tryz.aaN
 refine S.al λb4 w1 S=>?_
 refine afW (by omega) S λbw w2 S=>?_
 refine S.al λb5 w3 S=>?_
 refine S.stB (b:=b5) λw4 S=>?_
 have S:StX X w0 r w4 (.cell b5 (rwL n bw) 48::.cell bw (wcs (wdsL n (l.take 0))) 205::.cell b4 [.int .i64 0,.slice none 0 0] 48::L):=S
 refine zk (ι:=Nat) (λi=>[.int .i64 (i:Nat)]) (λi w'=>i≤l.length∧StX X w0 r w' (.cell b5 (rwL n bw) 48::.cell bw (wcs (wdsL n (l.take i))) 205::.cell b4 [.int .i64 0,.slice none 0 0] 48::L)) (λi=>l.length-i) 0 rfl ⟨gzl _,S⟩ ?_
 clear S
 rintro i d w8 ⟨hi,S⟩ K5 hK5
 rw[gdz]
 refine gg_ ?_
 refine zj (λhlt=>?_) (λhge=>?_)
 ·have hlt:i<l.length:=by omega
  obtain⟨b8,o8,rfl,_,hc8⟩:=xT hl hlt
  have hp:=hin _ (gem hlt)
  have hadd:=ad7 (n:=n) (D:=l.take i) (p:=l[i])
  rw[← List.take_succ_eq_append_getElem hlt]at hadd
  have hwn:(wdsL n (l.take i)).length=(n+63)/64:=jr
  generalize l[i]=p at hc8 hp hadd
  generalize wdsL n (l.take i)=ws at S hadd hwn
  have hpw:p.toNat/64<ws.length:=by omega
  have S:=S.go (Ext.drew _)
  refine gg_ ?_
  refine zg (by rw[tnc];exact S.at hc8) ?_
  refine gg_ ?_
  refine zg (by rw[tnc];exact S.at hc8) ?_
  refine gg_ ?_
  refine S.ld (b:=bw) (v:=u64 (ws.getD (p.toNat/64) 0)) ?_ (by rw[show 0+(p/64).toNat=p.toNat/64 by omega,wcs,List.getElem?_map,ggd,gqg hpw];rfl)
  refine gg_ ?_
  refine zg (by rw[tnc];exact S.at hc8) ?_
  refine gg_ ?_
  rw[show (p%64).toNat=p.toNat%64 by omega]
  have hq2:0+(p/64).toNat<(wcs ws).length:=by rw[wcs,List.length_map];omega
  refine S.st (b:=bw) (λw7 S=>?_) hq2
  rw[show 0+(p/64).toNat=p.toNat/64 by omega]at S
  refine gg_ ?_
  refine hK5 (i+1) _ ⟨hlt,?_⟩ (by omega)
  rw[hadd,wcs,List.map_set]
  exact S
 ·have hie:i=l.length:=by omega
  subst hie
  rw[List.take_length]at S
  refine S.ldB (b:=b5) ?_ rfl
  refine S.stB (b:=b4) λw10 S=>?_
  refine S.ceB (b:=b4) ?_ rfl
  exact h bw _ ((S.drop b5).drop b4)
theorem Y8{n:Nat}{l:List Int}{p:Option Addr}{cap:Nat}(hn:n≤1024)(S:StX X w0 r w L)(hl:SlG 1 r xp (.slice p l.length cap) l)(hlf:l.length≤1000000)(hin:∀x∈l,0≤x∧x<n)
  (h:∀b w',StX X w0 r w' (.cell b (wcs (wdsL n l)) 205::L)→K (.agg #[.int .i64 n,.slice (some ⟨b,0,none⟩) ((n+63)/64) ((n+63)/64)]) w'):zb Tryz.prog Tryz.qV #[.int .i64 n,.slice p l.length cap] w K:=by
 refine Tryz.aea ?_
 unfold Tryz.Vj
 refine S.al λb4 w1 S=>?_
 refine ah9 hn S hl hlf hin λbw w2 S=>?_
 refine S.stB (b:=b4) λw3 S=>?_
 refine S.ceB (b:=b4) ?_ rfl
 exact h bw _ (S.drop b4)
end
theorem acL{x:zV}{cx cy:List Value}{w:World}{r:Gh}{K:Value→World→Prop}(hr:Holds r w)(hx:RwbC r cx x)(hy:RwbC r cy x)(h:∀w',Ext w w'→K (.bool true) w'):zb Tryz.prog Tryz.ZS #[.agg cx.toArray,.agg cy.toArray] w K:=by
 refine Tryz.acC ?_
 unfold Tryz.Q8
 obtain⟨p,cap,rfl,hS⟩:=hx
 obtain⟨q,caq,rfl,hQ⟩:=hy
 have hf:x.2.length≤9223372036854775807:=hS.few
 have S:=St.start hr
 refine S.box λb2 w1 S=>?_
 refine S.box λb3 w2 S=>?_
 have S:StX noX w r w2 [.cell b3 [.int .i64 x.1,.slice q x.2.length caq] 48,.cell b2 [.int .i64 x.1,.slice p x.2.length cap] 48]:=S
 refine gg_ ?_
 refine zm (c:=false) (λ_ K2 hK2=>?_) ?_
 ·refine gg_ ?_
  rw[show decide ((x.2.length:Int)≠(x.2.length:Nat))=false by simp]
  exact hK2
 refine c_f (by simp) ?_
 refine zk (ι:=Nat) (λi=>[.int .i64 (i:Nat)]) (λi w'=>i≤x.2.length∧StX noX w r w' [.cell b3 [.int .i64 x.1,.slice q x.2.length caq] 48,.cell b2 [.int .i64 x.1,.slice p x.2.length cap] 48]) (λi=>x.2.length-i) 0 rfl ⟨gzl _,S⟩ ?_
 clear S
 rintro i d w8 ⟨hi,S⟩ K5 hK5
 rw[gdz]
 refine gg_ ?_
 refine zj (λhlt=>?_) (λhge=>?_)
 ·have hlt:i<x.2.length:=by omega
  obtain⟨bw,ow,hpw,_,hcw⟩:=Yf hS.sl hlt
  obtain⟨bv,ov,hpv,_,hcv⟩:=Yf hQ.sl hlt
  subst hpw;subst hpv
  have S:=S.go (Ext.drew _)
  refine gg_ ?_
  refine zg (by rw[tnc];exact S.at hcw) ?_
  refine gg_ ?_
  refine zg (by rw[tnc];exact S.at hcv) ?_
  refine afj ?_
  refine c_f (by simp) ?_
  refine gg_ ?_
  exact hK5 (i+1) _ ⟨hlt,S⟩ (by omega)
 ·exact h _ S.ext
section
variable {u:UnD} {fn:Int} {v:Value} {w:World} {r:Gh} {K:Value→World→Prop}
theorem afX(hr:Holds r w)(hu:UnG r v u)
  (h0:lkE u fn≠0→∀w',Ext w w'→K (.tuple #[.slice none 0 0,.int .i64 (lkE u fn)]) w')
  (h1:lkE u fn=0→∀g s pl cl w',IsF u fn g→Ext w w'→New w s w'→SlG 5 s (LnG s) (.slice pl (lkS u fn g).length cl) (lkS u fn g)→K (.tuple #[.slice pl (lkS u fn g).length cl,.int .i64 0]) w'):zb Tryz.prog Tryz.Yt #[v,.int .i64 fn] w K:=by
 refine afR hr hu h0 λhe g vs s pl cl w' F ha hvl S=>?_
 obtain⟨p0,cap0,vf,rfl,_,_,_,_,hfn⟩:=id hu
 obtain⟨qf,capf,rfl,_,_⟩:=hfn.sl.shape
 obtain⟨hlt,hge⟩:=List.getElem?_eq_some_iff.1 F.at'
 obtain⟨bf,of,cf,_,hcf,hgc,hfo⟩:=hfn.sl.get (by decide) hlt
 rw[hge]at hgc
 have hin:=ag1 (fn:=fn) hgc F.may F.head F.pts
 have h1:=h1 he g
 generalize lkS u fn g=ls at *
 have S:StX noX w (r.or s) w' (qS vs ls++[.row (.slice pl ls.length cl) 82 5 ls.length (qj vs ls)]):=S.permO (List.perm_append_comm (l₂:=[_]))
 obtain⟨s1,S,hs1,a1⟩:=VT hvl (λx hx=>⟨(hin x hx).1,by have:=(hin x hx).2;omega⟩) S
 obtain⟨s2,S,hs2,_,a2⟩:=S.doneRow (l:=ls) (R:=LnG s1) (sz:=5) (VS hvl λi k1 k2=>⟨_,rfl,hs1 i k1 k2⟩) (by decide) rfl
 have T:StX noX w (r.or ((s.or s1).or s2)) w' []:=S.less (λb o h=>Or.elim h (λh=>.inl (.inl (.inl h))) λh=>Or.elim h (λh=>Or.elim h (λh=>.inl (.inl (.inr h))) λh=>.inl (.inr h)) .inr) (List.Sublist.refl _)
 refine h1 _ pl cl w' F T.ext (StX.newOf T ((ha.or' λb o ho=>(a1 b o ho).resolve_right id).or' λb o ho=>(a2 b o ho).resolve_right id)) ?_
 exact hs2.up' inferInstance λc x hx=>LnG.up hx
end
theorem jj{w:World}{r:Gh}{K:Value→World→Prop}(hr:Holds r w)(hT:TabG r)(h:∀w',Ext w w'→K (.bool true) w'):zb Tryz.prog Tryz.yF #[] w K:=by
 refine Tryz.abJ ?_
 unfold Tryz.Qv
 have S:=St.start hr
 refine aef λv2 s2 w2 e2 n2 hu=>?_
 obtain⟨S,_,_⟩:=S.tell e2 n2
 refine S.al λb1 w3 S=>?_
 obtain⟨p0,cap0,vf,rfl,_,_,_,_,hfn⟩:=id hu
 obtain⟨qf,capf,rfl,_,_⟩:=hfn.sl.shape
 refine S.stB (b:=b1) λw4 S=>?_
 have S:StX noX w (r.or s2) w4 [.cell b1 [.slice p0 0 cap0,.slice qf 1 capf,.int .i64 0] 25]:=S
 have hu:UnG (r.or s2) (.agg #[.slice p0 0 cap0,.slice qf 1 capf,.int .i64 0]) zJ:=UnG.up hu
 have hT:TabG (r.or s2):=hT.up
 generalize r.or s2=ρ at S hu hT
 refine S.ldB (b:=b1) ?_ rfl
 refine afX S.holds hu (λhe=>absurd X7 he) λhz g s5 pl cl w5 F e5 n5 hls=>?_
 obtain rfl:g=zB:=Option.some.inj (F.at'.symm.trans rfl)
 rw[kY]at hls⊢
 obtain⟨S,_,_⟩:=S.tell e5 n5
 refine gp_ ?_
 refine gp_ ?_
 refine S.ldB (b:=b1) ?_ rfl
 refine ad3 S.holds (UnG.up hu) (λhe=>absurd (abL (aei (by decide))) he) λ_ g p v6 s6 w6 F6 _ hp e6 n6 h6=>?_
 obtain rfl:g=zB:=Option.some.inj (F6.at'.symm.trans rfl)
 obtain rfl:hp2=p:=Option.some.inj hp
 rw[aj5]at h6
 obtain⟨S,_,_⟩:=S.tell e6 n6
 obtain⟨p6,c6,rfl,_,_⟩:=h6.shape
 refine gp_ ?_
 refine gp_ ?_
 refine S.ldB (b:=b1) ?_ rfl
 refine ad4 S.holds (UnG.up (UnG.up (s:=ρ.or s5) hu)) (λhe=>absurd (abL (aei (by decide))) he) λ_ g p v7 s7 w7 F7 _ hp e7 n7 h7=>?_
 obtain rfl:g=zB:=Option.some.inj (F7.at'.symm.trans rfl)
 obtain rfl:hp1=p:=Option.some.inj hp
 rw[ah8]at h7
 obtain⟨S,_,_⟩:=S.tell e7 n7
 obtain⟨p7,c7,rfl,_,_⟩:=h7.shape
 refine gp_ ?_
 refine gp_ ?_
 obtain⟨σ,hσ,S⟩:=S.any
 have l5:Le s5 σ:=by rw[hσ];infer_instance
 have l6:Le s6 σ:=by rw[hσ];infer_instance
 have l0:Le ρ σ:=by rw[hσ];infer_instance
 clear hσ
 refine S.lit (e:=3) (cs:=[.int .i64 1,.int .i64 2]) (by kernel_rfl) λb8 w8 S=>?_
 obtain⟨S,hs8,_⟩:=S.litNew b8 (sz:=1) (R:=xp) (l:=[1,2]) (yr (c:=[.int .i64 1]) rfl rfl (yH rfl rfl)) (by decide)
 refine Y8 (n:=4) (l:=[1,2]) (by decide) S hs8.cells (by decide) (by decide) λbw w9 S=>?_
 rw[ag7]at S
 obtain⟨S,hw1,_⟩:=S.litNew bw (sz:=1) (R:=WdC) (l:=[6#64]) qi (by decide)
 refine S.lit (e:=3) (cs:=[.int .i64 1,.int .i64 2]) (by kernel_rfl) λb9 w10 S=>?_
 obtain⟨S,hs9,_⟩:=S.litNew b9 (sz:=1) (R:=xp) (l:=[1,2]) (yr (c:=[.int .i64 1]) rfl rfl (yH rfl rfl)) (by decide)
 refine Y8 (n:=4) (l:=[1,2]) (by decide) S hs9.cells (by decide) (by decide) λbx w11 S=>?_
 rw[ag7]at S
 obtain⟨S,hw2,_⟩:=S.litNew bx (sz:=1) (R:=WdC) (l:=[6#64]) qi (by decide)
 obtain⟨τ,hτ,S⟩:=S.any
 have m1:Le (Go.Sh.one bw (wcs [6#64]) 205) τ:=by rw[hτ];infer_instance
 have m2:Le (Go.Sh.one bx (wcs [6#64]) 205) τ:=by rw[hτ];infer_instance
 have m0:Le σ τ:=by rw[hτ];exact⟨λb o h=>.inl (.inl (.inl (.inl h)))⟩
 clear hτ
 have r1:RwbC τ [.int .i64 4,.slice (some ⟨bw,0,none⟩) 1 1] (4,[6#64]):=⟨some ⟨bw,0,none⟩,1,rfl,SlB.cells (r:=Go.Sh.one bw (wcs [6#64]) 205) ⟨hw1,by decide⟩⟩
 have r2:RwbC τ [.int .i64 4,.slice (some ⟨bx,0,none⟩) 1 1] (4,[6#64]):=⟨some ⟨bx,0,none⟩,1,rfl,SlB.cells (r:=Go.Sh.one bx (wcs [6#64]) 205) ⟨hw2,by decide⟩⟩
 refine S.lit (e:=48) (cs:=[.int .i64 4,.slice (some ⟨bw,0,none⟩) 1 1,.int .i64 4,.slice (some ⟨bx,0,none⟩) 1 1]) (by kernel_rfl) λb10 w12 S=>?_
 obtain⟨S,hrs,_⟩:=S.litNew b10 (sz:=2) (R:=RwbC τ) (l:=[(4,[6#64]),(4,[6#64])]) (by exact(yr (c:=[.int .i64 4,.slice (some ⟨bw,0,none⟩) 1 1]) rfl r1 (yH (c:=[.int .i64 4,.slice (some ⟨bx,0,none⟩) 1 1]) rfl r2))) (by decide)
 obtain⟨κ,hκ,S⟩:=S.any
 have k0:Le τ κ:=by rw[hκ];infer_instance
 have k1:Le (Go.Sh.one b10 [.int .i64 4,.slice (some ⟨bw,0,none⟩) 1 1,.int .i64 4,.slice (some ⟨bx,0,none⟩) 1 1] 48) κ:=by rw[hκ];infer_instance
 clear hκ
 have kρ:Le ρ κ:=⟨λb o h=>k0.le b o (m0.le b o (l0.le b o h))⟩
 have k5:Le s5 κ:=⟨λb o h=>k0.le b o (m0.le b o (l5.le b o h))⟩
 have k6:Le s6 κ:=⟨λb o h=>k0.le b o (m0.le b o (l6.le b o h))⟩
 have hrs:SlG 2 κ (RwbC κ) (.slice (some ⟨b10,0,none⟩) 2 2) [(4,[6#64]),(4,[6#64])]:=hrs.up' k1 λc x h=>RwbC.up (s:=κ) h
 have hu:UnG κ (.agg #[.slice p0 0 cap0,.slice qf 1 capf,.int .i64 0]) zJ:=UnG.up hu
 have hT:TabG κ:=hT.up
 refine S.ldB (b:=b1) ?_ rfl
 refine Qu S.holds hu hrs (by decide) (λe w13 he hbad e13=>?_) λg F8 _ _ v13 s13 Y w13 e13 n13 hY hYl hYr=>?_
 ·exfalso
  have:=hbad zB acQ X7
  rw[V2]at this;cases this
 obtain rfl:g=zB:=Option.some.inj (F8.at'.symm.trans rfl)
 obtain⟨S,_,_⟩:=S.tell e13 n13
 have hY1:Y=[(4,[2#64])]:=by
  have hl:Y.length=1:=by rw[hYl,kY];rfl
  obtain⟨y,rfl⟩:=List.length_eq_one_iff.1 hl
  have:=hYr 0 (by rw[kY];decide) (by simp)
  have h0:(lkS zJ 0 zB)[0]'(by rw[kY];decide)=ln0:=by simp[kY]
  rw[h0]at this
  have h9:y=(4,[2#64]):=ajd this
  rw[h9]
 subst hY1
 obtain⟨pY,cY,rfl,_,_⟩:=hY.shape
 have hu1:UnG (κ.or s13) (.agg #[.slice p0 0 cap0,.slice qf 1 capf,.int .i64 0]) zJ:=UnG.up hu
 have hrs1:SlG 2 (κ.or s13) (RwbC (κ.or s13)) (.slice (some ⟨b10,0,none⟩) 2 2) [(4,[6#64]),(4,[6#64])]:=hrs.up' inferInstance λ_ _ h=>RwbC.up h
 have hY1:SlG 2 (κ.or s13) (RwbC (κ.or s13)) (.slice pY 1 cY) [(4,[2#64])]:=hY.up' inferInstance λ_ _ h=>RwbC.up h
 have hT1:TabG (κ.or s13):=hT.up
 have d5:Le s5 (κ.or s13):=⟨λb o h=>.inl (k5.le b o h)⟩
 have d6:Le s6 (κ.or s13):=⟨λb o h=>.inl (k6.le b o h)⟩
 generalize κ.or s13=φ at S hu1 hrs1 hY1 hT1 d5 d6
 refine gp_ ?_
 refine gp_ ?_
 refine S.ldB (b:=b1) ?_ rfl
 refine Zg S.holds hu1 hY1 (by decide) (λe w14 he hbad e14=>?_) λg F9 _ _ w14 e14=>?_
 ·exfalso
  have:=hbad zB acQ X7
  rw[aeh]at this;cases this
 obtain rfl:g=zB:=Option.some.inj (F9.at'.symm.trans rfl)
 rw[kY,ajf]
 have S:=S.go e14
 refine gp_ ?_
 refine gp_ ?_
 refine gp_ ?_
 refine gp_ ?_
 refine S.ldB (b:=b1) ?_ rfl
 refine aeK (x:=ln0) S.holds hu1 hrs1 (by decide) acQ X7 V2 kY (by decide) rfl (by decide) λpw cw w15 e15=>?_
 have S:=S.go e15
 refine gp_ ?_
 refine gp_ ?_
 refine gp_ ?_
 refine S.ldB (b:=b1) ?_ rfl
 refine Zi S.holds hu1 hrs1 hY1 (by decide) (by decide) hT1 (λe w16 he hbad e16=>?_) λg Fa _ _ _ i p ok w16 e16 hok=>?_
 ·exfalso
  have:=hbad zB acQ X7 V2
  rw[aeh]at this;cases this
 obtain rfl:g=zB:=Option.some.inj (Fa.at'.symm.trans rfl)
 have hokt:ok=true:=hok.2 λn hn=>by
  have hn1:n<1:=by rw[kY]at hn;exact hn
  obtain rfl:n=0:=by omega
  have h0:(lkS zJ 0 zB)[0]'(by rw[kY];decide)=ln0:=by simp[kY]
  rw[h0]
  exact aje
 subst hokt
 have S:=S.go e16
 refine gp_ ?_
 refine gp_ ?_
 refine gp_ ?_
 refine gp_ ?_
 refine S.ldB (b:=b1) ?_ rfl
 refine zo (cs:=#[.int .i64 1,.slice none 0 0]) (by kernel_rfl) ?_
 refine zo (cs:=#[.int .i64 1,.slice none 0 0,.int .u8 1,.bool true]) (by kernel_rfl) ?_
 refine acI S.holds hu1 (a:=⟨plD 1,1,true⟩) (c:=[.int .i64 1,.slice none 0 0,.int .u8 1,.bool true]) ⟨_,rfl,aeX⟩ λw17 e17=>?_
 rw[abL aj6,aj7]
 have S:=S.go e17
 obtain⟨bl,ol,cl',hql,_,hlc,hlo⟩:=hls.get (i:=0) (by decide) (by decide)
 cases hql
 obtain⟨vl,rfl,_⟩:=hlc
 obtain⟨ba,oa,ca,hqa,_,hac,hao⟩:=h6.get (i:=0) (by decide) (by decide)
 cases hqa
 obtain⟨va,rfl,_⟩:=hac
 obtain⟨bY,oY,cYc,hqY,_,hYc,hYo⟩:=hY1.get (i:=0) (by decide) (by decide)
 cases hqY
 have hYc0:=hYc
 obtain⟨pYw,cYw,rfl,_⟩:=hYc
 refine gp_ ?_
 refine gp_ ?_
 refine gp_ ?_
 simp only[gls]
 have S:=S.go (Ext.drew _)
 refine zh (c:=true) (λ_ K2 hK2=>by refine gg_ ?_;exact hK2) ?_
 refine zh (c:=true) (λ_ K2 hK2=>?_) ?_
 ·refine gg_ ?_
  refine zg (by simpa using S.at (Ob.up (s:=φ) (hlo 4 _ rfl))) ?_
  refine gg_ ?_
  exact hK2
 iterate 2 refine zh (c:=true) (λ_ K2 hK2=>by refine gg_ ?_;exact hK2) ?_
 refine zh (c:=true) (λ_ K2 hK2=>?_) ?_
 ·refine gg_ ?_
  refine zg (by simpa using S.at (Ob.up (s:=φ) (hao 2 _ rfl))) ?_
  refine gg_ ?_
  exact hK2
 iterate 4 refine zh (c:=true) (λ_ K2 hK2=>by refine gg_ ?_;exact hK2) ?_
 refine zG (c:=true) (λ_ K2 hK2=>?_) λw56 e56=>?_
 ·refine gg_ ?_
  refine zr (n:=2) rfl (λj v hj=>by simpa using S.at (hYo j v hj)) ?_
  have T:=St.start S.holds
  refine T.litU (e:=3) (cs:=[.int .i64 1]) (by kernel_rfl) λb18 w18 T=>?_
  obtain⟨T,hs18,_⟩:=T.litNew b18 (sz:=1) (R:=xp) (l:=[1]) (yH rfl rfl) (by decide)
  have hs18:SlG 1 (φ.or (Go.Sh.one b18 [.int .i64 1] 3)) xp (.slice (some ⟨b18,0,none⟩) 1 1) [1]:=hs18.cells
  have hYc1:=RwbC.up (s:=φ.or (Go.Sh.one b18 [.int .i64 1] 3)) hYc0
  generalize φ.or (Go.Sh.one b18 [.int .i64 1] 3)=ψ at T hs18 hYc1
  refine Y8 (n:=4) (l:=[1]) (by decide) (St.start T.holds) hs18 (by decide) (by decide) λbz w19 V=>⟨V.ext,?_⟩
  have T:=T.go V.ext
  rw[air]at V
  obtain⟨V,hw3,_⟩:=V.litNew bz (sz:=1) (R:=WdC) (l:=[2#64]) qi (by decide)
  have hw3:SlB 1 (ψ.or (Go.Sh.one bz (wcs [2#64]) 205)) WdC (.slice (some ⟨bz,0,none⟩) 1 1) [2#64]:=SlB.cells (r:=Go.Sh.one bz (wcs [2#64]) 205) ⟨hw3,by decide⟩
  refine acL (x:=(4,[2#64])) V.holds (RwbC.up hYc1) (cy:=[.int .i64 4,.slice (some ⟨bz,0,none⟩) 1 1]) ⟨_,_,rfl,hw3⟩ λw20 e20=>?_
  exact hK2 _ (T.go e20).ext
 have S:=S.go e56
 iterate 4 refine zh (c:=true) (λ_ K2 hK2=>by refine gg_ ?_;exact hK2) ?_
 refine zh (c:=true) (λ_ K2 hK2=>hK2) ?_
 iterate 2 refine zh (c:=true) (λ_ K2 hK2=>by refine gg_ ?_;exact hK2) ?_
 refine zh (c:=true) (λ_ K2 hK2=>hK2) ?_
 refine zh (c:=true) (λ_ K2 hK2=>by refine gg_ ?_;exact hK2) ?_
 refine zh (c:=true) (λ_ K2 hK2=>hK2) ?_
 refine zh (c:=true) (λ_ K2 hK2=>by refine gg_ ?_;exact hK2) ?_
 exact h _ S.ext
theorem afa{g:GrD}{R:List zV}{x:LnD}{y:zV}(hn:g.pts.length≤1024)(h:X6 g R x y):y.1=g.pts.length∧BM.May y.1 y.2:=by
 obtain⟨h1,D,h2,_,ha,_⟩:=h
 refine⟨h1,?_⟩
 rw[h1,h2]
 have:=J9 (h:=λa b=>a||b) adR (by simp) (W:=(g.pts.length:Int)) D _ (aca (by omega) (by omega)) ha
 rw[tnc]at this
 exact this
theorem JS{u:UnD}{fn:Int}{R Q:List zV}{v vR vQ:Value}{w:World}{r:Gh}{K:Value→World→Prop}(hr:Holds r w)(hu:UnG r v u)(hR:SlG 2 r (RwbC r) vR R)(hQ:SlG 2 r (RwbC r) vQ Q)(hT:TabG r)
  (h:∀w',Ext w w'→K (.bool true) w'):zb Tryz.prog Tryz.Zl #[v,.int .i64 fn,vR,vQ] w K:=by
 refine Tryz.Jo ?_
 unfold Tryz.Zv
 obtain⟨p0,cap0,vf,rfl,_,_,_,_,_⟩:=id hu
 obtain⟨pR,cR,rfl,_,_⟩:=hR.shape
 obtain⟨pQ,cQ,rfl,_,_⟩:=hQ.shape
 have S:=St.start hr
 refine S.box λb4 w1 S=>?_
 have S:StX noX w r w1 [.cell b4 [.slice p0 u.ss.length cap0,vf,.int .i64 u.mn] 25]:=S
 refine S.ldB (b:=b4) ?_ rfl
 refine aee S.holds hu λy w2 e2=>?_
 have S:=S.go e2
 refine gp_ ?_
 have awk:∀{W:World}{L:List Asr},StX noX w r W L→zb Tryz.prog Tryz.yF #[] W K:=λS=>jj S.holds hT λw3 e3=>h _ (S.go e3).ext
 refine ain (λx w'=>(x=false→R.length≤600)∧StX noX w r w' [.cell b4 [.slice p0 u.ss.length cap0,vf,.int .i64 u.mn] 25]) (λhb=>⟨λh=>(by cases h),S⟩) (λ_ K3 hK3=>?_) λx w6 ⟨hx,S⟩=>?_
 ·refine YN S.holds hR ?_ λh6 _=>?_
  ·refine gp_ ?_
   exact hK3 true _ ⟨λh=>(by cases h),S⟩
  ·refine gp_ ?_
   exact hK3 false _ ⟨λ_=>h6,S⟩
 refine ain (λx w'=>(x=false→R.length≤600∧Q.length≤600)∧StX noX w r w' [.cell b4 [.slice p0 u.ss.length cap0,vf,.int .i64 u.mn] 25]) (λhb=>⟨λh=>(by cases h),S⟩) (λhxf K3 hK3=>?_) λx2 w11 ⟨hx2,S⟩=>?_
 ·refine YN S.holds hQ ?_ λh6 _=>?_
  ·refine gp_ ?_
   exact hK3 true _ ⟨λh=>(by cases h),S⟩
  ·refine gp_ ?_
   exact hK3 false _ ⟨λ_=>⟨hx hxf,h6⟩,S⟩
 refine c_b (λ_=>awk S) (λhsm=>?_)
 obtain⟨hRf,hQf⟩:=hx2 hsm
 refine S.ldB (b:=b4) ?_ rfl
 refine Qu S.holds hu hR (by omega) (λe w14 he _ e14=>?_) λg F hz hgR v14 s14 Y w14 e14 n14 hY hYl hYr=>?_
 ·have S:=S.go e14
  refine gp_ ?_
  refine gp_ ?_
  refine gp_ ?_
  refine zj (λ_=>?_) (λh0=>absurd he h0)
  refine gg_ ?_
  refine zG (c:=true) (λ_ K2 hK2=>jj S.holds hT λw8 e8=>hK2 _ e8) λw8 e8=>?_
  have:=h _ (S.go e8).ext
  simpa using this
 obtain⟨S,_,_⟩:=S.tell e14 n14
 have hn:=F.head.pt1024
 have hlf:(lkS u fn g).length≤1000000:=Nat.le_trans qk (by omega)
 have hgY:zO Y (lkS u fn g).length g.pts.length=true:=V1 (by rw[hYl]) λy hy=>by
  obtain⟨i,hi,rfl⟩:=List.getElem_of_mem hy
  exact afa hn (hYr i (by omega) hi)
 obtain⟨pY,cY,rfl,_,_⟩:=hY.shape
 have hu1:UnG (r.or s14) (.agg #[.slice p0 u.ss.length cap0,vf,.int .i64 u.mn]) u:=UnG.up hu
 have hR1:SlG 2 (r.or s14) (RwbC (r.or s14)) (.slice pR R.length cR) R:=hR.up' inferInstance λ_ _ h=>RwbC.up h
 have hQ1:SlG 2 (r.or s14) (RwbC (r.or s14)) (.slice pQ Q.length cQ) Q:=hQ.up' inferInstance λ_ _ h=>RwbC.up h
 have hY1:SlG 2 (r.or s14) (RwbC (r.or s14)) (.slice pY Y.length cY) Y:=hY.up' inferInstance λ_ _ h=>RwbC.up h
 have hT1:TabG (r.or s14):=hT.up
 generalize r.or s14=ρ at S hu1 hR1 hQ1 hY1 hT1
 have awk:∀{W:World}{L:List Asr},StX noX w ρ W L→zb Tryz.prog Tryz.yF #[] W K:=λS=>jj S.holds hT1 λw3 e3=>h _ (S.go e3).ext
 refine gp_ ?_
 refine gp_ ?_
 refine gp_ ?_
 refine c_f rfl ?_
 refine S.ldB (b:=b4) ?_ rfl
 have hcls:∀n (hn':n<(lkS u fn g).length),Zh g (lkS u fn g)[n] (R.getD (lkS u fn g)[n].re.toNat (0,[])).2 (Y.getD n (0,[])).2:=λn hn'=>by
  have hy:n<Y.length:=by omega
  have:=aja hn F.pts (hYr n hn' hy)
  rw[ggd (l:=Y),gqg hy]
  exact this
 refine Zi S.holds hu1 hR1 hY1 (by omega) (by omega) hT1 (λe w20 he hbad e20=>?_) λg' F' _ _ _ i p ok w20 e20 hok=>?_
 ·exfalso
  have:=hbad g F hz hgR
  rw[hgY]at this;cases this
 obtain rfl:g'=g:=Option.some.inj (F'.at'.symm.trans F.at')
 have hokt:ok=true:=hok.2 hcls
 subst hokt
 have S:=S.go e20
 refine gp_ ?_
 refine gp_ ?_
 refine gp_ ?_
 refine gp_ ?_
 refine S.ldB (b:=b4) ?_ rfl
 refine Zg S.holds hu1 hY1 (by omega) (λe w21 he hbad e21=>?_) λg2 F2 _ _ w21 e21=>?_
 ·exfalso
  have:=hbad g' F hz
  rw[hgY]at this;cases this
 obtain rfl:g2=g':=Option.some.inj (F2.at'.symm.trans F.at')
 have S:=S.go e21
 refine gp_ ?_
 refine gp_ ?_
 refine gp_ ?_
 refine gp_ ?_
 refine gp_ ?_
 refine zm (c:=false) (λ_ K2 hK2=>by refine gg_ ?_;exact hK2) ?_
 refine zm (c:=false) (λ_ K2 hK2=>by refine gg_ ?_;exact hK2) ?_
 refine c_f rfl ?_
 refine S.ldB (b:=b4) ?_ rfl
 refine Zi S.holds hu1 hR1 hQ1 (by omega) (by omega) hT1 (λe w30 he hbad e30=>?_) λg3 F3 _ _ hgQ i3 p3 ok3 w30 e30 hok3=>?_
 ·have S:=S.go e30
  refine gp_ ?_
  refine gp_ ?_
  refine gp_ ?_
  refine gp_ ?_
  refine gp_ ?_
  refine zm (c:=true) (λ_ K2 hK2=>by refine gg_ ?_;exact hK2) ?_
  refine c_b (λ_=>awk S) (λhc=>?_)
  exfalso
  rw[Bool.or_true]at hc;cases hc
 obtain rfl:g3=g2:=Option.some.inj (F3.at'.symm.trans F.at')
 have S:=S.go e30
 refine gp_ ?_
 refine gp_ ?_
 refine gp_ ?_
 refine gp_ ?_
 refine gp_ ?_
 refine zm (c:=!ok3) (λ_ K2 hK2=>by refine gg_ ?_;exact hK2) ?_
 refine c_b (λ_=>awk S) (λhc=>?_)
 have hok3t:ok3=true:=by simpa using hc
 have hcQ:=hok3.1 hok3t
 have hQl:=ZJ hgQ
 have hless:∀n (hn':n<(lkS u fn g3).length),∀k,bit (Y.getD n (0,[])).2 k=true→bit (Q.getD n (0,[])).2 k=true:=λn hn' k hk=>by
  have hy:n<Y.length:=by omega
  rw[ggd (l:=Y),gqg hy]at hk
  exact ag5 hn F.pts (hYr n hn' hy) (hcQ n hn') hk
 refine zk (ι:=Nat) (λi=>[.int .i64 (i:Nat)]) (λi w'=>i≤Y.length∧StX noX w ρ w' [.cell b4 [.slice p0 u.ss.length cap0,vf,.int .i64 u.mn] 25]) (λi=>Y.length-i) 0 rfl ⟨gzl _,S⟩ ?_
 repeat clear S
 rintro i d w39 ⟨hi,S⟩ K36 hK36
 rw[gdz]
 refine gg_ ?_
 refine zj (λhlt=>?_) (λhge=>?_)
 ·have hlt:i<Y.length:=by omega
  have hlq:i<Q.length:=by have:=hQl.1;omega
  obtain⟨by',oy,cy,hqy,hcy,hyc,hyo⟩:=hY1.get (by decide) hlt
  obtain⟨bq,oq,cq,hqq,hcq,hqc,hqo⟩:=hQ1.get (by decide) hlq
  have hmy:=afa hn (hYr i (by omega) hlt)
  have hmq:=hQl.2 i hlq
  have hl:=hless i (by omega)
  rw[ggd (l:=Y),gqg hlt,ggd (l:=Q),gqg hlq]at hl
  generalize Y[i]=y at hyc hmy hl
  generalize Q[i]=z at hqc hmq hl
  have hyc0:=hyc
  have hqc0:=hqc
  obtain⟨py,cy',rfl,_⟩:=hyc
  obtain⟨pz,cz',rfl,_⟩:=hqc
  cases hqy
  cases hqq
  have S:=S.go (Ext.drew _)
  refine gg_ ?_
  refine zr (n:=2) rfl (λj v hj=>by rw[tnc];exact S.at (hqo j v hj)) ?_
  refine gg_ ?_
  refine zr (n:=2) rfl (λj v hj=>by rw[tnc];exact S.at (hyo j v hj)) ?_
  refine afN S.holds hqc0 hyc0 hT1 (λhno w40 e40=>?_) λ_ _ _ w40 e40=>?_
  ·exact absurd ⟨BM.mayB_true hmq.2,BM.mayB_true hmy.2,hmq.1.trans hmy.1.symm⟩ hno
  have S:=S.go e40
  have hlk:lackL z.1 z.2 y.2=[]:=ah5.2 λk _ hk=>hl k hk
  rw[hlk]
  refine gp_ ?_
  refine gp_ ?_
  refine gp_ ?_
  refine zm (c:=false) (λ_ K2 hK2=>by refine gg_ ?_;exact hK2) ?_
  refine c_f rfl ?_
  refine gg_ ?_
  exact hK36 (i+1) _ ⟨hlt,S⟩ (by omega)
 refine S.ldB (b:=b4) ?_ rfl
 refine Zg S.holds hu1 hQ1 (by omega) (λe w45 he hbad e45=>?_) λg4 F4 _ _ w45 e45=>?_
 ·exfalso
  have:=hbad g3 F hz
  rw[hgQ]at this;cases this
 obtain rfl:g4=g3:=Option.some.inj (F4.at'.symm.trans F.at')
 have S:=S.go e45
 have hfin:((qw u g4 (lkS u fn g4) Y).isNone || !(qw u g4 (lkS u fn g4) Q).isNone)=true:=by
  cases hq:qw u g4 (lkS u fn g4) Q with
  |some _=>simp
  |none=>rw [ah3 (λn hn' k hk=>hless n hn' k hk) hq];rfl
 refine gp_ ?_
 refine gp_ ?_
 refine gp_ ?_
 refine gp_ ?_
 refine gp_ ?_
 refine ai4 (m:=(qw u g4 (lkS u fn g4) Y).isNone) (x:=!(qw u g4 (lkS u fn g4) Q).isNone) (λK2 hK2=>hK2) (λ_ K2 hK2=>by refine gp_ ?_;exact hK2) ?_
 rw[hfin]
 refine zG (c:=true) (λ_ K2 hK2=>jj S.holds hT1 λw8 e8=>hK2 _ e8) λw8 e8=>?_
 have:=h _ (S.go e8).ext
 simpa using this
end
end Go.Proofs
