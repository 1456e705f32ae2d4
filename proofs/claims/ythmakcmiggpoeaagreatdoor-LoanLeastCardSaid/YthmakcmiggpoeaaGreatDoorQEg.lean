/-
  Contracts and plain laws that the last text leans on.
-/
import Derived.Test.YthmakcmiggpoeaaGreatDoorQEf
import Derived.Test.YthmakcmiggpoeaaGreatDoorQEe
set_option maxRecDepth 100000
set_option maxHeartbeats 8000000
set_option linter.unusedVariables false
set_option linter.unusedSimpArgs false
section
namespace Go.Proofs
open Go.Sh Go.RowKit Go.BM
section
variable {X:Nat→Prop} {w0 w:World} {r:Gh} {L:List Asr} {K:Value→World→Prop}
theorem afV{n:Nat}(hn:n≤1032)(S:StX X w0 r w L)
  (h:∀b w',StX X w0 r w' (.cell b (wcs (List.replicate ((n+63)/64) 0#64)) 205::L)→K (.agg #[.int .i64 n,.slice (some ⟨b,0,none⟩) ((n+63)/64) ((n+63)/64)]) w'):zb Tryz.prog Tryz.ZU #[.int .i64 n] w K:=by
 refine Tryz.acD ?_
 unfold Tryz.Q9
 refine S.al λb2 w1 S=>?_
 refine gg_ ?_
 refine S.mkS (by omega) (by omega) λb w2 S=>?_
 rw[show (((n:Int)+63)/64).toNat=(n+63)/64 by omega]at S⊢
 have S:=(show StX X w0 r w2 (.cell b (wcs (List.replicate ((n+63)/64) 0#64)) 205::.cell b2 [.int .i64 0,.slice none 0 0] 48::L)by
  rw[wcs,List.map_replicate];exact S)
 refine zo (cs:=#[.int .i64 n,.slice (some ⟨b,0,none⟩) ((n+63)/64) ((n+63)/64)]) (by kernel_rfl) ?_
 refine S.stB (b:=b2) λw3 S=>?_
 refine S.ceB (b:=b2) ?_ rfl
 exact h _ _ S.d2
theorem ah8{n:Nat}{l:List Int}{p:Option Addr}{cap:Nat}(hn:n≤1024)(S:StX X w0 r w L)(hl:SlG 1 r xq (.slice p l.length cap) l)(hlf:l.length≤1000000)(hin:∀x∈l,0≤x∧x<n)
  (h:∀b w',StX X w0 r w' (.cell b (wcs (wdsL n l)) 205::L)→K (.agg #[.int .i64 n,.slice (some ⟨b,0,none⟩) ((n+63)/64) ((n+63)/64)]) w'):zb Tryz.prog Tryz.XI #[.int .i64 n,.slice p l.length cap] w K:=by
 refine Tryz.aey ?_
 unfold Tryz.aaN
 refine S.al λb4 w1 S=>?_
 refine afV (by omega) S λbw w2 S=>?_
 refine S.al λb5 w3 S=>?_
 refine S.stB (b:=b5) λw4 S=>?_
 have S:StX X w0 r w4 (.cell b5 (rwL n bw) 48::.cell bw (wcs (wdsL n (l.take 0))) 205::.cell b4 [.int .i64 0,.slice none 0 0] 48::L):=S
 refine zk (ι:=Nat) (λi=>[.int .i64 (i:Nat)]) (λi w'=>i≤l.length∧StX X w0 r w' (.cell b5 (rwL n bw) 48::.cell bw (wcs (wdsL n (l.take i))) 205::.cell b4 [.int .i64 0,.slice none 0 0] 48::L)) (λi=>l.length-i) 0 rfl ⟨Nat.zero_le _,S⟩ ?_
 clear S
 rintro i d w8 ⟨hi,S⟩ K5 hK5
 rw[gdz]
 refine gg_ ?_
 refine zj (λhlt=>?_) (λhge=>?_)
 ·have hlt:i<l.length:=by omega
  obtain⟨b8,o8,rfl,_,hc8⟩:=xU hl hlt
  have hp:=hin _ (List.getElem_mem hlt)
  have hadd:=ad7 (n:=n) (D:=l.take i) (p:=l[i])
  rw[← List.take_succ_eq_append_getElem hlt]at hadd
  have hwn:(wdsL n (l.take i)).length=(n+63)/64:=js
  generalize l[i]=p at hc8 hp hadd
  generalize wdsL n (l.take i)=ws at S hadd hwn
  have hpw:p.toNat/64<ws.length:=by omega
  have S:=S.go (Ext.drew _)
  refine gg_ ?_
  refine zg (by rw[tnc];exact S.at hc8) ?_
  refine gg_ ?_
  refine zg (by rw[tnc];exact S.at hc8) ?_
  refine gg_ ?_
  refine S.ld (b:=bw) (v:=u64 (ws.getD (p.toNat/64) 0)) ?_ (by rw[show 0+(p/64).toNat=p.toNat/64 by omega,wcs,List.getElem?_map,List.getD_eq_getElem?_getD,gqg hpw];rfl)
  refine gg_ ?_
  refine zg (by rw[tnc];exact S.at hc8) ?_
  refine gg_ ?_
  rw[show (p%64).toNat=p.toNat%64 by omega]
  have hq2:0+(p/64).toNat<(wcs ws).length:=by rw[wcs,List.length_map];omega
  refine S.st (b:=bw) (λw7 S=>?_) hq2
  rw[show 0+(p/64).toNat=p.toNat/64 by omega]at S
  refine gg_ ?_
  refine hK5 (i+1) _ ⟨hlt,?_⟩ (by omega)
  rw[hadd,wcs,List.map_set]
  exact S
 ·have hie:i=l.length:=by omega
  subst hie
  rw[List.take_length]at S
  refine S.ldB (b:=b5) ?_ rfl
  refine S.stB (b:=b4) λw10 S=>?_
  refine S.ceB (b:=b4) ?_ rfl
  exact h bw _ ((S.drop b5).drop b4)
theorem Y8{n:Nat}{l:List Int}{p:Option Addr}{cap:Nat}(hn:n≤1024)(S:StX X w0 r w L)(hl:SlG 1 r xq (.slice p l.length cap) l)(hlf:l.length≤1000000)(hin:∀x∈l,0≤x∧x<n)
  (h:∀b w',StX X w0 r w' (.cell b (wcs (wdsL n l)) 205::L)→K (.agg #[.int .i64 n,.slice (some ⟨b,0,none⟩) ((n+63)/64) ((n+63)/64)]) w'):zb Tryz.prog Tryz.qW #[.int .i64 n,.slice p l.length cap] w K:=by
 refine Tryz.aea ?_
 unfold Tryz.Vj
 refine S.al λb4 w1 S=>?_
 refine ah8 hn S hl hlf hin λbw w2 S=>?_
 refine S.stB (b:=b4) λw3 S=>?_
 refine S.ceB (b:=b4) ?_ rfl
 exact h bw _ (S.drop b4)
end
theorem acL{x:zV}{cx cy:List Value}{w:World}{r:Gh}{K:Value→World→Prop}(hr:Holds r w)(hx:RwbC r cx x)(hy:RwbC r cy x)(h:∀w',Ext w w'→K (.bool true) w'):zb Tryz.prog Tryz.ZT #[.agg cx.toArray,.agg cy.toArray] w K:=by
 refine Tryz.acC ?_
 unfold Tryz.Q8
 obtain⟨p,cap,rfl,hS⟩:=hx
 obtain⟨q,caq,rfl,hQ⟩:=hy
 have hf:x.2.length≤9223372036854775807:=hS.few
 have S:=St.start hr
 refine S.box λb2 w1 S=>?_
 refine S.box λb3 w2 S=>?_
 have S:StX noX w r w2 [.cell b3 [.int .i64 x.1,.slice q x.2.length caq] 48,.cell b2 [.int .i64 x.1,.slice p x.2.length cap] 48]:=S
 refine gg_ ?_
 refine zm (c:=false) (λ_ K2 hK2=>?_) ?_
 ·refine gg_ ?_
  rw[show decide ((x.2.length:Int)≠(x.2.length:Nat))=false by simp]
  exact hK2
 refine c_f (by simp) ?_
 refine zk (ι:=Nat) (λi=>[.int .i64 (i:Nat)]) (λi w'=>i≤x.2.length∧StX noX w r w' [.cell b3 [.int .i64 x.1,.slice q x.2.length caq] 48,.cell b2 [.int .i64 x.1,.slice p x.2.length cap] 48]) (λi=>x.2.length-i) 0 rfl ⟨Nat.zero_le _,S⟩ ?_
 clear S
 rintro i d w8 ⟨hi,S⟩ K5 hK5
 rw[gdz]
 refine gg_ ?_
 refine zj (λhlt=>?_) (λhge=>?_)
 ·have hlt:i<x.2.length:=by omega
  obtain⟨bw,ow,hpw,_,hcw⟩:=Yg hS.sl hlt
  obtain⟨bv,ov,hpv,_,hcv⟩:=Yg hQ.sl hlt
  subst hpw;subst hpv
  have S:=S.go (Ext.drew _)
  refine gg_ ?_
  refine zg (by rw[tnc];exact S.at hcw) ?_
  refine gg_ ?_
  refine zg (by rw[tnc];exact S.at hcv) ?_
  refine afj ?_
  refine c_f (by simp) ?_
  refine gg_ ?_
  exact hK5 (i+1) _ ⟨hlt,S⟩ (by omega)
 ·exact h _ S.ext
section
variable {u:UnD} {fn:Int} {v:Value} {w:World} {r:Gh} {K:Value→World→Prop}
theorem afW(hr:Holds r w)(hu:UnG r v u)
  (h0:lkE u fn≠0→∀w',Ext w w'→K (.tuple #[.slice none 0 0,.int .i64 (lkE u fn)]) w')
  (h1:lkE u fn=0→∀g s pl cl w',IsF u fn g→Ext w w'→New w s w'→SlG 5 s (LnG s) (.slice pl (lkS u fn g).length cl) (lkS u fn g)→K (.tuple #[.slice pl (lkS u fn g).length cl,.int .i64 0]) w'):zb Tryz.prog Tryz.Yu #[v,.int .i64 fn] w K:=by
 refine afR hr hu h0 λhe g vs s pl cl w' F ha hvl S=>?_
 obtain⟨p0,cap0,vf,rfl,_,_,_,_,hfn⟩:=id hu
 obtain⟨qf,capf,rfl,_,_⟩:=hfn.sl.shape
 obtain⟨hlt,hge⟩:=List.getElem?_eq_some_iff.1 F.at'
 obtain⟨bf,of,cf,_,hcf,hgc,hfo⟩:=hfn.sl.get (by decide) hlt
 rw[hge]at hgc
 have hin:=ag0 (fn:=fn) hgc F.may F.head F.pts
 have h1:=h1 he g
 generalize lkS u fn g=ls at *
 have S:StX noX w (r.or s) w' (qT vs ls++[.row (.slice pl ls.length cl) 82 5 ls.length (qk vs ls)]):=S.permO (List.perm_append_comm (l₂:=[_]))
 obtain⟨s1,S,hs1,a1⟩:=VT hvl (λx hx=>⟨(hin x hx).1,by have:=(hin x hx).2;omega⟩) S
 obtain⟨s2,S,hs2,_,a2⟩:=S.doneRow (l:=ls) (R:=LnG s1) (sz:=5) (VS hvl λi k1 k2=>⟨_,rfl,hs1 i k1 k2⟩) (by decide) rfl
 have T:StX noX w (r.or ((s.or s1).or s2)) w' []:=S.less (λb o h=>Or.elim h (λh=>.inl (.inl (.inl h))) λh=>Or.elim h (λh=>Or.elim h (λh=>.inl (.inl (.inr h))) λh=>.inl (.inr h)) .inr) (List.Sublist.refl _)
 refine h1 _ pl cl w' F T.ext (StX.newOf T ((ha.or' λb o ho=>(a1 b o ho).resolve_right id).or' λb o ho=>(a2 b o ho).resolve_right id)) ?_
 exact hs2.up' inferInstance λc x hx=>LnG.up hx
end
theorem jk{w:World}{r:Gh}{K:Value→World→Prop}(hr:Holds r w)(hT:TabG r)(h:∀w',Ext w w'→K (.bool true) w'):zb Tryz.prog Tryz.yG #[] w K:=by
 refine Tryz.abJ ?_
 unfold Tryz.Qv
 have S:=St.start hr
 refine aef λv2 s2 w2 e2 n2 hu=>?_
 obtain⟨S,_,_⟩:=S.tell e2 n2
 refine S.al λb1 w3 S=>?_
 obtain⟨p0,cap0,vf,rfl,_,_,_,_,hfn⟩:=id hu
 obtain⟨qf,capf,rfl,_,_⟩:=hfn.sl.shape
 refine S.stB (b:=b1) λw4 S=>?_
 have S:StX noX w (r.or s2) w4 [.cell b1 [.slice p0 0 cap0,.slice qf 1 capf,.int .i64 0] 25]:=S
 have hu:UnG (r.or s2) (.agg #[.slice p0 0 cap0,.slice qf 1 capf,.int .i64 0]) zJ:=UnG.up hu
 have hT:TabG (r.or s2):=hT.up
 generalize r.or s2=ρ at S hu hT
 refine S.ldB (b:=b1) ?_ rfl
 refine afW S.holds hu (λhe=>absurd X7 he) λhz g s5 pl cl w5 F e5 n5 hls=>?_
 obtain rfl:g=zB:=Option.some.inj (F.at'.symm.trans rfl)
 rw[kZ]at hls⊢
 obtain⟨S,_,_⟩:=S.tell e5 n5
 refine gp_ ?_
 refine gp_ ?_
 refine S.ldB (b:=b1) ?_ rfl
 refine ad3 S.holds (UnG.up hu) (λhe=>absurd (abL (aei (by decide))) he) λ_ g p v6 s6 w6 F6 _ hp e6 n6 h6=>?_
 obtain rfl:g=zB:=Option.some.inj (F6.at'.symm.trans rfl)
 obtain rfl:hp2=p:=Option.some.inj hp
 rw[aj4]at h6
 obtain⟨S,_,_⟩:=S.tell e6 n6
 obtain⟨p6,c6,rfl,_,_⟩:=h6.shape
 refine gp_ ?_
 refine gp_ ?_
 refine S.ldB (b:=b1) ?_ rfl
 refine ad4 S.holds (UnG.up (UnG.up (s:=ρ.or s5) hu)) (λhe=>absurd (abL (aei (by decide))) he) λ_ g p v7 s7 w7 F7 _ hp e7 n7 h7=>?_
 obtain rfl:g=zB:=Option.some.inj (F7.at'.symm.trans rfl)
 obtain rfl:hp1=p:=Option.some.inj hp
 rw[ah7]at h7
 obtain⟨S,_,_⟩:=S.tell e7 n7
 obtain⟨p7,c7,rfl,_,_⟩:=h7.shape
 refine gp_ ?_
 refine gp_ ?_
 obtain⟨σ,hσ,S⟩:=S.any
 have l5:Le s5 σ:=by rw[hσ];infer_instance
 have l6:Le s6 σ:=by rw[hσ];infer_instance
 have l0:Le ρ σ:=by rw[hσ];infer_instance
 clear hσ
 refine S.lit (e:=3) (cs:=[.int .i64 1,.int .i64 2]) (by kernel_rfl) λb8 w8 S=>?_
 obtain⟨S,hs8,_⟩:=S.litNew b8 (sz:=1) (R:=xq) (l:=[1,2]) (yu (c:=[.int .i64 1]) rfl rfl (yI rfl rfl)) (by decide)
 refine Y8 (n:=4) (l:=[1,2]) (by decide) S hs8.cells (by decide) (by decide) λbw w9 S=>?_
 rw[ag6]at S
 obtain⟨S,hw1,_⟩:=S.litNew bw (sz:=1) (R:=WdC) (l:=[6#64]) qj (by decide)
 refine S.lit (e:=3) (cs:=[.int .i64 1,.int .i64 2]) (by kernel_rfl) λb9 w10 S=>?_
 obtain⟨S,hs9,_⟩:=S.litNew b9 (sz:=1) (R:=xq) (l:=[1,2]) (yu (c:=[.int .i64 1]) rfl rfl (yI rfl rfl)) (by decide)
 refine Y8 (n:=4) (l:=[1,2]) (by decide) S hs9.cells (by decide) (by decide) λbx w11 S=>?_
 rw[ag6]at S
 obtain⟨S,hw2,_⟩:=S.litNew bx (sz:=1) (R:=WdC) (l:=[6#64]) qj (by decide)
 obtain⟨τ,hτ,S⟩:=S.any
 have m1:Le (Go.Sh.one bw (wcs [6#64]) 205) τ:=by rw[hτ];infer_instance
 have m2:Le (Go.Sh.one bx (wcs [6#64]) 205) τ:=by rw[hτ];infer_instance
 have m0:Le σ τ:=by rw[hτ];exact⟨λb o h=>.inl (.inl (.inl (.inl h)))⟩
 clear hτ
 have r1:RwbC τ [.int .i64 4,.slice (some ⟨bw,0,none⟩) 1 1] (4,[6#64]):=⟨some ⟨bw,0,none⟩,1,rfl,SlB.cells (r:=Go.Sh.one bw (wcs [6#64]) 205) ⟨hw1,by decide⟩⟩
 have r2:RwbC τ [.int .i64 4,.slice (some ⟨bx,0,none⟩) 1 1] (4,[6#64]):=⟨some ⟨bx,0,none⟩,1,rfl,SlB.cells (r:=Go.Sh.one bx (wcs [6#64]) 205) ⟨hw2,by decide⟩⟩
 refine S.lit (e:=48) (cs:=[.int .i64 4,.slice (some ⟨bw,0,none⟩) 1 1,.int .i64 4,.slice (some ⟨bx,0,none⟩) 1 1]) (by kernel_rfl) λb10 w12 S=>?_
 obtain⟨S,hrs,_⟩:=S.litNew b10 (sz:=2) (R:=RwbC τ) (l:=[(4,[6#64]),(4,[6#64])]) (by exact(yu (c:=[.int .i64 4,.slice (some ⟨bw,0,none⟩) 1 1]) rfl r1 (yI (c:=[.int .i64 4,.slice (some ⟨bx,0,none⟩) 1 1]) rfl r2))) (by decide)
 obtain⟨κ,hκ,S⟩:=S.any
 have k0:Le τ κ:=by rw[hκ];infer_instance
 have k1:Le (Go.Sh.one b10 [.int .i64 4,.slice (some ⟨bw,0,none⟩) 1 1,.int .i64 4,.slice (some ⟨bx,0,none⟩) 1 1] 48) κ:=by rw[hκ];infer_instance
 clear hκ
 have kρ:Le ρ κ:=⟨λb o h=>k0.le b o (m0.le b o (l0.le b o h))⟩
 have k5:Le s5 κ:=⟨λb o h=>k0.le b o (m0.le b o (l5.le b o h))⟩
 have k6:Le s6 κ:=⟨λb o h=>k0.le b o (m0.le b o (l6.le b o h))⟩
 have hrs:SlG 2 κ (RwbC κ) (.slice (some ⟨b10,0,none⟩) 2 2) [(4,[6#64]),(4,[6#64])]:=hrs.up' k1 λc x h=>RwbC.up (s:=κ) h
 have hu:UnG κ (.agg #[.slice p0 0 cap0,.slice qf 1 capf,.int .i64 0]) zJ:=UnG.up hu
 have hT:TabG κ:=hT.up
 refine S.ldB (b:=b1) ?_ rfl
 refine Qu S.holds hu hrs (by decide) (λe w13 he hbad e13=>?_) λg F8 _ _ v13 s13 Y w13 e13 n13 hY hYl hYr=>?_
 ·exfalso
  have:=hbad zB acQ X7
  rw[V2]at this;cases this
 obtain rfl:g=zB:=Option.some.inj (F8.at'.symm.trans rfl)
 obtain⟨S,_,_⟩:=S.tell e13 n13
 have hY1:Y=[(4,[2#64])]:=by
  have hl:Y.length=1:=by rw[hYl,kZ];rfl
  obtain⟨y,rfl⟩:=List.length_eq_one_iff.1 hl
  have:=hYr 0 (by rw[kZ];decide) (by simp)
  have h0:(lkS zJ 0 zB)[0]'(by rw[kZ];decide)=ln0:=by simp[kZ]
  rw[h0]at this
  have h9:y=(4,[2#64]):=ajc this
  rw[h9]
 subst hY1
 obtain⟨pY,cY,rfl,_,_⟩:=hY.shape
 have hu1:UnG (κ.or s13) (.agg #[.slice p0 0 cap0,.slice qf 1 capf,.int .i64 0]) zJ:=UnG.up hu
 have hrs1:SlG 2 (κ.or s13) (RwbC (κ.or s13)) (.slice (some ⟨b10,0,none⟩) 2 2) [(4,[6#64]),(4,[6#64])]:=hrs.up' inferInstance λ_ _ h=>RwbC.up h
 have hY1:SlG 2 (κ.or s13) (RwbC (κ.or s13)) (.slice pY 1 cY) [(4,[2#64])]:=hY.up' inferInstance λ_ _ h=>RwbC.up h
 have hT1:TabG (κ.or s13):=hT.up
 have d5:Le s5 (κ.or s13):=⟨λb o h=>.inl (k5.le b o h)⟩
 have d6:Le s6 (κ.or s13):=⟨λb o h=>.inl (k6.le b o h)⟩
 generalize κ.or s13=φ at S hu1 hrs1 hY1 hT1 d5 d6
 refine gp_ ?_
 refine gp_ ?_
 refine S.ldB (b:=b1) ?_ rfl
 refine Zh S.holds hu1 hY1 (by decide) (λe w14 he hbad e14=>?_) λg F9 _ _ w14 e14=>?_
 ·exfalso
  have:=hbad zB acQ X7
  rw[aeh]at this;cases this
 obtain rfl:g=zB:=Option.some.inj (F9.at'.symm.trans rfl)
 rw[kZ,aje]
 have S:=S.go e14
 refine gp_ ?_
 refine gp_ ?_
 refine gp_ ?_
 refine gp_ ?_
 refine S.ldB (b:=b1) ?_ rfl
 refine aeK (x:=ln0) S.holds hu1 hrs1 (by decide) acQ X7 V2 kZ (by decide) rfl (by decide) λpw cw w15 e15=>?_
 have S:=S.go e15
 refine gp_ ?_
 refine gp_ ?_
 refine gp_ ?_
 refine S.ldB (b:=b1) ?_ rfl
 refine Zj S.holds hu1 hrs1 hY1 (by decide) (by decide) hT1 (λe w16 he hbad e16=>?_) λg Fa _ _ _ i p ok w16 e16 hok=>?_
 ·exfalso
  have:=hbad zB acQ X7 V2
  rw[aeh]at this;cases this
 obtain rfl:g=zB:=Option.some.inj (Fa.at'.symm.trans rfl)
 have hokt:ok=true:=hok.2 λn hn=>by
  have hn1:n<1:=by rw[kZ]at hn;exact hn
  obtain rfl:n=0:=by omega
  have h0:(lkS zJ 0 zB)[0]'(by rw[kZ];decide)=ln0:=by simp[kZ]
  rw[h0]
  exact ajd
 subst hokt
 have S:=S.go e16
 refine gp_ ?_
 refine gp_ ?_
 refine gp_ ?_
 refine gp_ ?_
 refine S.ldB (b:=b1) ?_ rfl
 refine zo (cs:=#[.int .i64 1,.slice none 0 0]) (by kernel_rfl) ?_
 refine zo (cs:=#[.int .i64 1,.slice none 0 0,.int .u8 1,.bool true]) (by kernel_rfl) ?_
 refine acI S.holds hu1 (a:=⟨plD 1,1,true⟩) (c:=[.int .i64 1,.slice none 0 0,.int .u8 1,.bool true]) ⟨_,rfl,aeX⟩ λw17 e17=>?_
 rw[abL aj5,aj6]
 have S:=S.go e17
 obtain⟨bl,ol,cl',hql,_,hlc,hlo⟩:=hls.get (i:=0) (by decide) (by decide)
 cases hql
 obtain⟨vl,rfl,_⟩:=hlc
 obtain⟨ba,oa,ca,hqa,_,hac,hao⟩:=h6.get (i:=0) (by decide) (by decide)
 cases hqa
 obtain⟨va,rfl,_⟩:=hac
 obtain⟨bY,oY,cYc,hqY,_,hYc,hYo⟩:=hY1.get (i:=0) (by decide) (by decide)
 cases hqY
 have hYc0:=hYc
 obtain⟨pYw,cYw,rfl,_⟩:=hYc
 refine gp_ ?_
 refine gp_ ?_
 refine gp_ ?_
 simp only[List.length_singleton]
 have S:=S.go (Ext.drew _)
 refine zh (c:=true) (λ_ K2 hK2=>by refine gg_ ?_;exact hK2) ?_
 refine zh (c:=true) (λ_ K2 hK2=>?_) ?_
 ·refine gg_ ?_
  refine zg (by simpa using S.at (Ob.up (s:=φ) (hlo 4 _ rfl))) ?_
  refine gg_ ?_
  exact hK2
 iterate 2 refine zh (c:=true) (λ_ K2 hK2=>by refine gg_ ?_;exact hK2) ?_
 refine zh (c:=true) (λ_ K2 hK2=>?_) ?_
 ·refine gg_ ?_
  refine zg (by simpa using S.at (Ob.up (s:=φ) (hao 2 _ rfl))) ?_
  refine gg_ ?_
  exact hK2
 iterate 4 refine zh (c:=true) (λ_ K2 hK2=>by refine gg_ ?_;exact hK2) ?_
 refine zG (c:=true) (λ_ K2 hK2=>?_) λw56 e56=>?_
 ·refine gg_ ?_
  refine zr (n:=2) rfl (λj v hj=>by simpa using S.at (hYo j v hj)) ?_
  have T:=St.start S.holds
  refine T.litU (e:=3) (cs:=[.int .i64 1]) (by kernel_rfl) λb18 w18 T=>?_
  obtain⟨T,hs18,_⟩:=T.litNew b18 (sz:=1) (R:=xq) (l:=[1]) (yI rfl rfl) (by decide)
  have hs18:SlG 1 (φ.or (Go.Sh.one b18 [.int .i64 1] 3)) xq (.slice (some ⟨b18,0,none⟩) 1 1) [1]:=hs18.cells
  have hYc1:=RwbC.up (s:=φ.or (Go.Sh.one b18 [.int .i64 1] 3)) hYc0
  generalize φ.or (Go.Sh.one b18 [.int .i64 1] 3)=ψ at T hs18 hYc1
  refine Y8 (n:=4) (l:=[1]) (by decide) (St.start T.holds) hs18 (by decide) (by decide) λbz w19 V=>⟨V.ext,?_⟩
  have T:=T.go V.ext
  rw[aiq]at V
  obtain⟨V,hw3,_⟩:=V.litNew bz (sz:=1) (R:=WdC) (l:=[2#64]) qj (by decide)
  have hw3:SlB 1 (ψ.or (Go.Sh.one bz (wcs [2#64]) 205)) WdC (.slice (some ⟨bz,0,none⟩) 1 1) [2#64]:=SlB.cells (r:=Go.Sh.one bz (wcs [2#64]) 205) ⟨hw3,by decide⟩
  refine acL (x:=(4,[2#64])) V.holds (RwbC.up hYc1) (cy:=[.int .i64 4,.slice (some ⟨bz,0,none⟩) 1 1]) ⟨_,_,rfl,hw3⟩ λw20 e20=>?_
  exact hK2 _ (T.go e20).ext
 have S:=S.go e56
 iterate 4 refine zh (c:=true) (λ_ K2 hK2=>by refine gg_ ?_;exact hK2) ?_
 refine zh (c:=true) (λ_ K2 hK2=>hK2) ?_
 iterate 2 refine zh (c:=true) (λ_ K2 hK2=>by refine gg_ ?_;exact hK2) ?_
 refine zh (c:=true) (λ_ K2 hK2=>hK2) ?_
 refine zh (c:=true) (λ_ K2 hK2=>by refine gg_ ?_;exact hK2) ?_
 refine zh (c:=true) (λ_ K2 hK2=>hK2) ?_
 refine zh (c:=true) (λ_ K2 hK2=>by refine gg_ ?_;exact hK2) ?_
 exact h _ S.ext
end Go.Proofs
end
section
namespace Go.Sh
end Go.Sh
namespace Go.Proofs
open Go.Sh Go.RowKit Go.BM
set_option maxRecDepth 100000
end Go.Proofs
end
