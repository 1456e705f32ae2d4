/-
  Contracts of live: ends, Ends, Uses.
  Contract of live: Uses.
  Families of one's own: as many cells, or rows, as a list tells.
  Contract of live: rows: one more is marked.
  Contract of live: rows.
  Contracts of live: At.
  Contracts: bits.New; live: Of.
  A condition of the kind 'is and (first, or shorter, or as long and ahead)'.
  Contracts: slices.Compare of numbers; live: Why.
  Contract of live: Why.
  Contract of live: Closed.
  Contract of live: Closed.
  Shallow readings of functions. Made by a program (wip/gen/gen.py) out of the translation; the kernel checks each equality.
  A condition of the kind 'b, or c and d'.
  Contracts of loanwordref14: deref, Used, Ends, less.
  Contracts of loanwordref01: May, List.
  Contract of loanwordref14: Rows.
  Contract of loanwordref14: Why.
  Contracts: the example of law 14.
-/
import Derived.Test.YtekpddhibldojaaGreatQKf
import Derived.Test.YtekpddhibldojaaGreatQKe
import Derived.Test.YtekpddhibldojaaGreatQKd
import Derived.Test.YtekpddhibldojaaGreatQKc
import Derived.Test.YtekpddhibldojaaGreatQKb
section
namespace Go.Proofs
open Go.Sh Go.RowKit
set_option maxRecDepth 100000
set_option linter.unusedSimpArgs false
set_option linter.unusedVariables false
set_option maxHeartbeats 1000000 in
theorem Zk {g : GrD} {p : PtD} {q : Int} {v : Value} {w : World} {r : Gh} {K : Value→World→Prop} (hr : Holds r w) (hx : LookG r v g) (hq : 0≤q) (hp : g.pts[q.toNat]? = some p) (hb : p.args.length≤1000)
  (h : ∀ w',Ext w w'→K (.tuple #[.int .i64 ((yh p).getD 0),.bool (yh p).isSome]) w') : zd Tryz.prog Tryz.xA #[v,.int .i64 q] w K:=by
 refine Tryz.VF ?_
 unfold Tryz.YQ
 have hx0:=hx
 obtain ⟨bl,x1,x2,x3,x4,y1,y2,y3,y4,vn,rfl,hg,hn,hc⟩:=hx
 obtain ⟨_,_,_,_,hEE,m1,m2,m3,m4⟩:=id hg
 cases hEE
 obtain ⟨hlt,hpe⟩:=List.getElem?_eq_some_iff.1 hp
 obtain ⟨bp,op,cp,hqp,hcp,hpc,hpo⟩:=m4.sl.get (by decide) hlt
 rw [hpe] at hpc
 obtain ⟨z1,z2,z3,z4,z5,t1,t2,t3,t4,t5,rfl,hp0⟩:=xf hpc
 have S:=St.start hr
 refine gg_ ?_
 refine zg (S.at (hc 6 _ rfl)) ?_
 rw [hqp]
 refine gg_ ?_
 refine zq (n:=21) hcp (fun j v hj=>S.at (hpo j v hj)) ?_
 refine S.al fun b6 w1 S=>?_
 refine S.stB (b:=b6) fun w2 S=>?_
 have S : StX noX w r w2 [.cell b6 (ptL p z1 z2 z3 z4 z5 t1 t2 t3 t4 t5) 64]:=S
 have hno : ZN p=none→yh p=none:=fun e=>by rw [yh,e]
 refine zp (fun s w'=>∃ x,s = [.int .i64 x]∧ZN p=some x∧StX noX w r w' [.cell b6 (ptL p z1 z2 z3 z4 z5 t1 t2 t3 t4 t5) 64]) (fun K3 hK3=>?_) ?_
 ·refine gg_ ?_
  refine zk (fun h11=>?_) (fun h11=>?_)
  ·refine gg_ ?_
   exact hK3 _ _ ⟨p.fr.l,rfl,by rw [ZN,if_pos h11],S⟩
  ·refine S.ldN (b:=b6) (vs:=ptL p z1 z2 z3 z4 z5 t1 t2 t3 t4 t5) ?_
   refine X9 S.holds hp0 fun w3 e3=>?_
   have S:=S.go e3
   refine zf (c:=decide ((p.to.ps.length : Int)=0)) (fun _ K2 hK2=>by refine gg_ ?_;exact hK2) ?_
   refine c_b (fun hc=>?_) (fun hc=>?_)
   ·rw [Bool.and_eq_true,decide_eq_true_eq] at hc
    refine gg_ ?_
    exact hK3 _ _ ⟨p.to.l,rfl,by rw [ZN,if_neg h11,if_pos ⟨hc.1,List.eq_nil_of_length_eq_zero (by omega)⟩],S⟩
   ·have he : ZN p=none:=by
     rw [ZN,if_neg h11,if_neg]
     rintro ⟨h1,h2⟩
     rw [h1,h2] at hc
     simp at hc
    have:=h _ S.ext
    rwa [hno he] at this
 clear S
 rintro _ w4 ⟨x,rfl,he,S⟩ d
 rw [List.getD_cons_zero]
 refine XG S.holds hx0 hq hp hb fun w5 e5=>?_
 have S:=S.go e5
 refine zk (fun hu=>?_) (fun hu=>?_)
 ·have:=h _ S.ext
  rwa [show yh p=none by rw [yh,he];exact if_pos hu] at this
 ·have:=h _ S.ext
  rwa [show yh p=some x by rw [yh,he];exact if_neg hu] at this
structure LkF (g : GrD) : Prop where
 net : ajh (zh g)
 loc : GrF g
 args : ∀ p ∈ g.pts,p.args.length≤1000
 pt : ∃ u,∀ p ∈ g.pts,zR u g p=true
theorem kH {u : UnD} {n : Int} {g : GrD} (h : fnE u n=0) (hg : u.fs[n.toNat]? = some g) : LkF g:=by
 obtain ⟨hlt,he,hF⟩:=j8 h
 obtain ⟨hM,_,_⟩:=Jv h
 rw [List.getElem?_eq_getElem hlt] at hg
 cases hg
 have hd:=hM.hd hlt
 have hmem:=List.getElem_mem hlt
 rw [he] at hF
 exact ⟨hF,⟨fun p hp=>ajc hM (by have:=hd.pn1;have:=hd.pn0;omega) (hM.pts _ hmem p hp),hd.ty512⟩,fun p hp=>ai2 hM (hM.pts _ hmem p hp),u,fun p hp=>hM.pts _ hmem p hp⟩
theorem Qw {g : GrD} {q : Int} (h : isN (zh g) q) : ∃ p,g.pts[q.toNat]? = some p∧p ∈ g.pts∧YH g q=zF p∧ZO g q=yh p:=by
 have q0:=h.1;have q1:=h.2
 rw [z6] at q1
 have hlt : q.toNat<g.pts.length:=by omega
 have e : g.pts[q.toNat]? = some g.pts[q.toNat]:=List.getElem?_eq_getElem hlt
 exact ⟨_,e,List.getElem_mem hlt,by rw [YH,e],by rw [ZO,e]⟩
set_option maxHeartbeats 1000000 in
theorem XH {u : UnD} {n q : Int} {v : Value} {w : World} {r : Gh} {K : Value→World→Prop} (hr : Holds r w) (hu : UnG r v u)
  (h : ∀ w',Ext w w'→K (.tuple #[.int .i64 (if okQ u n q=true then ((u.fs[n.toNat]?.bind fun g=>ZO g q).getD 0) else 0),.bool (okQ u n q&&(u.fs[n.toNat]?.bind fun g=>ZO g q).isSome),.int .i64 (if okQ u n q=true then 0 else 2)]) w') : zd Tryz.prog Tryz.Zj #[v,.int .i64 n,.int .i64 q] w K:=by
 refine Tryz.afo ?_
 unfold Tryz.V4
 have hu0:=hu
 obtain ⟨p0,cap0,vf,rfl,_,_,hst,hsl,hfn⟩:=hu
 obtain ⟨qf,capf,rfl,_,_⟩:=hfn.sl.shape
 have S:=St.start hr
 refine S.box fun b3 w1 S=>?_
 have S : StX noX w r w1 [.cell b3 [.slice p0 u.ss.length cap0,.slice qf u.fs.length capf,.int .i64 u.mn] 25]:=S
 refine S.ldB (b:=b3) ?_ rfl
 refine jR S.holds hu0 fun vx s w2 e2 n2 hg hz=>?_
 obtain ⟨S,_,_⟩:=S.tell e2 n2
 refine gS_ ?_
 refine zj (c:=!okQ u n q) (fun hb K2 hK2=>?_) ?_
 ·have hE : fnE u n=0:=by simpa using hb
  obtain ⟨g,hgi,hnu,hx⟩:=hg hE
  refine vd S.holds hx ?_
  refine gp_ ?_
  have e : okQ u n q=decide (isN (zh g) q):=by rw [okQ,hE,hnu];simp
  rw [e] at hK2
  exact hK2
 refine c_b (fun hb=>?_) (fun hb=>?_)
 ·have hok : okQ u n q=false:=by
   by_cases hE : fnE u n=0
   ·simpa [hE] using hb
   ·rw [okQ,decide_eq_true hE];rfl
  rw [hok] at h
  exact h _ S.ext
 ·simp only [Bool.or_eq_false_iff,decide_eq_false_iff_not,Decidable.not_not,Bool.not_eq_false'] at hb
  obtain ⟨hE,hok⟩:=hb
  obtain ⟨g,hgi,hnu,hx⟩:=hg hE
  have hqN:=(JZ hok).2
  rw [hnu] at hqN
  obtain ⟨p,hp,hpm,hue,hee⟩:=Qw hqN
  have hF:=kH hE hgi
  rw [hok,hgi,Option.bind_some,hee] at h
  rw [hE]
  refine Zk S.holds hx hqN.1 hp (hF.args p hpm) fun w3 e3=>?_
  refine gS_ ?_
  exact h _ (S.go e3).ext
end Go.Proofs
end
section
namespace Go.Proofs
open Go.Sh Go.RowKit
set_option maxRecDepth 100000
set_option linter.unusedSimpArgs false
set_option linter.unusedVariables false
noncomputable def usL (g : GrD) (q : Int) : List Int:=Lib.compact (sortI (YH g q))
theorem agB {g : GrD} {q x : Int} : x ∈ usL g q↔x ∈ YH g q:=JM.2 x
theorem abT {g : GrD} {q : Int} : (usL g q).Pairwise (· < ·):=JM.1
theorem ajq {l : List OpD} : (kk l).length≤l.length:=by
 rw [kk,List.length_map];exact List.length_filter_le ..
theorem ajr {p : PtD} (h : p.args.length≤1000) : (zF p).length≤1004:=by
 have:=ajq (l:=p.a::p.b::p.args)
 rw [zF,List.length_append,List.length_append]
 simp only [List.length_cons] at this
 have h1 : (if p.op=4 then [p.fr.l] else []).length≤1:=by split<;>simp
 have h2 : (if p.op=14∨(xr p=true∧-1 ∈ p.to.ps) then [p.to.l] else []).length≤1:=by split<;>simp
 omega
set_option maxHeartbeats 1000000 in
theorem XI {u : UnD} {n q : Int} {v : Value} {w : World} {r : Gh} {K : Value→World→Prop} (hr : Holds r w) (hu : UnG r v u)
  (h : ∀ v' s w',Ext w w'→New w s w'→SlG 1 s zU v' (if okQ u n q=true then (match u.fs[n.toNat]? with|some g=>usL g q|none=>[]) else [])→K (.tuple #[v',.int .i64 (if okQ u n q=true then 0 else 2)]) w') : zd Tryz.prog Tryz.Zi #[v,.int .i64 n,.int .i64 q] w K:=by
 refine Tryz.afn ?_
 unfold Tryz.V3
 have hu0:=hu
 obtain ⟨p0,cap0,vf,rfl,_,_,hst,hsl,hfn⟩:=hu
 obtain ⟨qf,capf,rfl,_,_⟩:=hfn.sl.shape
 have S:=St.start hr
 refine S.box fun b3 w1 S=>?_
 have S : StX noX w r w1 [.cell b3 [.slice p0 u.ss.length cap0,.slice qf u.fs.length capf,.int .i64 u.mn] 25]:=S
 refine S.ldB (b:=b3) ?_ rfl
 refine jR S.holds hu0 fun vx s w2 e2 n2 hg hz=>?_
 obtain ⟨S,_,_⟩:=S.tell e2 n2
 refine gS_ ?_
 refine zj (c:=!okQ u n q) (fun hb K2 hK2=>?_) ?_
 ·have hE : fnE u n=0:=by simpa using hb
  obtain ⟨g,hgi,hnu,hx⟩:=hg hE
  refine vd S.holds hx ?_
  refine gp_ ?_
  have e : okQ u n q=decide (isN (zh g) q):=by rw [okQ,hE,hnu];simp
  rw [e] at hK2
  exact hK2
 refine c_b (fun hb=>?_) (fun hb=>?_)
 ·have hok : okQ u n q=false:=by
   by_cases hE : fnE u n=0
   ·simpa [hE] using hb
   ·rw [okQ,decide_eq_true hE];rfl
  rw [hok] at h
  exact h _ nothing _ S.ext New.nothing SlG.nil
 simp only [Bool.or_eq_false_iff,decide_eq_false_iff_not,Decidable.not_not,Bool.not_eq_false'] at hb
 obtain ⟨hE,hok⟩:=hb
 obtain ⟨g,hgi,hnu,hx⟩:=hg hE
 have hqN:=(JZ hok).2
 rw [hnu] at hqN
 obtain ⟨p,hp,hpm,hue,hee⟩:=Qw hqN
 have hF:=kH hE hgi
 have hfew:=ajr (hF.args p hpm)
 simp only [hok,if_true,hgi] at h
 rw [show usL g q=Lib.compact (sortI (zF p)) by rw [usL,hue]] at h
 have S:=S.tl
 refine S.al fun b10 w3 S=>?_
 have S:=S.ownNil 3 1
 generalize r.or s=r' at S hx
 have S : StX noX w r' w3 [.row (.slice none 0 0) 3 1 ((zF p).take 0).length (ints ((zF p).take 0)),.cell b10 [.slice none 0 0] 32]:=S
 refine gp_ ?_
 refine V5 (D0:=xV [.row (.slice none 0 0) 3 1 ((zF p).take 0).length (ints ((zF p).take 0)),.cell b10 [.slice none 0 0] 32])
  (J:=fun k D W=>∃ vl,D=xV [.row vl 3 1 ((zF p).take k).length (ints ((zF p).take k)),.cell b10 [vl] 32]∧StX noX w r' W [.row vl 3 1 ((zF p).take k).length (ints ((zF p).take k)),.cell b10 [vl] 32])
  (Jx:=fun _=>False) S.holds hx hqN.1 hp (hF.args p hpm) ?_ ?_ ⟨_,rfl,S⟩ ?_
 ·intro d hd
  refine ⟨S.dlt hd,fun o=>?_⟩
  obtain ⟨x,hx,hdx⟩:=xW.1 hd
  exact (S.mine x hx d hdx).2 o
 ·refine ⟨?_,fun _ _ h=>h.elim,?_⟩
  ·rintro k _ W1 W2 ⟨vl,rfl,S⟩ e
   exact ⟨vl,rfl,S.go e⟩
  ·rintro k _ W x hx ⟨vl,rfl,S⟩ K1 hK1
   obtain ⟨hk,hxe⟩:=List.getElem?_eq_some_iff.1 hx
   have hkl : ((zF p).take k).length=k:=by rw [List.length_take];omega
   refine Qf (by kernel_rfl) ?_
   refine Tryz.acB ?_
   unfold Tryz.QS
   have R:=S.part
   refine R.ld (b:=b10) ?_
   refine R.lit (e:=3) (cs:=[.int .i64 x]) (by kernel_rfl) fun b6 w6 R=>?_
   refine R.ap (v:=vl) (m':=1) (Sl.blk (R.blk b6)) (fun v7 w7 R=>?_) (by rw [hkl];omega)
   have R:=R.drop b6
   refine R.st (b:=b10) (fun w8 R=>?_) (by simp) (R.row1 v7)
   have hE : (zF p).take (k+1)=(zF p).take k ++ [x]:=by rw [List.take_succ_eq_append_getElem hk,hxe]
   have R : StX (xV [.row vl 3 1 ((zF p).take k).length (ints ((zF p).take k)),.cell b10 [vl] 32]) W r' w8 [.row v7 3 1 ((zF p).take (k+1)).length (ints ((zF p).take (k+1))),.cell b10 [v7] 32]:=by
    rw [hE,List.length_append,xU];exact R
   refine hK1 true _ R.x (if_pos rfl ▸ ?_)
   refine ⟨xV [.row v7 3 1 ((zF p).take (k+1)).length (ints ((zF p).take (k+1))),.cell b10 [v7] 32],fun d hd=>?_,v7,rfl,S.whole R fun _ h=>h⟩
   obtain ⟨y,hy,hdy⟩:=xW.1 hd
   rcases (R.mine y hy d hdy).1 with h1|h1
   ·exact .inr ⟨h1,R.dlt hd⟩
   ·exact .inl h1
 ·rintro W4 (⟨_,vl,rfl,S⟩|h)
  ·rw [List.take_length] at S
   refine S.ld (b:=b10) ?_
   refine QR S (by omega) fun w5 S=>?_
   refine S.ld (b:=b10) ?_
   have S : StX noX w r' w5 [.row vl 3 1 (sortI (zF p)).length (ints (sortI (zF p))),.cell b10 [vl] 32]:=by rw [jP];exact S
   refine aaH S fun v6 w6 S=>?_
   obtain ⟨s2,T,hs,_,hab⟩:=S.doneRow yO (by decide) rfl
   exact h _ s2 _ T.ext (StX.newOf (q:=s2) T fun b o ho=>(hab b o ho).resolve_right id) hs
  ·exact h.elim
end Go.Proofs
end
section
namespace Go.Sh
open Go.RowKit
theorem aaM {α β γ : Type} {f : α→β→γ} : ∀ {us : List α} {bs : List β} {i : Nat} (h1 : i<us.length) (h2 : i<bs.length),∃ p q,List.zipWith f us bs=p++f us[i] bs[i]::q∧∀ a b,List.zipWith f (us.set i a) (bs.set i b)=p++f a b::q
 |[],_,_,h1,_=>absurd h1 (Nat.not_lt_zero _)
 |_::_,[],_,_,h2=>absurd h2 (Nat.not_lt_zero _)
 |a::us,b::bs,0,_,_=>⟨[],List.zipWith f us bs,rfl,fun _ _=>rfl⟩
 |a::us,b::bs,i+1,h1,h2=>by
  obtain ⟨p,q,h3,h4⟩:=aaM (f:=f) (us:=us) (bs:=bs) (i:=i) (by simpa using h1) (by simpa using h2)
  exact ⟨f a b::p,q,by rw [List.zipWith_cons_cons,h3];rfl,fun x y=>by rw [List.set_cons_succ,List.set_cons_succ,List.zipWith_cons_cons,h4];rfl⟩
theorem adi {α β γ : Type} {f : α→β→γ} {us : List α} {bs : List β} {i : Nat} (h1 : i<us.length) (h2 : i<bs.length) : ∃ p q,List.zipWith f us bs=p++f us[i] bs[i]::q∧∀ b,List.zipWith f us (bs.set i b)=p++f us[i] b::q:=by
 obtain ⟨p,q,h3,h4⟩:=aaM (f:=f) h1 h2
 refine ⟨p,q,h3,fun b=>?_⟩
 have:=h4 us[i] b
 rwa [List.set_getElem_self] at this
section
variable {P : Program} {X : Nat→Prop} {w0 w w' : World} {r : Gh} {L : List Asr}
theorem NC.of_doms (S : StX X w0 r w L) (e : ExtBut (xV L) w w') : NC w w':=⟨e.size,fun b o hb ho=>by
 have hlt:=(Array.getElem?_eq_some_iff.1 hb).1
 by_cases hd : xV L b
 ·obtain ⟨o',h1,h2⟩:=aex S b hd
  rw [hb] at h1;cases h1;rw [ho] at h2;cases h2
 ·rw [e.block b hlt hd];exact hb⟩
theorem StX.mkSN {t e : TypeId} {bytes : Nat} {kl : IntKind} {n : Int} {z : Value} (S : StX X w0 r w L) [hT : ApT P t e 1 bytes] [hz : ZrT P e [z]] {K : Value→World→Prop} (h0 : 0≤n) (hb : (bytes : Int)*n≤281474976710656)
  (h : ∀ b w',Ext w w'→StX X w0 r w' (.cell b (List.replicate n.toNat z) e::L)→K (.slice (some ⟨b,0,none⟩) n.toNat n.toNat) w') : opW P w (Instr.makeSlice t (.int kl n) (.int kl n)) fun t' w'=>NC w w'∧K t' w':=
 aes hT.h hz.h h0 hb fun b w' hb e _ B=>⟨NC.of_ext e,h b w' e (S.add e (by omega) B)⟩
theorem StX.ownNils (S : StX X w0 r w L) (e : TypeId) (sz : Nat) : ∀ n,StX X w0 r w (List.replicate n (.row (.slice none 0 0) e sz 0 [])++L)
 |0=>S
 |n+1=>by
  rw [List.replicate_succ]
  exact (S.ownNils e sz n).ownNil e sz
theorem StX.frzRows {α : Type} {e : TypeId} {sz : Nat} {C : List α→List Value} {R : List Value→α→Prop} (hz : 0<sz) (hC : ∀ l,RowOf sz R (C l) l) : ∀ {vs : List Value} {B : List (List α)} {r : Gh},vs.length=B.length→StX X w0 r w (List.zipWith (fun v l=>Asr.row v e sz l.length (C l)) vs B++L)→
  ∃ s,StX X w0 (r.or s) w L∧(∀ b o,s b o→w0.heap.size≤b∨X b)∧∀ i (h1 : i<vs.length) (h2 : i<B.length),SlG sz s R vs[i] B[i]
 |[],[],r,_,S=>⟨nothing,S.less (fun b o h=>h.elim id fun h=>h.elim) (List.Sublist.refl _),fun _ _ h=>h.elim,fun i h=>absurd h (Nat.not_lt_zero _)⟩
 |v::vs,l::B,r,h,S=>by
  rw [List.zipWith_cons_cons,List.cons_append] at S
  obtain ⟨s1,S1,hs1,_,ha1⟩:=S.doneRow (hC l) hz rfl
  obtain ⟨s2,S2,ha2,hs2⟩:=StX.frzRows hz hC (vs:=vs) (B:=B) (by simpa using h) S1
  refine ⟨s1.or s2,S2.reGh,fun b o ho=>ho.elim (ha1 b o) (ha2 b o),fun i h1 h2=>?_⟩
  cases i with
  |zero=>exact hs1.cells
  |succ i=>exact (hs2 i (by simpa using h1) (by simpa using h2)).cells
 |[],_::_,_,h,_=>by simp at h
 |_::_,[],_,h,_=>by simp at h
theorem StX.frzCells {α : Type} {e : TypeId} {C : α→List Value} : ∀ {bs : List Nat} {R : List α} {r : Gh},bs.length=R.length→StX X w0 r w (List.zipWith (fun b m=>Asr.cell b (C m) e) bs R++L)→
  ∃ s,StX X w0 (r.or s) w L∧(∀ b o,s b o→w0.heap.size≤b∨X b)∧∀ i (h1 : i<bs.length) (h2 : i<R.length),Ob s fun w=>Blk w bs[i] (C R[i]) e
 |[],[],r,_,S=>⟨nothing,S.less (fun b o h=>h.elim id fun h=>h.elim) (List.Sublist.refl _),fun _ _ h=>h.elim,fun i h=>absurd h (Nat.not_lt_zero _)⟩
 |b::bs,m::R,r,h,S=>by
  rw [List.zipWith_cons_cons,List.cons_append] at S
  have hm:=(S.mine (.cell b (C m) e) List.mem_cons_self b rfl).1
  have S1:=S.frz
  obtain ⟨s2,S2,ha2,hs2⟩:=StX.frzCells (bs:=bs) (R:=R) (by simpa using h) S1
  refine ⟨(Go.Sh.one b (C m) e).or s2,S2.reGh,fun b' o ho=>ho.elim (by rintro ⟨rfl,_⟩;exact hm) (ha2 b' o),fun i h1 h2=>?_⟩
  cases i with
  |zero=>exact (zG (b:=b) (c:=C m) (T:=e)).up
  |succ i=>exact (hs2 i (by simpa using h1) (by simpa using h2)).up
 |[],_::_,_,h,_=>by simp at h
 |_::_,[],_,h,_=>by simp at h
end
end Go.Sh
end
section
namespace Go.Proofs
open Go.Sh Go.RowKit
set_option maxRecDepth 100000
set_option linter.unusedSimpArgs false
set_option linter.unusedVariables false
abbrev y8 (bs : List Nat) (R : yX) : List Asr:=List.zipWith (fun b m=>Asr.cell b (bls m) 4) bs R
abbrev lwL (b11 : Nat) (bs : List Nat) (vl : Value) (st : yX × List (Int × Int)) : List Asr:=.row vl 107 2 st.2.length (qH st.2) :: .cell b11 [vl] 105::y8 bs st.1
structure RwsAt (ρ : Gh) (b4 br : Nat) (bs : List Nat) (n : Nat) : Prop where
 hd : Ob ρ fun w=>w.cell? ⟨b4,0,none⟩=some (.slice (some ⟨br,0,none⟩) bs.length bs.length)
 at' : ∀ i (h : i<bs.length),Ob ρ fun w=>w.cell? ⟨br,i,none⟩=some (.slice (some ⟨bs[i],0,none⟩) n n)
theorem RwsAt.up {ρ σ : Gh} {b4 br : Nat} {bs : List Nat} {n : Nat} (h : RwsAt ρ b4 br bs n) [le : Le ρ σ] : RwsAt σ b4 br bs n:=⟨h.hd.up,fun i hi=>(h.at' i hi).up⟩
theorem acD {R : yX} {x : Int} (h : x.toNat<R.length) : km R x=R[x.toNat]:=by rw [km,List.getD_eq_getElem?_getD,List.getElem?_eq_getElem h];rfl
set_option maxHeartbeats 1000000 in
theorem abU {q x : Int} {b4 br b11 n : Nat} {bs : List Nat} {ρ : Gh} {X : Nat→Prop} {w0 w : World} {K : Value→World→Prop} {vl : Value} {st : yX × List (Int × Int)} (S : StX X w0 ρ w (lwL b11 bs vl st))
  (hA : RwsAt ρ b4 br bs n) (hx : 0≤x∧x.toNat<bs.length) (hq : 0≤q∧q<n) (hl : st.1.length=bs.length) (hrl : (km st.1 x).length=n) (hT : st.2.length≤1000000)
  (h : ∀ vl' w',NC w w'→StX (xV (lwL b11 bs vl st)) w ρ w' (lwL b11 bs vl' (kF st (q,x)))→K (.tuple #[]) w') : zd Tryz.prog Tryz.zD #[.int .i64 q,.int .i64 x,.pointer (some ⟨b4,0,none⟩),.pointer (some ⟨b11,0,none⟩)] w K:=by
 refine Tryz.Q3 ?_
 unfold Tryz.Zx
 have R:=S.part
 have hxs : x.toNat<st.1.length:=by omega
 obtain ⟨p,qq,hsp,hset⟩:=adi (f:=fun b m=>Asr.cell b (bls m) 4) hx.2 hxs
 have B:=R.has (.cell bs[x.toNat] (bls st.1[x.toNat]) 4) (by show _ ∈ _::_::y8 bs st.1;rw [y8,hsp];simp)
 have B : Blk w bs[x.toNat] (bls st.1[x.toNat]) 4:=B
 rw [acD hxs] at hrl
 refine zg (R.at hA.hd) ?_
 refine gg_ ?_
 refine zg (by rw [Nat.zero_add];exact R.at (hA.at' _ hx.2)) ?_
 refine gg_ ?_
 refine zg (v:=.bool (mk' st.1[x.toNat] q)) (by rw [B.cell];exact ak4 (by omega)) ?_
 refine gp_ ?_
 have hmk : mkR st.1 x q=mk' st.1[x.toNat] q:=by rw [mkR,acD hxs]
 refine c_b (fun hb=>?_) (fun hb=>?_)
 ·have hb : mk' st.1[x.toNat] q=false:=by simpa using hb
  have hadd : kF st (q,x)=(ZP st.1 x q,st.2 ++ [(q,x)]):=by rw [kF,if_neg (by rw [hmk,hb];decide)]
  rw [hadd] at h
  have hsr : ZP st.1 x q=st.1.set x.toNat (xH st.1[x.toNat] q):=by rw [ZP,acD hxs]
  refine zg (R.at hA.hd) ?_
  refine gg_ ?_
  refine zg (by rw [Nat.zero_add];exact R.at (hA.at' _ hx.2)) ?_
  refine gg_ ?_
  haveI hAt : At bs[x.toNat] (lwL b11 bs vl st) (bls st.1[x.toNat]) 4 (fun c'=>(.row vl 107 2 st.2.length (qH st.2) :: .cell b11 [vl] 105::p) ++ .cell bs[x.toNat] c' 4::qq):=
   ⟨_,_,by show _::_::y8 bs st.1=_;rw [y8,hsp];rfl,fun _=>rfl⟩
  refine R.st (b:=bs[x.toNat]) (h:=hAt) (fun w1 R=>?_) (by rw [X6];omega)
  rw [agv hq.1] at R
  have R : StX (xV (lwL b11 bs vl st)) w ρ w1 (.row vl 107 2 st.2.length (qH st.2) :: .cell b11 [vl] 105::y8 bs (ZP st.1 x q)):=by
   rw [y8,hsr,hset];exact R
  refine R.ld (b:=b11) ?_
  refine zy (cs:=#[.int .i64 q,.int .i64 x]) (by kernel_rfl) ?_
  refine R.lit (e:=107) (cs:=[.int .i64 q,.int .i64 x]) (by kernel_rfl) fun b6 w6 R=>?_
  refine R.ap (v:=vl) (m':=1) (Sl.blk (R.blk b6)) (fun v7 w7 R=>?_) (by omega)
  have R:=R.drop b6
  refine R.st (b:=b11) (fun w8 R=>?_) (by simp) (R.row1 v7)
  have R : StX (xV (lwL b11 bs vl st)) w ρ w8 (lwL b11 bs v7 (ZP st.1 x q,st.2 ++ [(q,x)])):=by
   show StX _ w ρ w8 (.row v7 107 2 (st.2 ++ [(q,x)]).length (qH (st.2 ++ [(q,x)]))::_)
   rw [Qr,List.length_append]
   exact R
  exact h _ _ (NC.of_doms S R.x) R
 ·have hb : mk' st.1[x.toNat] q=true:=by simpa using hb
  have hadd : kF st (q,x)=st:=by rw [kF,if_pos (by rw [hmk,hb])]
  rw [hadd] at h
  exact h _ _ (NC.of_ext (.refl _)) R
end Go.Proofs
end
section
namespace Go.Proofs
open Go.Sh Go.RowKit
set_option maxRecDepth 100000
set_option linter.unusedSimpArgs false
set_option linter.unusedVariables false
def RowBC (r : Gh) (c : List Value) (m : List Bool) : Prop:=∃ v,c = [v]∧SlB 1 r JP v m
theorem RowBC.up {r s : Gh} {c : List Value} {m : List Bool} (h : RowBC r c m) [le : Le r s] : RowBC s c m:=by
 obtain ⟨v,h1,h2⟩:=h;exact ⟨v,h1,h2.cells⟩
noncomputable def lvR (g : GrD) : yX:=(List.range g.tys.length).map fun (x : Nat)=>lvM g x
theorem qS {g : GrD} : (lvR g).length=g.tys.length:=by simp [lvR]
theorem qC {g : GrD} {j : Nat} (h : j<(lvR g).length) : (lvR g)[j]=lvM g j:=by simp [lvR]
abbrev vh (n : Nat) (b : Nat) : Value:=.slice (some ⟨b,0,none⟩) n n
theorem ajs {n m : Nat} {bs : List Nat} {b : Nat} (h : bs.length<m) : (bs.map (vh n)++List.replicate (m - bs.length) (Value.slice none 0 0)).set (0+bs.length) (vh n b)=(bs ++ [b]).map (vh n)++List.replicate (m - (bs ++ [b]).length) (Value.slice none 0 0):=by
 rw [Nat.zero_add,show m - bs.length=(m - (bs.length+1))+1 by omega,List.replicate_succ,List.set_append_right _ _ (by rw [List.length_map];omega),List.length_map,Nat.sub_self,List.set_cons_zero,List.map_append,List.length_append,List.append_assoc]
 rfl
theorem aih {bs : List Nat} {b : Nat} {row : List Bool} : y8 (bs ++ [b]) (List.replicate (bs ++ [b]).length row)=y8 bs (List.replicate bs.length row) ++ [Asr.cell b (bls row) 4]:=by
 rw [y8,List.length_append,List.length_singleton,List.replicate_succ',List.zipWith_append (by rw [List.length_replicate])]
 rfl
abbrev J0 (vs : List Value) (B : List (List Int)) : List Asr:=List.zipWith (fun v l=>Asr.row v 3 1 l.length (ints l)) vs B
def BfI (g : GrD) (q k : Nat) (B : List (List Int)) : Prop:=B.length=(zh g).length∧∀ p,isN (zh g) p→(∀ x,x ∈ B.getD p.toNat []↔(isN (zh g) x∧p ∈ nxt (lkN g) x∧x<q)∨(x=q∧p ∈ (nxt (lkN g) q).take k))∧(B.getD p.toNat []).length≤2*q+k
theorem BfI.start {g : GrD} : BfI g 0 0 (List.replicate (zh g).length []):=⟨List.length_replicate,fun p hp=>by
 have p0:=hp.1;have p1:=hp.2
 have e : (List.replicate (zh g).length ([] : List Int)).getD p.toNat [] = []:=by rw [List.getD_eq_getElem?_getD,List.getElem?_replicate];split<;>rfl
 rw [e]
 refine ⟨fun x=>?_,Nat.zero_le _⟩
 simp only [List.not_mem_nil,List.take_zero,and_false,or_false,false_iff]
 rintro ⟨h1,_,h2⟩
 have:=h1.1
 have h2 : x<(0 : Int):=h2
 omega⟩
theorem BfI.next {g : GrD} {q k : Nat} {B : List (List Int)} (h : BfI g q k B) (hk : k<(nxt (lkN g) q).length) (hp : isN (zh g) (nxt (lkN g) q)[k]) : BfI g q (k+1) (B.set ((nxt (lkN g) q)[k]).toNat (B.getD ((nxt (lkN g) q)[k]).toNat [] ++ [(q : Int)])):=by
 obtain ⟨h1,h2⟩:=h
 refine ⟨by rw [List.length_set];exact h1,fun p hpN=>?_⟩
 rw [List.take_succ_eq_append_getElem hk]
 generalize (nxt (lkN g) q)[k]=y at *
 have y0:=hp.1;have y1:=hp.2;have p0:=hpN.1;have p1:=hpN.2
 obtain ⟨h3,h4⟩:=h2 p hpN
 by_cases e : p=y
 ·subst e
  have eG : (B.set p.toNat (B.getD p.toNat [] ++ [(q : Int)])).getD p.toNat []=B.getD p.toNat [] ++ [(q : Int)]:=by
   rw [List.getD_eq_getElem?_getD,List.getElem?_set_self (by omega)];rfl
  rw [eG]
  refine ⟨fun x=>?_,by rw [List.length_append,List.length_singleton];omega⟩
  rw [List.mem_append,List.mem_singleton,h3 x,List.mem_append,List.mem_singleton]
  constructor
  ·rintro ((h|⟨h5,h6⟩)|h)
   ·exact .inl h
   ·exact .inr ⟨h5,.inl h6⟩
   ·exact .inr ⟨h,.inr rfl⟩
  ·rintro (h|⟨h5,h6|h6⟩)
   ·exact .inl (.inl h)
   ·exact .inl (.inr ⟨h5,h6⟩)
   ·exact .inr h5
 ·have eG : (B.set y.toNat (B.getD y.toNat [] ++ [(q : Int)])).getD p.toNat []=B.getD p.toNat []:=by
   rw [List.getD_eq_getElem?_getD,List.getElem?_set_ne (by omega),← List.getD_eq_getElem?_getD]
  rw [eG]
  refine ⟨fun x=>?_,by omega⟩
  rw [h3 x,List.mem_append,List.mem_singleton]
  simp [e]
theorem BfI.row {g : GrD} {q : Nat} {B : List (List Int)} (h : BfI g q (nxt (lkN g) q).length B) (hq : q<(zh g).length) (h2 : (nxt (lkN g) q).length≤2) : BfI g (q+1) 0 B:=⟨h.1,fun p hp=>by
 obtain ⟨h3,h4⟩:=h.2 p hp
 refine ⟨fun x=>?_,by omega⟩
 rw [h3 x,List.take_length,List.take_zero]
 simp only [List.not_mem_nil,and_false,or_false]
 constructor
 ·rintro (⟨h5,h6,h7⟩|⟨rfl,h6⟩)
  ·exact ⟨h5,h6,by omega⟩
  ·exact ⟨⟨by omega,by omega⟩,h6,by omega⟩
 ·rintro ⟨h5,h6,h7⟩
  by_cases e : x=(q : Int)
  ·subst e;exact .inr ⟨rfl,h6⟩
  ·exact .inl ⟨h5,h6,by omega⟩⟩
theorem afv {g : GrD} {x p : Int} (hx : isN (zh g) x) : p ∈ nxt (lkN g) x↔p ∈ nxt (zh g) x:=by
 have x0:=hx.1;have x1:=hx.2
 have hl : x.toNat<g.pts.length:=by rw [z6] at x1;omega
 rw [agq hx,nxt,List.getD_eq_getElem?_getD,lkN,List.getElem?_map,List.getElem?_eq_getElem hl]
 exact agx
theorem ak6 {g : GrD} {x : Int} : (nxt (lkN g) x).length≤2:=by
 rw [nxt,List.getD_eq_getElem?_getD,lkN,List.getElem?_map]
 cases g.pts[x.toNat]? with
 |none=>exact Nat.zero_le _
 |some p=>
  show (lkP p).length≤2
  rw [lkP,List.length_append]
  split<;>split<;>simp
theorem BfI.end {g : GrD} {B : List (List Int)} (h : BfI g (zh g).length 0 B) {p x : Int} (hp : isN (zh g) p) : x ∈ B.getD p.toNat []↔x ∈ ahd (zh g) p:=by
 rw [((h.2 p hp).1 x),acw,List.take_zero]
 simp only [List.not_mem_nil,and_false,or_false]
 constructor
 ·rintro ⟨h1,h2,_⟩;exact ⟨h1,(afv h1).1 h2⟩
 ·rintro ⟨h1,h2⟩;exact ⟨h1,(afv h1).2 h2,h1.2⟩
set_option maxHeartbeats 8000000 in
theorem V7 {g : GrD} {v : Value} {w : World} {r : Gh} {K : Value→World→Prop} (hr : Holds r w) (hx : LookG r v g) (hF : LkF g)
  (h : ∀ v' s w',Ext w w'→New w s w'→SlG 1 s (RowBC s) v' (lvR g)→K v' w') : zd Tryz.prog Tryz.kG #[v] w K:=by
 refine Tryz.VG ?_
 unfold Tryz.YR
 have hx0:=hx
 obtain ⟨bl,x1,x2,x3,x4,y1,y2,y3,y4,vn,rfl,hg,hn,hc⟩:=hx
 have hnf:=hF.net.few
 have hnp:=hF.net.pos
 have hmf:=hF.loc.few
 have hgl:=z6 (g:=g)
 have hlk:=Vq (g:=g)
 have S:=St.start hr
 have hlow:=S.low
 refine S.boxN fun b1 w1 _ S=>?_
 refine gg_ ?_
 refine zg (S.at (hc 6 _ rfl)) ?_
 refine gg_ ?_
 refine zg (S.at (hc 4 _ rfl)) ?_
 refine gg_ ?_
 refine S.mkSN (by omega) (by omega) fun br w2 e2 S=>?_
 rw [Int.toNat_natCast] at S ⊢
 refine S.alN fun b4 w3 _ S=>?_
 refine S.stN' (b:=b4) fun w4 S=>?_
 refine S.ld (b:=b4) ?_
 refine gg_ ?_
 have S : StX noX w r w4 (.cell b4 [.slice (some ⟨br,0,none⟩) g.tys.length g.tys.length] 44 :: .cell br (([] : List Nat).map (vh g.pts.length)++List.replicate (g.tys.length - ([] : List Nat).length) (.slice none 0 0)) 52 :: .cell b1 [.pointer (some ⟨bl,0,none⟩)] 73::y8 [] (List.replicate ([] : List Nat).length (List.replicate g.pts.length false))):=S
 refine zi (ι:=List Nat) (fun bs=>[.int .i64 (bs.length : Nat)]) (fun bs w'=>bs.length≤g.tys.length∧StX noX w r w' (.cell b4 [.slice (some ⟨br,0,none⟩) g.tys.length g.tys.length] 44 :: .cell br (bs.map (vh g.pts.length)++List.replicate (g.tys.length - bs.length) (.slice none 0 0)) 52 :: .cell b1 [.pointer (some ⟨bl,0,none⟩)] 73::y8 bs (List.replicate bs.length (List.replicate g.pts.length false)))) (fun bs=>g.tys.length - bs.length) [] rfl ⟨Nat.zero_le _,S⟩ ?_
 repeat clear S
 rintro bs d w8 ⟨hi,S⟩ K5 hK5
 rw [List.getD_cons_zero]
 refine gg_ ?_
 refine zk (fun hlt=>?_) (fun hge=>?_)
 ·have hlt : bs.length<g.tys.length:=by omega
  have S:=S.go (Ext.drew _)
  refine S.ld (b:=b4) ?_
  refine S.mkSN (by omega) (by omega) fun b9 w9 e9 S=>⟨e9,?_⟩
  rw [Int.toNat_natCast] at S ⊢
  rw [Vp] at S
  refine gg_ ?_
  refine S.stN' (b:=br) (fun w10 S=>?_) (by simp;omega)
  rw [Int.toNat_natCast,ajs hlt] at S
  refine gg_ ?_
  have e : ((bs.length : Int)+1)=((bs ++ [b9]).length : Nat):=by simp
  rw [e]
  refine hK5 (bs ++ [b9]) _ ⟨by simp;omega,?_⟩ (by simp;omega)
  rw [aih]
  exact S.permO (List.perm_append_singleton _ (_::_::_::_))
 have hie : bs.length=g.tys.length:=by omega
 clear hK5 K5 hge hi d
 rw [hie,Nat.sub_self,List.replicate_zero,List.append_nil] at S
 rw [← hgl] at S ⊢
 generalize hn2 : (zh g).length=n at *
 have hb4:=(S.mine (.cell b4 [.slice (some ⟨br,0,none⟩) g.tys.length g.tys.length] 44) (by simp) b4 rfl).1.resolve_right id
 have hbr:=(S.mine (.cell br (bs.map (vh n)) 52) (by simp) br rfl).1.resolve_right id
 have hb1:=(S.mine (.cell b1 [.pointer (some ⟨bl,0,none⟩)] 73) (by simp) b1 rfl).1.resolve_right id
 have S:=S.frz
 have S:=S.frz.reGh
 have S:=S.frz.reGh
 have ha : Above w (((Go.Sh.one b4 [.slice (some ⟨br,0,none⟩) g.tys.length g.tys.length] 44).or (Go.Sh.one br (bs.map (vh n)) 52)).or (Go.Sh.one b1 [.pointer (some ⟨bl,0,none⟩)] 73)):=by
  rintro b o ((⟨rfl,_⟩|⟨rfl,_⟩)|⟨rfl,_⟩)<;>assumption
 have hA : RwsAt (((Go.Sh.one b4 [.slice (some ⟨br,0,none⟩) g.tys.length g.tys.length] 44).or (Go.Sh.one br (bs.map (vh n)) 52)).or (Go.Sh.one b1 [.pointer (some ⟨bl,0,none⟩)] 73)) b4 br bs n:=by
  refine ⟨fun w' hw'=>?_,fun i hi w' hw'=>?_⟩
  ·have B : Blk w' b4 [.slice (some ⟨br,0,none⟩) g.tys.length g.tys.length] 44:=zG w' (hw'.le (h:=inferInstance))
   rw [hie];exact B.cell 0
  ·have B : Blk w' br (bs.map (vh n)) 52:=zG w' (hw'.le (h:=inferInstance))
   show w'.cell? ⟨br,i,none⟩=_
   rw [B.cell,List.getElem?_map,List.getElem?_eq_getElem hi];rfl
 have h1 : Ob (((Go.Sh.one b4 [.slice (some ⟨br,0,none⟩) g.tys.length g.tys.length] 44).or (Go.Sh.one br (bs.map (vh n)) 52)).or (Go.Sh.one b1 [.pointer (some ⟨bl,0,none⟩)] 73)) fun w=>w.cell? ⟨b1,0,none⟩=some (.pointer (some ⟨bl,0,none⟩)):=fun w' hw'=>by
  have B : Blk w' b1 [.pointer (some ⟨bl,0,none⟩)] 73:=zG w' (hw'.le (h:=inferInstance))
  exact B.cell 0
 have hbook : Zp (((Go.Sh.one b4 [.slice (some ⟨br,0,none⟩) g.tys.length g.tys.length] 44).or (Go.Sh.one br (bs.map (vh n)) 52)).or (Go.Sh.one b1 [.pointer (some ⟨bl,0,none⟩)] 73)):=inferInstance
 generalize ((Go.Sh.one b4 [.slice (some ⟨br,0,none⟩) g.tys.length g.tys.length] 44).or (Go.Sh.one br (bs.map (vh n)) 52)).or (Go.Sh.one b1 [.pointer (some ⟨bl,0,none⟩)] 73)=ρ at S ha hA h1 hbook
 clear hb4 hbr hb1
 have S : StX noX w (r.or ρ) _ (y8 bs (List.replicate g.tys.length (List.replicate n false))):=S
 generalize hR0 : List.replicate g.tys.length (List.replicate n false)=R0 at S
 refine S.mkSN (by omega) (by omega) fun b46 w11 e11 S=>?_
 rw [Int.toNat_natCast] at S ⊢
 have S:=S.ownNils 3 1 n
 have S : StX noX w (r.or ρ) w11 (.cell b46 (List.replicate n (.slice none 0 0)) 32::(J0 (List.replicate n (.slice none 0 0)) (List.replicate n [])++y8 bs R0)):=by
  refine S.permO ?_
  rw [J0,List.zipWith_replicate,Nat.min_self]
  exact List.perm_middle.symm
 refine zg (S.at h1) ?_
 refine gg_ ?_
 refine zg (S.at (hc 7 _ rfl)) ?_
 obtain ⟨pn,capn,hvn,_,_⟩:=hn.sl.shape
 rw [hvn] at hn ⊢
 rw [hlk] at hn ⊢
 refine gg_ ?_
 have hB0:=BfI.start (g:=g)
 rw [hn2] at hB0
 refine zi (ι:=Nat × List Value × List (List Int)) (fun i=>[.int .i64 (i.1 : Nat)]) (fun i w'=>i.1≤n∧i.2.1.length=n∧BfI g i.1 0 i.2.2∧StX noX w (r.or ρ) w' (.cell b46 i.2.1 32::(J0 i.2.1 i.2.2++y8 bs R0))) (fun i=>n - i.1) (0,List.replicate n (.slice none 0 0),List.replicate n []) rfl ⟨Nat.zero_le _,List.length_replicate,hB0,S⟩ ?_
 repeat clear S
 clear hB0
 rintro ⟨q,vs,B⟩ d w15 ⟨hq,hvs,hB,S⟩ K12 hK12
 simp only at hq hvs hB S ⊢
 rw [List.getD_cons_zero]
 refine gg_ ?_
 refine zk (fun hlt=>?_) (fun hge=>?_)
 ·have hlt : q<n:=by omega
  obtain ⟨bq,oq,uq,hpn,_,hcq,huq⟩:=Vo hn (i:=q) (by omega)
  have hq' : q<(lkN g).length:=by omega
  have hqN : isN (zh g) (q : Int):=⟨by omega,by omega⟩
  have hnx : (lkN g)[q]=nxt (lkN g) (q : Int):=by rw [nxt,Int.toNat_natCast,List.getD_eq_getElem?_getD,List.getElem?_eq_getElem hq'];rfl
  rw [hnx] at huq
  have hfk:=ak6 (g:=g) (x:=(q : Int))
  have hNx : ∀ k (hk : k<(nxt (lkN g) (q : Int)).length),isN (zh g) (nxt (lkN g) (q : Int))[k]:=fun k hk=>X5 hF.net.ok ((afv hqN).1 (List.getElem_mem hk))
  have hnextB:=fun k B (hB : BfI g q k B) hk=>hB.next hk (hNx k hk)
  have hrowB:=fun B (hB : BfI g q (nxt (lkN g) (q : Int)).length B)=>hB.row (by omega) hfk
  obtain ⟨pu,cu,rfl,_,_⟩:=huq.sl.shape
  rw [hpn]
  refine gg_ ?_
  refine zg (by rw [Int.toNat_natCast];exact S.at hcq) ?_
  refine gg_ ?_
  refine zi (ι:=Nat × List Value × List (List Int)) (fun i=>[.int .i64 (i.1 : Nat)]) (fun i w'=>i.1≤(nxt (lkN g) (q : Int)).length∧i.2.1.length=n∧BfI g q i.1 i.2.2∧StX noX w (r.or ρ) w' (.cell b46 i.2.1 32::(J0 i.2.1 i.2.2++y8 bs R0))) (fun i=>(nxt (lkN g) (q : Int)).length - i.1) (0,vs,B) rfl ⟨Nat.zero_le _,hvs,hB,S⟩ ?_
  repeat clear S
  rintro ⟨k,vt,C⟩ d w19 ⟨hk,hvt,hC,S⟩ K16 hK16
  simp only at hk hvt hC S ⊢
  rw [List.getD_cons_zero]
  refine gg_ ?_
  refine zk (fun hltk=>?_) (fun hgek=>?_)
  ·have hltk : k<(nxt (lkN g) (q : Int)).length:=by omega
   obtain ⟨bk,ok,hpk,_,gk⟩:=yr huq.sl hltk
   have hyN:=hNx k hltk
   have hB2:=hnextB k C hC hltk
   have hBy:=(hC.2 _ hyN).2
   generalize (nxt (lkN g) (q : Int))[k]=y at gk hyN hB2 hBy
   have y0:=hyN.1;have y1:=hyN.2
   rw [hn2] at y1
   have hBl:=hC.1
   have hyv : y.toNat<vt.length:=by omega
   have hyB : y.toNat<C.length:=by omega
   have hBe : C.getD y.toNat []=C[y.toNat]:=by rw [List.getD_eq_getElem?_getD,List.getElem?_eq_getElem hyB];rfl
   rw [hBe] at hB2 hBy
   obtain ⟨pp,qq,hsp,hset⟩:=aaM (f:=fun v l=>Asr.row v 3 1 l.length (ints l)) hyv hyB
   cases hpk
   refine gg_ ?_
   refine zg (by rw [Int.toNat_natCast];exact S.at gk) ?_
   refine gg_ ?_
   refine S.ld (b:=b46) (v:=vt[y.toNat]) ?_ (by rw [Nat.zero_add];exact List.getElem?_eq_getElem hyv)
   refine S.litN (e:=3) (cs:=[.int .i64 (q : Nat)]) (by kernel_rfl) fun b70 w20 S=>?_
   have S : StX noX w (r.or ρ) w20 ((.cell b70 [.int .i64 (q : Nat)] 3 :: .cell b46 vt 32::pp) ++ .row vt[y.toNat] 3 1 C[y.toNat].length (ints C[y.toNat])::(qq++y8 bs R0)):=by
    rw [J0,hsp] at S
    simpa using S
   haveI hra : kY vt[y.toNat] ((.cell b70 [.int .i64 (q : Nat)] 3 :: .cell b46 vt 32::pp) ++ .row vt[y.toNat] 3 1 C[y.toNat].length (ints C[y.toNat])::(qq++y8 bs R0)) 3 1 C[y.toNat].length (ints C[y.toNat]) (fun x=>(.cell b70 [.int .i64 (q : Nat)] 3 :: .cell b46 vt 32::pp)++x::(qq++y8 bs R0)):=⟨_,_,rfl,fun _=>rfl⟩
   refine StX.apM S (h:=hra) (m':=1) (Sl.blk (S.has (.cell b70 [.int .i64 (q : Nat)] 3) (by simp))) (fun v71 w21 nc _ S=>⟨nc,?_⟩) (by omega)
   have S : StX noX w (r.or ρ) w21 (.cell b46 vt 32::(pp ++ .row v71 3 1 (C[y.toNat] ++ [(q : Int)]).length (ints (C[y.toNat] ++ [(q : Int)]))::(qq++y8 bs R0))):=by
    rw [xU,List.length_append]
    exact S.tl
   have h1v : v71.oneCell'=true:=S.row1 (h:=(⟨.cell b46 vt 32::pp,qq++y8 bs R0,rfl,fun _=>rfl⟩ : kY v71 _ 3 1 _ _ (fun x=>.cell b46 vt 32::(pp++x::(qq++y8 bs R0))))) v71
   refine gg_ ?_
   refine S.stN' (b:=b46) (fun w22 S=>?_) (by omega) h1v
   rw [Nat.zero_add] at S
   refine gg_ ?_
   refine hK16 (k+1,vt.set y.toNat v71,C.set y.toNat (C[y.toNat] ++ [(q : Int)])) _ ⟨hltk,by show (vt.set y.toNat v71).length=n;rw [List.length_set];exact hvt,hB2,?_⟩ (by show (nxt (lkN g) (q : Int)).length - (k+1)<(nxt (lkN g) (q : Int)).length - k;omega)
   show StX noX w (r.or ρ) w22 (.cell b46 (vt.set y.toNat v71) 32::(J0 (vt.set y.toNat v71) (C.set y.toNat (C[y.toNat] ++ [(q : Int)]))++y8 bs R0))
   rw [J0,hset,List.append_assoc]
   exact S
  ·have hke : k=(nxt (lkN g) (q : Int)).length:=by omega
   subst hke
   refine gg_ ?_
   exact hK12 (q+1,vt,C) _ ⟨hlt,hvt,hrowB C hC,S⟩ (by show n - (q+1)<n - q;omega)
 have hqe : q=n:=by omega
 clear hK12 K12 hge hq d
 subst hqe
 have hBend:=fun p x hp=>(hn2 ▸ hB : BfI g (zh g).length 0 B).end (p:=p) (x:=x) hp
 have hBf:=fun p hp=>(hB.2 p hp).2
 have hBl:=hB.1
 rw [hn2] at hBl
 have S : StX noX w (r.or ρ) w15 (J0 vs B++(.cell b46 vs 32::y8 bs R0)):=S.permO List.perm_middle
 obtain ⟨s2,S,ha2,hs2⟩:=StX.frzRows (sz:=1) (R:=zU) (C:=ints) (by decide) (fun l=>yO) (by omega) S
 have ha2 : Above w s2:=fun b o ho=>(ha2 b o ho).resolve_right id
 have hb46:=(S.mine (.cell b46 vs 32) (by simp) b46 rfl).1.resolve_right id
 have S:=S.reGh.frz.reGh
 have B46 : Blk w15 b46 vs 32:=S.holds.le (r:=Go.Sh.one b46 vs 32) b46 _ ⟨rfl,rfl⟩
 have hbef : NetG (s2.or (Go.Sh.one b46 vs 32)) (.slice (some ⟨b46,0,none⟩) q q) B:=by
  have hrow : RowOf 1 (RowC (s2.or (Go.Sh.one b46 vs 32))) vs B:=⟨by omega,fun i hi=>by
   rw [Nat.mul_one,List.drop_eq_getElem_cons (by omega : i<vs.length)]
   exact ⟨vs[i],rfl,(hs2 i (by omega) hi).cells,by
    have:=hBf (i : Nat) ⟨by omega,by omega⟩
    rw [Int.toNat_natCast,List.getD_eq_getElem?_getD,List.getElem?_eq_getElem hi] at this
    have this : B[i].length≤2*q+0:=this
    rw [maxLen];omega⟩⟩
  have:=ak0 (w:=w15) hrow (by decide) B46
  rw [hBl] at this
  exact ⟨this.cells,by rw [maxLen];omega⟩
 have ha3 : Above w ((ρ.or s2).or (Go.Sh.one b46 vs 32)):=(ha.or' ha2).or' (by rintro b o ⟨rfl,_⟩;exact hb46)
 have hA:=hA.up (σ:=(ρ.or s2).or (Go.Sh.one b46 vs 32))
 have h1:=h1.up (s:=(ρ.or s2).or (Go.Sh.one b46 vs 32))
 have hbef:=hbef.up (s:=(ρ.or s2).or (Go.Sh.one b46 vs 32))
 have hA0 : RwsAt ρ b4 br bs q:=by assumption
 have leρ : Le ρ ((ρ.or s2).or (Go.Sh.one b46 vs 32)):=inferInstance
 have hx1:=hx0.up (s:=r.or ((ρ.or s2).or (Go.Sh.one b46 vs 32)))
 generalize (ρ.or s2).or (Go.Sh.one b46 vs 32)=σ at S ha3 hA h1 hbef leρ hx1
 clear hs2 B46
 refine S.alN fun b11 w23 _ S=>?_
 refine gp_ ?_
 refine S.alN fun b12 w24 _ S=>?_
 refine S.stN' (b:=b12) fun w25 S=>?_
 have S : StX noX w (r.or σ) w25 (.cell b12 [.func (.func Tryz.zD) #[] #[.pointer (some ⟨b4,0,none⟩),.pointer (some ⟨b11,0,none⟩)]] 108 :: .cell b11 [.slice none 0 0] 105::y8 bs R0):=S
 have hb12:=(S.mine _ List.mem_cons_self b12 rfl).1.resolve_right id
 have S:=S.frz.reGh
 have h12 : Ob (σ.or (Go.Sh.one b12 [.func (.func Tryz.zD) #[] #[.pointer (some ⟨b4,0,none⟩),.pointer (some ⟨b11,0,none⟩)]] 108)) fun w=>w.cell? ⟨b12,0,none⟩=some (.func (.func Tryz.zD) #[] #[.pointer (some ⟨b4,0,none⟩),.pointer (some ⟨b11,0,none⟩)]):=fun w' hw'=>by
  have B : Blk w' b12 [.func (.func Tryz.zD) #[] #[.pointer (some ⟨b4,0,none⟩),.pointer (some ⟨b11,0,none⟩)]] 108:=zG w' (hw'.le (h:=inferInstance))
  exact B.cell 0
 have ha4 : Above w (σ.or (Go.Sh.one b12 [.func (.func Tryz.zD) #[] #[.pointer (some ⟨b4,0,none⟩),.pointer (some ⟨b11,0,none⟩)]] 108)):=ha3.or' (by rintro b o ⟨rfl,_⟩;exact hb12)
 have leτ : Le ρ (σ.or (Go.Sh.one b12 [.func (.func Tryz.zD) #[] #[.pointer (some ⟨b4,0,none⟩),.pointer (some ⟨b11,0,none⟩)]] 108)):=inferInstance
 have hA:=hA.up (σ:=σ.or (Go.Sh.one b12 [.func (.func Tryz.zD) #[] #[.pointer (some ⟨b4,0,none⟩),.pointer (some ⟨b11,0,none⟩)]] 108))
 have h1:=h1.up (s:=σ.or (Go.Sh.one b12 [.func (.func Tryz.zD) #[] #[.pointer (some ⟨b4,0,none⟩),.pointer (some ⟨b11,0,none⟩)]] 108))
 have hbef:=hbef.up (s:=σ.or (Go.Sh.one b12 [.func (.func Tryz.zD) #[] #[.pointer (some ⟨b4,0,none⟩),.pointer (some ⟨b11,0,none⟩)]] 108))
 have hx1:=hx0.up (s:=r.or (σ.or (Go.Sh.one b12 [.func (.func Tryz.zD) #[] #[.pointer (some ⟨b4,0,none⟩),.pointer (some ⟨b11,0,none⟩)]] 108)))
 generalize σ.or (Go.Sh.one b12 [.func (.func Tryz.zD) #[] #[.pointer (some ⟨b4,0,none⟩),.pointer (some ⟨b11,0,none⟩)]] 108)=τ at S ha4 hA h1 hbef leτ hx1 h12
 clear ha3 leρ hb12
 have S:=S.ownNil 107 2
 have hWk0 : Wk g (fun x q'=>Usd g x q') (fun _ _ _=>False) R0 []:=by
  rw [← hR0,← hn2];exact Wk.start
 have hoff : ([] : List (Int × Int)).length+xw R0≤1000000:=by
  have e : xw R0=g.tys.length*q:=by
   rw [xw,← hR0,List.map_replicate,ake];simp
  rw [e,List.length_nil,Nat.zero_add]
  exact Nat.le_trans (Nat.mul_le_mul hmf hnf) (by decide)
 have S : StX noX w (r.or τ) w25 (lwL b11 bs (.slice none 0 0) (R0,[])):=S
 refine zi (ι:=Nat × Value × (yX × List (Int × Int))) (fun i=>[.int .i64 (i.1 : Nat)]) (fun i w'=>i.1≤q∧Wk g (fun x q'=>Usd g x q'∧(i.1 : Int)≤q') (fun _ _ _=>False) i.2.2.1 i.2.2.2∧i.2.2.2.length+xw i.2.2.1≤1000000∧StX noX w (r.or τ) w' (lwL b11 bs i.2.1 i.2.2)) (fun i=>q - i.1) (0,.slice none 0 0,(R0,[])) rfl ⟨Nat.zero_le _,hWk0.mono (fun x q' _ hq' _ hu=>.inl ⟨hu,hq'.1⟩) (fun _ _ _ _ _ _ _ h=>h.elim),hoff,S⟩ ?_
 repeat clear S
 clear hWk0 hoff hR0
 rintro ⟨i,vl,st⟩ d w29 ⟨hi,hW,hoff,S⟩ K26 hK26
 simp only at hi hW hoff S ⊢
 rw [List.getD_cons_zero]
 refine gg_ ?_
 refine zk (fun hlt=>?_) (fun hge=>?_)
 ·have hlt : i<q:=by omega
  have hqN : isN (zh g) (i : Int):=⟨by omega,by omega⟩
  obtain ⟨p,hp,hpm,hue,hee⟩:=Qw hqN
  have hul : ∀ x ∈ zF p,isL g x∧Lvd g x i:=fun x hx=>⟨hF.loc.uses p hpm x hx,.use hqN (by rw [Usd,hue];exact hx)⟩
  have hRl:=hW.len
  have hbl : bs.length=g.tys.length:=hie
  refine S.alN fun b13 w30 _ S=>?_
  refine S.stN' (b:=b13) fun w31 S=>?_
  have S : StX noX w (r.or τ) w31 (.cell b13 [.int .i64 (i : Nat)] 3::lwL b11 bs vl st):=S
  have S:=S.frz
  have h13 : Ob ((r.or τ).or (Go.Sh.one b13 [.int .i64 (i : Nat)] 3)) fun w=>w.cell? ⟨b13,0,none⟩=some (.int .i64 (i : Nat)):=fun w' hw'=>by
   have B : Blk w' b13 [.int .i64 (i : Nat)] 3:=zG w' (hw'.le (h:=inferInstance))
   exact B.cell 0
  have h1':=h1.up (s:=(r.or τ).or (Go.Sh.one b13 [.int .i64 (i : Nat)] 3))
  have h12':=h12.up (s:=(r.or τ).or (Go.Sh.one b13 [.int .i64 (i : Nat)] 3))
  have hA':=hA.up (σ:=(r.or τ).or (Go.Sh.one b13 [.int .i64 (i : Nat)] 3))
  have hx':=hx1.up (s:=(r.or τ).or (Go.Sh.one b13 [.int .i64 (i : Nat)] 3))
  have leυ : Le (r.or τ) ((r.or τ).or (Go.Sh.one b13 [.int .i64 (i : Nat)] 3)):=inferInstance
  generalize (r.or τ).or (Go.Sh.one b13 [.int .i64 (i : Nat)] 3)=υ at S h13 h1' h12' hA' hx' leυ
  have hw31 : w.heap.size≤w31.heap.size:=S.x.size
  have hlow31:=S.low
  refine gp_ ?_
  refine aly ((zF p).map aea) (xV (lwL b11 bs vl st)) (fun k D W=>∃ vl st,D=xV (lwL b11 bs vl st)∧Wk g (fun x q'=>Usd g x q'∧((i : Int)<q'∨(q'=i∧x ∉ (zF p).take k))) (fun _ _ _=>False) st.1 st.2∧st.2.length+xw st.1≤1000000∧StX noX w υ W (lwL b11 bs vl st))
   (aex S) (adg (by kernel_rfl) (fun h=>Tryz.Q4 h) S.holds hx' h1' h13 hqN.1 hp (hF.args p hpm) (fun d hd=>⟨S.dlt hd,fun o=>?_⟩)) ?_ ?_ ⟨vl,st,rfl,hW.mono (fun x q' _ hq' _ hu=>.inl ⟨hu.1,?_⟩) (fun _ _ _ _ _ _ _ h=>h.elim),hoff,S⟩ ?_ ?_
  ·obtain ⟨y,hy,hdy⟩:=xW.1 hd
   exact (S.mine y hy d hdy).2 o
  ·intro y hy
   obtain ⟨z,_,rfl⟩:=List.mem_map.1 hy
   rfl
  ·rintro k D W W' ⟨vl,st,h1,h2,h3,S⟩ e
   exact ⟨vl,st,h1,h2,h3,S.nl e hw31⟩
  ·have:=hu.2
   by_cases e : q'=i
   ·exact .inr ⟨e,by simp⟩
   ·exact .inl (by omega)
  ·clear S hW hoff
   rintro k y D W hy ⟨vl,st,rfl,hW,hoff,S⟩ KR hN
   rw [List.getElem?_map,Option.map_eq_some_iff] at hy
   obtain ⟨z,hz,rfl⟩:=hy
   obtain ⟨hk,hze⟩:=List.getElem?_eq_some_iff.1 hz
   obtain ⟨hzL,hzl⟩:=hul z (List.mem_of_getElem? hz)
   refine ⟨.refl _,fun W9 e9=>?_⟩
   have hsz:=e9.size
   have S:=S.nl e9 hw31
   rw [List.getD_cons_zero]
   refine zg (S.at h12') ?_
   refine zg (S.at h13) ?_
   refine ajK (by kernel_rfl) ?_
   have z0:=hzL.1;have z1:=hzL.2
   have hWl:=hW.len
   obtain ⟨hW2,hm2,hk2,hs2⟩:=hW.add hzL hqN hzl
   refine abU S hA' ⟨z0,by omega⟩ ⟨hqN.1,by omega⟩ (by omega) (by rw [hW.rlen z hzL,hn2]) (by omega) fun vl' w' nc R=>⟨nc,R.x,?_⟩
   refine hN (xV (lwL b11 bs vl' (kF st ((i : Int),z)))) _ (fun d hd=>?_) ⟨vl',kF st ((i : Int),z),rfl,?_,?_,S.whole R fun _ h=>h⟩
   ·obtain ⟨y,hy,hdy⟩:=xW.1 hd
    rcases (R.mine y hy d hdy).1 with h1|h1
    ·exact .inr ⟨by omega,R.dlt hd⟩
    ·exact .inl h1
   ·refine hW2.mono (fun x q' hxL hq' _ hu=>?_) (fun _ _ _ _ _ _ _ h=>h.elim)
    rcases hu.2 with h|⟨h,h2⟩
    ·exact .inl ⟨hu.1,.inl h⟩
    ·subst h
     by_cases e : x=z
     ·subst e;exact .inr hm2
     ·refine .inl ⟨hu.1,.inr ⟨rfl,?_⟩⟩
      rw [List.take_succ_eq_append_getElem hk,List.mem_append,List.mem_singleton,hze]
      exact fun h=>h.elim h2 e
   ·have hs2 : (kF st ((i : Int),z)).2.length+xw (kF st ((i : Int),z)).1=st.2.length+xw st.1:=hs2
    omega
  ·clear S hW hoff
   rintro D W ⟨vl,st,rfl,hW,hoff,S⟩
   rw [List.length_map,List.take_length] at hW
   refine gg_ ?_
   refine hK26 (i+1,vl,st) _ ⟨hlt,hW.mono (fun x q' _ hq' hu1 hu=>?_) (fun _ _ _ _ _ _ _ h=>h.elim),hoff,S.to _⟩ (by show q - (i+1)<q - i;omega)
   rcases hu.2 with h|⟨rfl,h2⟩
   ·exact .inl ⟨hu.1,by show ((i+1 : Nat) : Int)≤q';omega⟩
   ·exfalso
    rw [Usd,hue] at hu1
    exact h2 hu1
 have hie2 : i=q:=by omega
 clear hK26 K26 hge hi d
 have hW : Wk g (fun _ _=>False) (fun _ _ _=>False) st.1 st.2:=hW.mono (fun x q' _ hq' _ hu=>by have h2:=hu.2;have:=hq'.2;omega) (fun _ _ _ _ _ _ _ h=>h.elim)
 have hx2:=hx0.up (s:=r.or τ)
 refine zg (S.at h1) ?_
 refine gp_ ?_
 refine zi (ι:=Value × (yX × List (Int × Int))) (fun _=>[]) (fun i w'=>Wk g (fun _ _=>False) (fun _ _ _=>False) i.2.1 i.2.2∧i.2.2.length+xw i.2.1≤1000000∧StX noX w (r.or τ) w' (lwL b11 bs i.1 i.2)) (fun i=>i.2.2.length+xw i.2.1) (vl,st) rfl ⟨hW,hoff,S⟩ ?_
 repeat clear S
 clear hW hoff
 rintro ⟨vk,st⟩ d w44 ⟨hW,hoff,S⟩ K41 hK41
 simp only at hW hoff S ⊢
 obtain ⟨R,T⟩:=st
 simp only at hW hoff S
 refine S.ld (b:=b11) ?_
 obtain ⟨pk,ck,hvk,hpk,hck,hxk,hslk⟩:=S.rowS vk
 rw [hvk] at S ⊢
 dsimp only at hck hxk hslk ⊢
 have S : StX noX w (r.or τ) w44 (.row (.slice pk T.length ck) 107 2 T.length (qH T) :: .cell b11 [.slice pk T.length ck] 105::y8 bs R):=S
 refine gg_ ?_
 refine zk (fun hgt=>?_) (fun hle=>?_)
 ·have hT : T≠[]:=fun e=>by rw [e] at hgt;simp at hgt
  obtain ⟨T',w0',rfl⟩ : ∃ T' w0',T=T' ++ [w0']:=⟨T.dropLast,T.getLast hT,(List.dropLast_concat_getLast hT).symm⟩
  obtain ⟨q0,x0⟩:=w0'
  obtain ⟨hWp,hxL,hq0N,hlv⟩:=hW.pop
  have q00:=hq0N.1;have q01:=hq0N.2
  rw [hn2] at q01
  refine S.ld (b:=b11) ?_
  refine S.ld (b:=b11) ?_
  refine gg_ ?_
  have hTl : ((T' ++ [(q0,x0)]).length : Int) - 1=(T'.length : Nat):=by simp
  have hTn : (T' ++ [(q0,x0)]).length=T'.length+1:=by simp
  rw [Qr] at hslk
  have hc2:=ahJ T'
  obtain ⟨bk,ok,rfl⟩ : ∃ b o,pk=some ⟨b,o,none⟩:=by
   obtain ⟨b,o,hb,_⟩:=hslk (T'.length*2) (.int .i64 q0) (by rw [List.getElem?_append_right (by omega),hc2,Nat.sub_self];rfl)
   exact ⟨b,o,hb⟩
  have hel : ∀ j u,[Value.int .i64 q0,.int .i64 x0][j]? = some u→w44.cell? ⟨bk,ok+T'.length*2+j,none⟩=some u:=fun j u hj=>by
   obtain ⟨b,o,hb,hcl⟩:=hslk (T'.length*2+j) u (by rw [List.getElem?_append_right (by omega),hc2,Nat.add_sub_cancel_left];exact hj)
   cases hb
   rw [Nat.add_assoc]
   exact hcl
  rw [hTl]
  refine gg_ ?_
  refine zq (n:=2) rfl (fun j u hj=>by rw [Int.toNat_natCast];exact hel j u hj) ?_
  refine S.alN fun b16 w45 _ S=>?_
  refine S.stBN (b:=b16) fun w46 S=>?_
  have S : StX noX w (r.or τ) w46 (.cell b16 [.int .i64 q0,.int .i64 x0] 107 :: .row (.slice (some ⟨bk,ok,none⟩) (T' ++ [(q0,x0)]).length ck) 107 2 (T' ++ [(q0,x0)]).length (qH (T' ++ [(q0,x0)])) :: .cell b11 [.slice (some ⟨bk,ok,none⟩) (T' ++ [(q0,x0)]).length ck] 105::y8 bs R):=S
  refine S.ld (b:=b11) ?_
  refine S.ld (b:=b11) ?_
  refine gg_ ?_
  rw [hTl]
  refine gg_ ?_
  refine S.stN' (b:=b11) fun w47 S=>?_
  have S:=StX.cutRow (p:=some ⟨bk,ok,none⟩) (cap:=ck) (m:=(T' ++ [(q0,x0)]).length) (n:=T'.length) S (show T'.length≤(T' ++ [(q0,x0)]).length by omega)
  rw [Qr,List.take_append_of_le_length (by omega),List.take_of_length_le (by omega),Int.toNat_natCast] at S
  have S : StX noX w (r.or τ) w47 (.cell b16 [.int .i64 q0,.int .i64 x0] 107::lwL b11 bs (.slice (some ⟨bk,ok,none⟩) T'.length ck) (R,T')):=S
  have S:=S.frz
  have h16 : ∀ j u,[Value.int .i64 q0,.int .i64 x0][j]? = some u→Ob ((r.or τ).or (Go.Sh.one b16 [.int .i64 q0,.int .i64 x0] 107)) fun w=>w.cell? ⟨b16,j,none⟩=some u:=fun j u hj w' hw'=>by
   have B : Blk w' b16 [.int .i64 q0,.int .i64 x0] 107:=zG w' (hw'.le (h:=inferInstance))
   show w'.cell? ⟨b16,j,none⟩=some u
   rw [B.cell]
   exact hj
  have h12':=h12.up (s:=(r.or τ).or (Go.Sh.one b16 [.int .i64 q0,.int .i64 x0] 107))
  have hA':=hA.up (σ:=(r.or τ).or (Go.Sh.one b16 [.int .i64 q0,.int .i64 x0] 107))
  have hx':=hx2.up (s:=(r.or τ).or (Go.Sh.one b16 [.int .i64 q0,.int .i64 x0] 107))
  have hbef':=hbef.up (s:=(r.or τ).or (Go.Sh.one b16 [.int .i64 q0,.int .i64 x0] 107))
  have leυ : Le (r.or τ) ((r.or τ).or (Go.Sh.one b16 [.int .i64 q0,.int .i64 x0] 107)):=inferInstance
  generalize (r.or τ).or (Go.Sh.one b16 [.int .i64 q0,.int .i64 x0] 107)=υ at S h16 h12' hA' hx' hbef' leυ
  clear hel hslk hxk
  obtain ⟨bb,ob,ub,hpb,_,hcb,hub⟩:=Vo hbef' (i:=q0.toNat) (by omega)
  cases hpb
  have hBg : B.getD q0.toNat []=B[q0.toNat]'(by omega):=by rw [List.getD_eq_getElem?_getD,List.getElem?_eq_getElem (by omega)];rfl
  have hBm:=fun x=>hBend q0 x hq0N
  have hBq:=hBf q0 hq0N
  rw [hBg] at hBm hBq
  generalize B[q0.toNat]'(by omega)=A at hub hBm hBq
  obtain ⟨pA,cA,rfl,_,_⟩:=hub.sl.shape
  refine gg_ ?_
  refine zg (S.at (h16 0 _ rfl)) ?_
  refine gg_ ?_
  refine zg (S.at hcb) ?_
  refine gg_ ?_
  refine zi (ι:=Nat × Value × (yX × List (Int × Int))) (fun i=>[.int .i64 (i.1 : Nat)]) (fun i w'=>i.1≤A.length∧Wk g (fun _ _=>False) (fun y p q=>y=x0∧p=q0∧q ∈ A.drop i.1) i.2.2.1 i.2.2.2∧i.2.2.2.length+xw i.2.2.1=T'.length+xw R∧StX noX w υ w' (lwL b11 bs i.2.1 i.2.2)) (fun i=>A.length - i.1) (0,.slice (some ⟨bk,ok,none⟩) T'.length ck,(R,T')) rfl ⟨Nat.zero_le _,hWp.mono (fun _ _ _ _ _ h=>h.elim) (fun y p q _ _ _ _ h=>.inl ⟨h.1,h.2.1,(hBm q).2 h.2.2⟩),rfl,S⟩ ?_
  repeat clear S
  rintro ⟨k,vj,st⟩ d w51 ⟨hk,hWi,hsum,S⟩ K48 hK48
  simp only at hk hWi hsum S ⊢
  rw [List.getD_cons_zero]
  refine gg_ ?_
  refine zk (fun hltk=>?_) (fun hgek=>?_)
  ·have hltk : k<A.length:=by omega
   obtain ⟨bA,oA,hpA,_,gA⟩:=yr hub.sl hltk
   obtain ⟨hq1N,hq1n⟩:=acw.1 ((hBm _).1 (List.getElem_mem hltk))
   have hdr : A.drop k=A[k]::A.drop (k+1):=List.drop_eq_getElem_cons hltk
   generalize A[k]=q1 at gA hq1N hq1n hdr
   have q10:=hq1N.1;have q11:=hq1N.2
   rw [hn2] at q11
   obtain ⟨p1,hp1,hpm1,hue1,hee1⟩:=Qw hq1N
   refine zp (fun _ w'=>∃ (vj : Value) (st : yX × List (Int × Int)),Wk g (fun _ _=>False) (fun y p q=>y=x0∧p=q0∧q ∈ A.drop (k+1)) st.1 st.2∧st.2.length+xw st.1=T'.length+xw R∧StX noX w υ w' (lwL b11 bs vj st)) (fun K52 hK52=>?_) ?_
   ·cases hpA
    refine gg_ ?_
    refine zg (by rw [Int.toNat_natCast];exact S.at gA) ?_
    refine kI (by kernel_rfl) ?_
    show zd _ _ #[.pointer (some ⟨bl,0,none⟩),.int .i64 q1] _ _
    refine Zk S.holds hx' q10 hp1 (hF.args p1 hpm1) fun w56 e56=>⟨NC.of_ext e56,?_⟩
    have S:=S.go e56
    refine gS_ ?_
    refine zf (c:=decide ((yh p1).getD 0=x0)) (fun _ K2 hK2=>?_) ?_
    ·refine gg_ ?_
     refine zg (S.at (h16 1 _ rfl)) ?_
     refine gg_ ?_
     exact hK2
    have hcE : ((yh p1).isSome&&decide ((yh p1).getD 0=x0))=decide (yh p1=some x0):=by cases yh p1<;>simp
    rw [hcE]
    refine zk (fun hE=>?_) (fun hE=>?_)
    ·refine hK52 _ _ ⟨vj,st,hWi.mono (fun _ _ _ _ _ h=>h.elim) (fun y p q _ _ _ hne h=>?_),hsum,S⟩
     obtain ⟨rfl,rfl,hm⟩:=h
     rw [hdr] at hm
     rcases List.mem_cons.1 hm with rfl|hm
     ·exact absurd (show ZO g q=some y by rw [hee1];exact hE) hne
     ·exact .inl ⟨rfl,rfl,hm⟩
    ·have hne : ¬ z7 g x0 q1:=fun h=>hE (by rw [← hee1];exact h)
     have hWl:=hWi.len
     have x00:=hxL.1;have x01:=hxL.2
     obtain ⟨hW2,hm2,hk2,hs2⟩:=hWi.add hxL hq1N (.step hq1N hne hq1n hlv)
     have hs2 : (kF st (q1,x0)).2.length+xw (kF st (q1,x0)).1=st.2.length+xw st.1:=hs2
     rw [hTn] at hoff
     refine zg (S.at h12') ?_
     refine gg_ ?_
     refine zg (S.at (h16 1 _ rfl)) ?_
     refine ajK (by kernel_rfl) ?_
     refine abU S hA' ⟨x00,by omega⟩ ⟨q10,by omega⟩ (by omega) (by rw [hWi.rlen x0 hxL,hn2]) (by omega) fun vl' w' nc R2=>⟨nc,?_⟩
     refine hK52 _ _ ⟨vl',kF st (q1,x0),hW2.mono (fun _ _ _ _ _ h=>h.elim) (fun y p q _ _ _ _ h=>?_),by omega,S.whole R2 fun _ h=>h⟩
     obtain ⟨rfl,rfl,hm⟩:=h
     rw [hdr] at hm
     rcases List.mem_cons.1 hm with rfl|hm
     ·exact .inr hm2
     ·exact .inl ⟨rfl,rfl,hm⟩
   rintro _ w55 ⟨vj',st',hW',hsum',S'⟩ d
   refine gg_ ?_
   exact hK48 (k+1,vj',st') _ ⟨hltk,hW',hsum',S'⟩ (by show A.length - (k+1)<A.length - k;omega)
  ·have hke : k=A.length:=by omega
   subst hke
   refine hK41 (vj,st) _ ⟨hWi.mono (fun _ _ _ _ _ h=>h.elim) (fun y p q _ _ _ _ h=>by have:=h.2.2;rw [List.drop_length] at this;cases this),by show st.2.length+xw st.1≤1000000;rw [hTn] at hoff;omega,S.to _⟩ (by show st.2.length+xw st.1<(T' ++ [(q0,x0)]).length+xw R;omega)
 ·have hT : T = []:=List.eq_nil_of_length_eq_zero (by omega)
  subst hT
  have hRe : R=lvR g:=akh hF.net.ok hW
  subst hRe
  refine zg (S.at hA.hd) ?_
  intro w62 e62
  have S:=S.to (r.or ρ)
  have S:=(S.shut e62).tl.tl
  have hRL:=qS (g:=g)
  obtain ⟨s,S,has,hBs⟩:=StX.frzCells (e:=4) (C:=bls) (bs:=bs) (R:=lvR g) (L:=[]) (by omega) (by rw [List.append_nil];exact S)
  have S:=S.reGh
  have has : Above w s:=fun b o ho=>(has b o ho).resolve_right id
  refine h _ (ρ.or s) _ S.ext (StX.newOf (q:=ρ.or s) S (ha.or' has)) ⟨some ⟨br,0,none⟩,bs.length,by rw [hRL,hie],fun h=>(by cases h),by omega,fun j hj=>?_⟩
  have hjb : j<bs.length:=by omega
  refine ⟨[vh q bs[j]],rfl,fun k u hk=>?_,vh q bs[j],rfl,?_,?_⟩
  ·cases k with
   |zero=>
    cases hk
    refine ⟨br,0,rfl,?_⟩
    have:=(hA0.at' j hjb).up (s:=ρ.or s)
    simpa using this
   |succ k=>cases hk
  ·have hm : ((lvR g)[j]).length=q:=by rw [qC,xM,hn2]
   have:=Xo.sl (r:=s) (p:=some ⟨bs[j],0,none⟩) (cap:=q) (by simp) (by omega) (fun w' hw'=>Sl.blk (hBs j hjb hj w' hw')) (by decide) ⟨_,S.holds.le (h:=inferInstance)⟩
   rw [hm] at this
   exact this.cells
  ·have hm : ((lvR g)[j]).length=q:=by rw [qC,xM,hn2]
   rw [hm,maxLen];omega
end Go.Proofs
end
section
namespace Go.Proofs
open Go.Sh Go.RowKit
set_option maxRecDepth 100000
set_option linter.unusedSimpArgs false
set_option linter.unusedVariables false
theorem Vr {r : Gh} {p : Option Addr} {k cap : Nat} {R : yX} (h : SlG 1 r (RowBC r) (.slice p k cap) R) {i : Nat} (hi : i<R.length) : ∃ b off v,p=some ⟨b,off,none⟩∧k=R.length∧(Ob r fun w=>w.cell? ⟨b,off+i,none⟩=some v)∧SlB 1 r JP v R[i]:=by
 obtain ⟨b,off,c,hE,hc,hcc,hcl⟩:=h.get (by decide) hi
 obtain ⟨v,rfl,hv⟩:=hcc
 exact ⟨b,off,v,hE,h.len,by have:=hcl 0 v rfl;simpa using this,hv⟩
theorem Qx {u : UnD} {n q : Int} {g : GrD} (hE : fnE u n=0) (hnu : netU u n=zh g) : okQ u n q=decide (isN (zh g) q):=by rw [okQ,hE,hnu];simp
set_option maxHeartbeats 1000000 in
theorem J1 {u : UnD} {n q : Int} {v : Value} {w : World} {r : Gh} {K : Value→World→Prop} (hr : Holds r w) (hu : UnG r v u)
  (h : ∀ v' s w',Ext w w'→New w s w'→SlG 1 s zU v' (if okQ u n q=true then (match u.fs[n.toNat]? with|some g=>ahf g q|none=>[]) else [])→K (.tuple #[v',.int .i64 (if okQ u n q=true then 0 else 2)]) w') : zd Tryz.prog Tryz.Xp #[v,.int .i64 n,.int .i64 q] w K:=by
 refine Tryz.ahj ?_
 unfold Tryz.adf
 have hu0:=hu
 obtain ⟨p0,cap0,vf,rfl,_,_,hst,hsl,hfn⟩:=hu
 obtain ⟨qf,capf,rfl,_,_⟩:=hfn.sl.shape
 have S:=St.start hr
 refine S.box fun b3 w1 S=>?_
 have S : StX noX w r w1 [.cell b3 [.slice p0 u.ss.length cap0,.slice qf u.fs.length capf,.int .i64 u.mn] 25]:=S
 refine S.ldB (b:=b3) ?_ rfl
 refine jR S.holds hu0 fun vx s w2 e2 n2 hg hz=>?_
 obtain ⟨S,_,_⟩:=S.tell e2 n2
 refine gS_ ?_
 refine zj (c:=!okQ u n q) (fun hb K2 hK2=>?_) ?_
 ·have hE : fnE u n=0:=by simpa using hb
  obtain ⟨g,hgi,hnu,hx⟩:=hg hE
  refine vd S.holds hx ?_
  refine gp_ ?_
  rw [Qx hE hnu] at hK2
  exact hK2
 refine c_b (fun hb=>?_) (fun hb=>?_)
 ·have hok : okQ u n q=false:=by
   by_cases hE : fnE u n=0
   ·simpa [hE] using hb
   ·rw [okQ,decide_eq_true hE];rfl
  rw [hok] at h
  exact h _ nothing _ S.ext New.nothing SlG.nil
 simp only [Bool.or_eq_false_iff,decide_eq_false_iff_not,Decidable.not_not,Bool.not_eq_false'] at hb
 obtain ⟨hE,hok⟩:=hb
 obtain ⟨g,hgi,hnu,hx⟩:=hg hE
 have hqN:=(JZ hok).2
 rw [hnu] at hqN
 have q0:=hqN.1;have q1:=hqN.2
 have hF:=kH hE hgi
 have hmf:=hF.loc.few
 simp only [hok,if_true,hgi] at h
 have S:=S.tl
 rw [hE]
 refine V7 S.holds hx hF fun vr s5 w5 e5 n5 hR=>?_
 obtain ⟨S,_,_⟩:=S.tell e5 n5
 obtain ⟨pr,cr,rfl,_,_⟩:=hR.shape
 have hRl:=qS (g:=g)
 have hcl:=afi (g:=g) (q:=q)
 have S:=S.ownNil 3 1
 have S : StX noX w ((r.or s).or s5) w5 [.row (.slice none 0 0) 3 1 (mkd ((xx g q).take 0)).length (ints (mkd ((xx g q).take 0)))]:=S
 refine gg_ ?_
 refine zi (ι:=Nat × Value) (fun i=>[i.2,.int .i64 (i.1 : Nat)]) (fun i w'=>i.1≤(lvR g).length∧StX noX w ((r.or s).or s5) w' [.row i.2 3 1 (mkd ((xx g q).take i.1)).length (ints (mkd ((xx g q).take i.1)))]) (fun i=>(lvR g).length - i.1) (0,.slice none 0 0) rfl ⟨Nat.zero_le _,S⟩ ?_
 repeat clear S
 rintro ⟨i,vl⟩ d w12 ⟨hi,S⟩ K9 hK9
 simp only at hi S ⊢
 simp only [List.getD_cons_zero,List.getD_cons_succ]
 refine gg_ ?_
 refine zk (fun hlt=>?_) (fun hge=>?_)
 ·have hlt : i<(lvR g).length:=by omega
  have hic : i<(xx g q).length:=by omega
  obtain ⟨bi,oi,vi,hpi,_,hci,hvi⟩:=Vr hR hlt
  have hsn:=vV hic
  have hcm : (xx g q)[i]=mk' (lvR g)[i] q:=by rw [qC];simp [xx]
  have hml : (lvR g)[i].length=(zh g).length:=by rw [qC,xM]
  generalize (lvR g)[i]=m at hvi hcm hml
  obtain ⟨pm,cm,rfl,_,_⟩:=hvi.sl.shape
  obtain ⟨bm,om,hpm,_,gm⟩:=Vn hvi.sl (i:=q.toNat) (by omega)
  have hmq : m[q.toNat]'(by omega)=mk' m q:=by rw [mk',List.getD_eq_getElem?_getD,List.getElem?_eq_getElem (by omega)];rfl
  rw [hmq,← hcm] at gm
  have hfl : (mkd ((xx g q).take i)).length≤512:=by
   have:=Yf (m:=(xx g q).take i)
   rw [List.length_take] at this
   omega
  rw [hpi]
  refine zp (fun x w'=>∃ vl',x = [vl']∧StX noX w ((r.or s).or s5) w' [.row vl' 3 1 (mkd ((xx g q).take (i+1))).length (ints (mkd ((xx g q).take (i+1))))]) (fun K13 hK13=>?_) ?_
  ·refine gg_ ?_
   refine zg (by rw [Int.toNat_natCast];exact S.at hci) ?_
   rw [hpm]
   refine gg_ ?_
   refine zg (S.at gm) ?_
   rw [hsn] at hK13
   refine c_b (fun hb=>?_) (fun hb=>?_)
   ·rw [if_pos hb] at hK13
    refine S.lit (e:=3) (cs:=[.int .i64 (i : Nat)]) (by kernel_rfl) fun b9 w13 S=>?_
    refine S.ap (v:=vl) (m':=1) (Sl.blk (S.blk b9)) (fun v4 w14 S=>?_) (by omega)
    refine hK13 _ _ ⟨v4,rfl,?_⟩
    rw [List.length_append,xU]
    exact S.drop b9
   ·rw [if_neg (by rw [hb];decide),List.append_nil] at hK13
    exact hK13 _ _ ⟨vl,rfl,S⟩
  rintro _ w16 ⟨vl',rfl,S⟩ d
  rw [List.getD_cons_zero]
  refine gg_ ?_
  exact hK9 (i+1,vl') _ ⟨hlt,S⟩ (by show (lvR g).length - (i+1)<(lvR g).length - i;omega)
 ·rw [show i=(xx g q).length by omega,List.take_length] at S
  obtain ⟨s2,T,hs,_,hab⟩:=S.doneRow yO (by decide) rfl
  exact h _ s2 _ T.ext (StX.newOf (q:=s2) T fun b o ho=>(hab b o ho).resolve_right id) hs
end Go.Proofs
end
section
namespace Go.Proofs
open Go.Sh Go.RowKit Go.BM
set_option maxRecDepth 100000
set_option linter.unusedSimpArgs false
set_option linter.unusedVariables false
abbrev wcs (ws : List (BitVec 64)) : List Value:=ws.map u64
theorem aho {n : Nat} (hn : n≤1032) {X : Nat→Prop} {w0 w : World} {r : Gh} {L : List Asr} {K : Value→World→Prop} (S : StX X w0 r w L)
  (h : ∀ b w',StX X w0 r w' (.cell b (wcs (List.replicate ((n+63) / 64) 0#64)) 53::L)→K (.tuple #[.agg #[.int .i64 n,.slice (some ⟨b,0,none⟩) ((n+63) / 64) ((n+63) / 64)],.int .i64 0]) w') : zd Tryz.prog Tryz.Qu #[.int .i64 n] w K:=by
 refine Tryz.af4 ?_
 unfold Tryz.abQ
 refine S.al fun b2 w1 S=>?_
 refine gp_ ?_
 refine zj (c:=decide (1032<(n : Int))) (fun _ K2 hK2=>by refine gg_ ?_;exact hK2) ?_
 refine c_f (by simp;omega) ?_
 refine gg_ ?_
 refine S.mkS (by omega) (by omega) fun b w2 S=>?_
 rw [show (((n : Int)+63) / 64).toNat=(n+63) / 64 by omega] at S ⊢
 have S:=(show StX X w0 r w2 (.cell b (wcs (List.replicate ((n+63) / 64) 0#64)) 53 :: .cell b2 [.int .i64 0,.slice none 0 0] 49::L) by
  rw [wcs,List.map_replicate];exact S)
 refine zy (cs:=#[.int .i64 n,.slice (some ⟨b,0,none⟩) ((n+63) / 64) ((n+63) / 64)]) (by kernel_rfl) ?_
 refine S.stB (b:=b2) fun w3 S=>?_
 refine S.ceB (b:=b2) ?_ rfl
 exact h _ _ S.d2
abbrev vv (bs : List Nat) (R : yX) : List Asr:=List.zipWith (fun b m=>Asr.cell b (wcs (yj m)) 53) bs R
abbrev rwL (n b : Nat) : List Value:=[.int .i64 n,.slice (some ⟨b,0,none⟩) ((n+63) / 64) ((n+63) / 64)]
def ZT (n : Nat) (bs : List Nat) : List Value:=bs.flatMap fun b=>rwL n b
theorem aii {n : Nat} {bs : List Nat} {b : Nat} : ZT n (bs ++ [b])=ZT n bs++rwL n b:=by rw [ZT,List.flatMap_append];simp [ZT]
def ahp (n : Nat) (c : List Value) (b : Nat) : Prop:=c=rwL n b
theorem afw {n : Nat} : ∀ {bs : List Nat},RowOf 2 (ahp n) (ZT n bs) bs
 |[]=>RowOf.nil
 |b::bs=>by
  have:=yH (c:=rwL n b) (R:=ahp n) (x:=b) rfl rfl (afw (n:=n) (bs:=bs))
  rw [ZT,List.flatMap_cons]
  exact this
def ja (m : List Bool) (j : Nat) : List (BitVec 64):=xJ (fun x y=>x ||| y) (List.replicate ((m.length+63) / 64) 0#64) (mkd (m.take j))
theorem ajt {m : List Bool} {j : Nat} : (ja m j).length=(m.length+63) / 64:=by rw [ja,vK,List.length_replicate]
theorem aij {m : List Bool} {j : Nat} (hj : j<m.length) (hb : m[j]=true) : ja m (j+1)=(ja m j).set (j / 64) ((ja m j).getD (j / 64) 0 ||| (BitVec.ofInt 64 1 <<< (j % 64))):=by
 rw [ja,vV hj,if_pos hb,aem]
 rfl
theorem aik {m : List Bool} {j : Nat} (hj : j<m.length) (hb : m[j]=false) : ja m (j+1)=ja m j:=by
 rw [ja,vV hj,if_neg (by rw [hb];decide),List.append_nil];rfl
set_option maxHeartbeats 2000000 in
theorem adj {u : UnD} {n : Int} {v : Value} {w : World} {r : Gh} {K : Value→World→Prop} (hr : Holds r w) (hu : UnG r v u)
  (h : ∀ v' bs s w',Ext w w'→(fnE u n=0→∃ g,u.fs[n.toNat]? = some g∧netU u n=zh g∧bs.length=g.tys.length∧Above w s∧StX noX w (r.or s) w' (vv bs (lvR g))∧SlG 2 s (ahp (zh g).length) v' bs)→(fnE u n≠0→v' = .slice none 0 0)→K (.tuple #[v',.int .i64 (fnE u n)]) w') : zd Tryz.prog Tryz.jQ #[v,.int .i64 n] w K:=by
 refine Tryz.ahi ?_
 unfold Tryz.ade
 have hu0:=hu
 obtain ⟨p0,cap0,vf,rfl,_,_,hst,hsl,hfn⟩:=hu
 obtain ⟨qf,capf,rfl,_,_⟩:=hfn.sl.shape
 have S:=St.start hr
 refine S.box fun b3 w1 S=>?_
 have S : StX noX w r w1 [.cell b3 [.slice p0 u.ss.length cap0,.slice qf u.fs.length capf,.int .i64 u.mn] 25]:=S
 refine S.ldB (b:=b3) ?_ rfl
 refine jR S.holds hu0 fun vx s w2 e2 n2 hg hz=>?_
 obtain ⟨S,_,_⟩:=S.tell e2 n2
 refine gS_ ?_
 refine zk (fun hE=>?_) (fun hE=>?_)
 ·exact h _ [] nothing _ S.ext (fun h=>absurd h hE) fun _=>rfl
 have hE : fnE u n=0:=Decidable.not_not.1 hE
 obtain ⟨g,hgi,hnu,hx⟩:=hg hE
 have hF:=kH hE hgi
 have hmf:=hF.loc.few
 have hnf:=hF.net.few
 have hnp:=hF.net.pos
 rw [hE] at h
 have S:=S.tl
 refine V7 S.holds hx hF fun vr s5 w5 e5 n5 hR=>?_
 obtain ⟨S,_,_⟩:=S.tell e5 n5
 obtain ⟨pr,cr,rfl,_,_⟩:=hR.shape
 have hRl:=qS (g:=g)
 have S:=S.ownNil 49 2
 generalize hnn : (zh g).length=nn at *
 have S : StX noX w ((r.or s).or s5) w5 (.row (.slice none 0 0) 49 2 ([] : List Nat).length (ZT nn [])::vv [] ((lvR g).take ([] : List Nat).length)):=S
 refine gg_ ?_
 refine zi (ι:=Value × List Nat) (fun i=>[i.1,.int .i64 (i.2.length : Nat)]) (fun i w'=>i.2.length≤(lvR g).length∧StX noX w ((r.or s).or s5) w' (.row i.1 49 2 i.2.length (ZT nn i.2)::vv i.2 ((lvR g).take i.2.length))) (fun i=>(lvR g).length - i.2.length) (.slice none 0 0,[]) rfl ⟨Nat.zero_le _,S⟩ ?_
 repeat clear S
 rintro ⟨vo,bs⟩ d w7 ⟨hi,S⟩ K4 hK4
 simp only at hi S ⊢
 simp only [List.getD_cons_zero,List.getD_cons_succ]
 refine gg_ ?_
 refine zk (fun hlt=>?_) (fun hge=>?_)
 ·have hlt : bs.length<(lvR g).length:=by omega
  obtain ⟨bi,oi,vi,hpi,_,hci,hvi⟩:=Vr hR hlt
  have htk : (lvR g).take (bs.length+1)=(lvR g).take bs.length ++ [(lvR g)[bs.length]]:=List.take_succ_eq_append_getElem hlt
  have hml : (lvR g)[bs.length].length=nn:=by rw [qC,xM,hnn]
  generalize (lvR g)[bs.length]=m at hvi hml htk
  obtain ⟨pm,cm,rfl,_,_⟩:=hvi.sl.shape
  rw [hpi]
  refine gg_ ?_
  refine zg (by rw [Int.toNat_natCast];exact S.at hci) ?_
  refine gg_ ?_
  refine aho (by omega) S fun bw w8 S=>?_
  refine gS_ ?_
  refine S.al fun b11 w9 S=>?_
  refine S.stB (b:=b11) fun w10 S=>?_
  have S : StX noX w ((r.or s).or s5) w10 (.cell b11 (rwL m.length bw) 49 :: .cell bw (wcs (ja m 0)) 53 :: .row vo 49 2 bs.length (ZT nn bs)::vv bs ((lvR g).take bs.length)):=S
  refine gg_ ?_
  refine zi (ι:=Nat) (fun i=>[.int .i64 (i : Nat)]) (fun j w'=>j≤m.length∧StX noX w ((r.or s).or s5) w' (.cell b11 (rwL m.length bw) 49 :: .cell bw (wcs (ja m j)) 53 :: .row vo 49 2 bs.length (ZT nn bs)::vv bs ((lvR g).take bs.length))) (fun j=>m.length - j) 0 rfl ⟨Nat.zero_le _,S⟩ ?_
  repeat clear S
  rintro j d w14 ⟨hj,S⟩ K11 hK11
  rw [List.getD_cons_zero]
  refine gg_ ?_
  refine zk (fun hltj=>?_) (fun hgej=>?_)
  ·have hltj : j<m.length:=by omega
   obtain ⟨bm,om,hpm,_,gm⟩:=Vn hvi.sl hltj
   have hjw : j / 64<(ja m j).length:=by rw [ajt];omega
   refine zp (fun _ w'=>StX noX w ((r.or s).or s5) w' (.cell b11 (rwL m.length bw) 49 :: .cell bw (wcs (ja m (j+1))) 53 :: .row vo 49 2 bs.length (ZT nn bs)::vv bs ((lvR g).take bs.length))) (fun K15 hK15=>?_) ?_
   ·rw [hpm]
    refine gg_ ?_
    refine zg (by rw [Int.toNat_natCast];exact S.at gm) ?_
    refine c_b (fun hb=>?_) (fun hb=>?_)
    ·have S:=S.go (Ext.drew _)
     rw [aij hltj hb] at hK15
     refine gg_ ?_
     refine S.ld (b:=bw) (v:=u64 ((ja m j).getD (j / 64) 0)) ?_ (by rw [show 0+((j : Int) / 64).toNat=j / 64 by omega,wcs,List.getElem?_map,List.getD_eq_getElem?_getD,List.getElem?_eq_getElem hjw];rfl)
     refine gg_ ?_
     rw [show ((j : Int) % 64).toNat=j % 64 by omega]
     refine S.st (b:=bw) (fun w19 S=>?_) (by rw [wcs,List.length_map];omega)
     refine hK15 [] _ ?_
     rw [show 0+((j : Int) / 64).toNat=j / 64 by omega] at S
     rw [wcs,List.map_set]
     exact S
    ·rw [aik hltj hb] at hK15
     exact hK15 [] _ S
   rintro _ w18 S d
   refine gg_ ?_
   exact hK11 (j+1) _ ⟨hltj,S⟩ (by omega)
  ·rw [show j=m.length by omega] at S
   have hE : ja m m.length=yj m:=by rw [ja,List.take_length];rfl
   rw [hE] at S
   refine S.ldB (b:=b11) ?_ rfl
   refine S.lit (e:=49) (cs:=rwL m.length bw) (by kernel_rfl) fun b9 w20 S=>?_
   refine S.ap (v:=vo) (m':=1) (Sl.blk (S.blk b9)) (fun v4 w21 S=>?_) (by omega)
   have S:=S.drop b9
   have S:=S.drop b11
   refine gg_ ?_
   have e : ((bs.length : Int)+1)=((bs ++ [bw]).length : Nat):=by simp
   rw [e]
   refine hK4 (v4,bs ++ [bw]) _ ⟨by show (bs ++ [bw]).length≤_;simp;omega,?_⟩ (by show (lvR g).length - (bs ++ [bw]).length<(lvR g).length - bs.length;simp;omega)
   show StX noX w ((r.or s).or s5) w21 (.row v4 49 2 (bs ++ [bw]).length (ZT nn (bs ++ [bw]))::vv (bs ++ [bw]) ((lvR g).take (bs ++ [bw]).length))
   have e2 : vv (bs ++ [bw]) ((lvR g).take (bs ++ [bw]).length)=vv bs ((lvR g).take bs.length) ++ [Asr.cell bw (wcs (yj m)) 53]:=by
    rw [List.length_append,List.length_singleton,htk,vv,List.zipWith_append (by rw [List.length_take];omega)];rfl
   rw [e2,aii,List.length_append,List.length_singleton]
   rw [hml] at S
   exact S.permO ((List.perm_append_singleton _ (_::_)).trans (.refl _))
 ·have hbe : bs.length=(lvR g).length:=by omega
  rw [hbe,List.take_length] at S
  rw [← hbe] at S
  obtain ⟨s6,T,hs,_,hab⟩:=S.doneRow (afw (n:=nn) (bs:=bs)) (by decide) rfl
  exact h _ bs s6 _ T.ext (fun _=>⟨g,hgi,hnu,by omega,fun b o ho=>(hab b o ho).resolve_right id,T.to _,by rw [hnn];exact hs⟩) fun h=>absurd rfl h
end Go.Proofs
end
section
namespace Go.Sh
section
variable {w : World} {i f l e x : Bool} {A1 : (List Value→World→Prop)→Prop} {A2 A4 A5 : (List Value→World→Prop)→World→Prop} {Z : Value→World→Prop}
theorem alF (R : World→Prop) (h1 : i=true→∀ K : List Value→World→Prop,K [.bool f] w→A1 K) (h2 : i=true→f=false→∀ K : List Value→World→Prop,K [.bool l] w→A2 K w)
  (h4 : i=true→f=false→l=false→∀ K : List Value→World→Prop,K [.bool e] w→A4 K w) (h5 : i=true→f=false→l=false→e=true→∀ K : List Value→World→Prop,(∀ w',R w'→K [.bool x] w')→A5 K w)
  (hR : R w) (hZ : ∀ w',R w'→Z (.bool (i&&(f||(l||(e&&x))))) w') :
  za (fun K=>gIf (.bool i) true (A1 K) (K [undef] w)) fun s37 _d w39=>
  za (fun K=>gIf (s37.getD 0 undef) false (A2 K w39) (K [undef] w39)) fun s41 _d w43=>
  za (fun K=>gIf (.bool i) true (zb (s37.getD 0 undef) (.bool true) (s41.getD 0 undef) fun t=>K [t] w43) (K [undef] w43)) fun s45 _d w47=>
  za (fun K=>gIf (s45.getD 0 undef) false (A4 K w47) (K [undef] w47)) fun s49 _d w51=>
  za (fun K=>gIf (s49.getD 0 undef) true (A5 K w51) (K [undef] w51)) fun s53 _d w55=>
  za (fun K=>gIf (s45.getD 0 undef) false (zb (s49.getD 0 undef) (s53.getD 0 undef) (.bool false) fun t=>K [t] w55) (K [undef] w55)) fun s58 _d w60=>
  za (fun K=>gIf (.bool i) true (zb (s45.getD 0 undef) (.bool true) (s58.getD 0 undef) fun t=>K [t] w60) (K [undef] w60)) fun s62 _d w64=>
  zb (.bool i) (s62.getD 0 undef) (.bool false) fun t=>Z t w64:=by
 cases i with
 |false=>
  intro K hK;refine hK _ _ fun _=>?_
  intro K hK;refine hK _ _ fun _=>?_
  intro K hK;refine hK _ _ fun _=>?_
  intro K hK;refine hK _ _ fun _=>?_
  intro K hK;refine hK _ _ fun _=>?_
  intro K hK;refine hK _ _ fun _=>?_
  intro K hK;refine hK _ _ fun _=>?_
  exact ⟨false,rfl,hZ _ hR⟩
 |true=>
 intro K hK;refine h1 rfl _ (hK _ _ fun _=>?_);clear hK K
 cases f with
 |true=>
  intro K hK;refine hK _ _ fun _=>?_
  intro K hK;refine ⟨true,rfl,hK _ _ fun _=>?_⟩
  intro K hK;refine hK _ _ fun _=>?_
  intro K hK;refine hK _ _ fun _=>?_
  intro K hK;refine hK _ _ fun _=>?_
  intro K hK;refine ⟨true,rfl,hK _ _ fun _=>?_⟩
  exact ⟨true,rfl,hZ _ hR⟩
 |false=>
 intro K hK;refine h2 rfl rfl _ (hK _ _ fun _=>?_);clear hK K
 intro K hK;refine ⟨false,rfl,hK _ _ fun _=>?_⟩;clear hK K
 cases l with
 |true=>
  intro K hK;refine hK _ _ fun _=>?_
  intro K hK;refine hK _ _ fun _=>?_
  intro K hK;refine hK _ _ fun _=>?_
  intro K hK;refine ⟨true,rfl,hK _ _ fun _=>?_⟩
  exact ⟨true,rfl,hZ _ hR⟩
 |false=>
 intro K hK;refine h4 rfl rfl rfl _ (hK _ _ fun _=>?_);clear hK K
 cases e with
 |false=>
  intro K hK;refine hK _ _ fun _=>?_
  intro K hK;refine ⟨false,rfl,hK _ _ fun _=>?_⟩
  intro K hK;refine ⟨false,rfl,hK _ _ fun _=>?_⟩
  exact ⟨true,rfl,hZ _ hR⟩
 |true=>
 intro K hK;refine h5 rfl rfl rfl rfl _ fun w' hw'=>hK _ _ fun _=>?_;clear hK K
 intro K hK;refine ⟨true,rfl,hK _ _ fun _=>?_⟩;clear hK K
 intro K hK;refine ⟨false,rfl,hK _ _ fun _=>?_⟩;clear hK K
 exact ⟨true,rfl,hZ _ hw'⟩
end
end Go.Sh
end
section
namespace Go.Proofs
open Go.Sh Go.RowKit
set_option maxRecDepth 100000
set_option linter.unusedSimpArgs false
set_option linter.unusedVariables false
theorem aaN : ∀ {i : Nat} {a b : List Int},a.take i=b.take i→i≤a.length→i≤b.length→ltB a b=ltB (a.drop i) (b.drop i)
 |0,_,_,_,_,_=>rfl
 |i+1,[],b,h,h1,h2=>by simp at h1
 |i+1,x::a,[],h,h1,h2=>by simp at h2
 |i+1,x::a,y::b,h,h1,h2=>by
  rw [List.take_succ_cons,List.take_succ_cons] at h
  have hx:=(List.cons.inj h).1
  subst hx
  rw [List.drop_succ_cons,List.drop_succ_cons,← aaN (List.cons.inj h).2 (by simpa using h1) (by simpa using h2),ltB]
  simp
theorem ak7 {i : Nat} {a b : List Int} (h : a.take i=b.take i) (h1 : i<a.length) (h2 : i<b.length) (hne : a[i]≠b[i]) : ltB a b=decide (a[i]<b[i]):=by
 rw [aaN h (by omega) (by omega),List.drop_eq_getElem_cons h1,List.drop_eq_getElem_cons h2,ltB]
 simp [hne]
theorem akm {a b : List Int} (h : a.take a.length=b.take a.length) (hl : a.length=b.length) : ltB a b=false:=by
 rw [aaN h (Nat.le_refl _) (by omega),List.drop_length];rfl
theorem adV {a b : List Int} {va vb : Value} {w : World} {r : Gh} {K : Value→World→Prop} (hr : Holds r w) (ha : SlG 1 r zU va a) (hb : SlG 1 r zU vb b) (hl : a.length=b.length) (hf : a.length≤1000000)
  (h : ∀ c : Int,decide (c<0)=ltB a b→K (.int .i64 c) w) : zd Tryz.prog Tryz.xB #[va,vb] w K:=by
 refine Tryz.Yc ?_
 unfold Tryz.qB
 obtain ⟨pa,ca,rfl,_,_⟩:=ha.shape
 obtain ⟨pb,cb,rfl,_,_⟩:=hb.shape
 refine gp_ ?_
 refine zi (ι:=Nat) (fun i=>[.int .i64 (i : Nat)]) (fun i w'=>w'=w∧i≤a.length∧a.take i=b.take i) (fun i=>a.length - i) 0 rfl ⟨rfl,Nat.zero_le _,by simp⟩ ?_
 rintro i d w' ⟨rfl,hi,he⟩ K1 hK1
 rw [List.getD_cons_zero]
 refine gp_ ?_
 refine zk (fun hlt=>?_) (fun hge=>?_)
 ·have hlt : i<a.length:=by omega
  have hltb : i<b.length:=by omega
  obtain ⟨b1,o1,rfl,_,g1⟩:=yr ha hlt
  obtain ⟨b2,o2,rfl,_,g2⟩:=yr hb hltb
  refine gg_ ?_
  refine zg (by rw [Int.toNat_natCast];exact g1 _ hr) ?_
  refine gg_ ?_
  refine c_f (by simp;omega) ?_
  refine gg_ ?_
  refine zg (by rw [Int.toNat_natCast];exact g2 _ hr) ?_
  refine adB ?_
  refine gg_ ?_
  refine zk (fun hne=>?_) (fun hz=>?_)
  ·refine h _ ?_
   have hne' : a[i]≠b[i]:=fun e=>hne (ac6.2 e)
   rw [ak7 he hlt hltb hne',aeU]
   by_cases hx : a[i]<b[i]
   ·rw [if_pos hx,decide_eq_true hx];rfl
   ·rw [if_neg hx,if_pos (by omega),decide_eq_false hx];rfl
  ·have hz:=ac6.1 (Decidable.not_not.1 hz)
   refine gg_ ?_
   refine hK1 (i+1) _ ⟨rfl,hlt,?_⟩ (by omega)
   rw [List.take_succ_eq_append_getElem hlt,List.take_succ_eq_append_getElem hltb,he,hz]
 ·have hie : i=a.length:=by omega
  subst hie
  refine gg_ ?_
  refine c_f (by simp;omega) ?_
  exact h 0 (by rw [akm he hl];rfl)
def xI (P : Int→Prop) [DecidablePred P] (i : Nat) : List Int:=((List.range i).filter fun (p : Nat)=>decide (P (p : Int))).map Int.ofNat
theorem adk {P : Int→Prop} [DecidablePred P] {i : Nat} : xI P (i+1)=xI P i++(if P (i : Int) then [(i : Int)] else []):=by
 rw [xI,List.range_succ,List.filter_append,List.map_append]
 congr 1
 by_cases h : P (i : Int)
 ·rw [if_pos h,List.filter_cons_of_pos (by simpa using h)];rfl
 ·rw [if_neg h,List.filter_cons_of_neg (by simpa using h)];rfl
theorem afx {P : Int→Prop} [DecidablePred P] {i : Nat} : (xI P i).length≤i:=by
 rw [xI,List.length_map]
 exact Nat.le_trans (List.length_filter_le ..) (by simp)
theorem afy {g : GrD} {P : Int→Prop} [DecidablePred P] : xI P (zh g).length=ptsW g P:=rfl
theorem agC {g : GrD} {p : PtD} {q x : Int} {v : Value} {b1 b2 : Nat} {w : World} {r : Gh} {K : Value→World→Prop} (hr : Holds r w) (hx : LookG r v g)
  (h1 : Ob r fun w=>w.cell? ⟨b1,0,none⟩=some v) (h2 : Ob r fun w=>w.cell? ⟨b2,0,none⟩=some (.int .i64 x)) (hq : 0≤q) (hp : g.pts[q.toNat]? = some p) (hb : p.args.length≤1000)
  (h : ∀ w',Ext w w'→K (.bool (decide (yh p=some x))) w') : zH Tryz.prog (.func (.func Tryz.JS) #[] #[.pointer (some ⟨b1,0,none⟩),.pointer (some ⟨b2,0,none⟩)]) #[.int .i64 q] w K:=by
 refine abc (by kernel_rfl) ?_
 refine Tryz.adS ?_
 unfold Tryz.JV
 have S:=St.start hr
 refine zg (S.at h1) ?_
 refine Zk S.holds hx hq hp hb fun w2 e2=>?_
 have S:=S.go e2
 refine gS_ ?_
 refine zf (c:=decide ((yh p).getD 0=x)) (fun _ K2 hK2=>?_) ?_
 ·refine zg (S.at h2) ?_
  refine gg_ ?_
  exact hK2
 have:=h _ S.ext
 have hcE : ((yh p).isSome&&decide ((yh p).getD 0=x))=decide (yh p=some x):=by cases yh p<;>simp
 rwa [← hcE] at this
noncomputable def okY (u : UnD) (n x q : Int) : Bool:=okQ u n q&&(match u.fs[n.toNat]? with|some g=>decide (0≤x∧x<g.tys.length)|none=>false)
end Go.Proofs
end
section
namespace Go.Proofs
open Go.Sh Go.RowKit
set_option maxRecDepth 100000
set_option linter.unusedSimpArgs false
set_option linter.unusedVariables false
noncomputable def afz (u : UnD) (n x q : Int) : Option (List Int):=match u.fs[n.toNat]? with|some g=>afh g x q|none=>none
theorem ak8 {o : Option (List Int)} {w : List Int} : ((!o.isSome)||(decide (((w.length : Nat) : Int)<((o.getD []).length : Nat))||(decide (((w.length : Nat) : Int)=((o.getD []).length : Nat))&&ltB w (o.getD []))))=ahe o w:=by
 cases o with
 |none=>rfl
 |some v=>
  show (false||_)=_
  rw [Bool.false_or,ahe]
  simp only [Option.getD_some,Int.ofNat_lt,Int.natCast_inj]
theorem akn {u : UnD} {n a b : Int} {W : List Int} (h0 : fnE u n=0) (ha : isN (netU u n) a) (hb : isN (netU u n) b) (hW : ∀ x ∈ W,isN (netU u n) x) : okW u n a b W=true:=by
 rw [okW,h0,show decide ((0 : Int)≠0)=false from rfl,Bool.false_or,decide_eq_true hW,decide_eq_true (show ∀ x ∈ [a,b],isN (netU u n) x by simpa using ⟨ha,hb⟩)]
 rfl
theorem ail {n : zK} {W : List Int} {q : Int} {stop : Bool} {o : Option (List Int)} {p : Int} (h : (decide (p≠q)&&stop)=true) : vU n W q stop o p=o:=by
 rw [vU,if_pos (by simpa using h)]
theorem agD {n : zK} {W : List Int} {q : Int} {stop : Bool} {o : Option (List Int)} {p : Int} (h : (decide (p≠q)&&stop)=false) : vU n W q stop o p=if ((wayE n q p W).isSome&&ahe o ((wayE n q p W).getD []))=true then wayE n q p W else o:=by
 rw [vU,if_neg (fun hc=>by rw [hc.2,decide_eq_true hc.1] at h;cases h)]
 cases wayE n q p W with
 |none=>rfl
 |some w=>rfl
set_option maxHeartbeats 4000000 in
theorem ahq {u : UnD} {n x q : Int} {v : Value} {w : World} {r : Gh} {K : Value→World→Prop} (hr : Holds r w) (hu : UnG r v u)
  (h : ∀ v' s w',Ext w w'→New w s w'→SlG 1 s zU v' (if okY u n x q=true then (afz u n x q).getD [] else [])→K (.tuple #[v',.bool (okY u n x q&&(afz u n x q).isSome),.int .i64 (if okY u n x q=true then 0 else 2)]) w') : zd Tryz.prog Tryz.Qs #[v,.int .i64 n,.int .i64 x,.int .i64 q] w K:=by
 refine Tryz.af2 ?_
 unfold Tryz.abN
 have hu0:=hu
 obtain ⟨p0,cap0,vf,rfl,_,_,hst,hsl,hfn⟩:=hu
 obtain ⟨qf,capf,rfl,_,_⟩:=hfn.sl.shape
 have S:=St.start hr
 refine S.box fun b4 w1 S=>?_
 have S : StX noX w r w1 [.cell b4 [.slice p0 u.ss.length cap0,.slice qf u.fs.length capf,.int .i64 u.mn] 25]:=S
 refine S.box fun b6 w2 S=>?_
 refine S.ldB (b:=b4) ?_ rfl
 refine jR S.holds hu0 fun vx s w3 e3 n3 hg hz=>?_
 obtain ⟨S,_,as3⟩:=S.tell e3 n3
 refine gS_ ?_
 refine S.al fun b11 w4 S=>?_
 have hvx : vx.oneCell'=true:=by
  by_cases hE : fnE u n=0
  ·obtain ⟨g,_,_,hx⟩:=hg hE
   obtain ⟨b,_,_,_,_,_,_,_,_,_,rfl,_⟩:=hx
   rfl
  ·rw [hz hE];rfl
 refine S.st (b:=b11) (fun w5 S=>?_) (by simp) hvx
 have S : StX noX w (r.or s) w5 [.cell b11 [vx] 73,.cell b6 [.int .i64 x] 3,.cell b4 [.slice p0 u.ss.length cap0,.slice qf u.fs.length capf,.int .i64 u.mn] 25]:=S
 have S:=S.go (Ext.drew _)
 refine gp_ ?_
 refine zj (c:=!okQ u n q) (fun hb K2 hK2=>?_) ?_
 ·have hE : fnE u n=0:=by simpa using hb
  obtain ⟨g,hgi,hnu,hx⟩:=hg hE
  refine S.ld (b:=b11) ?_
  refine vd S.holds hx ?_
  refine gp_ ?_
  rw [Qx hE hnu] at hK2
  exact hK2
 refine zj (c:=decide (x<0)) (fun hb K2 hK2=>?_) ?_
 ·refine S.ld (b:=b6) ?_
  refine gg_ ?_
  exact hK2
 refine zj (c:=!(match u.fs[n.toNat]? with|some g=>decide (x<g.tys.length)|none=>false)) (fun hb K2 hK2=>?_) ?_
 ·have hE : fnE u n=0:=by
   simp only [Bool.or_eq_false_iff,decide_eq_false_iff_not,Decidable.not_not] at hb
   exact hb.1.1
  obtain ⟨g,hgi,hnu,hx⟩:=hg hE
  obtain ⟨bl,x1,x2,x3,x4,y1,y2,y3,y4,vn,rfl,hgg,hn,hc⟩:=hx
  refine S.ld (b:=b6) ?_
  refine S.ld (b:=b11) ?_
  refine gg_ ?_
  refine zg (S.at (hc 4 _ rfl)) ?_
  refine gg_ ?_
  have e : decide ((g.tys.length : Int)≤x) = !decide (x<g.tys.length):=by
   rw [← decide_not,decide_eq_decide];omega
  rw [e]
  simp only [hgi] at hK2
  exact hK2
 have hYe : okY u n x q = !(((decide (fnE u n≠0) || !okQ u n q)||decide (x<0)) || !(match u.fs[n.toNat]? with|some g=>decide (x<g.tys.length)|none=>false)):=by
  rw [okY]
  have h1 : okQ u n q=true→decide (fnE u n≠0)=false:=fun h=>by rw [(JZ h).1];rfl
  cases hq : okQ u n q with
  |false=>simp
  |true=>
   rw [h1 hq]
   cases u.fs[n.toNat]? with
   |none=>simp
   |some g=>
    rw [Bool.eq_iff_iff]
    simp
 refine c_b (fun hb=>?_) (fun hb=>?_)
 ·rw [hb] at hYe
  rw [hYe] at h
  exact h _ nothing _ S.ext New.nothing SlG.nil
 rw [hb] at hYe
 have hok : okQ u n q=true:=by
  simp only [Bool.or_eq_false_iff,Bool.not_eq_false'] at hb
  exact hb.1.1.2
 obtain ⟨hE,hqN⟩:=JZ hok
 obtain ⟨g,hgi,hnu,hx⟩:=hg hE
 rw [hnu] at hqN
 have hF:=kH hE hgi
 have hnf:=hF.net.few
 have hgl:=z6 (g:=g)
 have hWu : afz u n x q=afh g x q:=by rw [afz,hgi]
 rw [hYe,hWu] at h
 simp only [Bool.not_false,if_true,Bool.true_and] at h
 clear hYe hb hWu hz
 have hbl:=hx
 obtain ⟨bl,x1,x2,x3,x4,y1,y2,y3,y4,vn,rfl,hgg,hn,hc⟩:=hx
 have S:=S.frzAt b11
 have S:=S.frzAt b6
 have h11 : Ob (((r.or s).or (Go.Sh.one b11 [.pointer (some ⟨bl,0,none⟩)] 73)).or (Go.Sh.one b6 [.int .i64 x] 3)) fun w=>w.cell? ⟨b11,0,none⟩=some (.pointer (some ⟨bl,0,none⟩)):=fun w' hw'=>by
  have B : Blk w' b11 [.pointer (some ⟨bl,0,none⟩)] 73:=zG w' (hw'.le (h:=inferInstance))
  exact B.cell 0
 have h6 : Ob (((r.or s).or (Go.Sh.one b11 [.pointer (some ⟨bl,0,none⟩)] 73)).or (Go.Sh.one b6 [.int .i64 x] 3)) fun w=>w.cell? ⟨b6,0,none⟩=some (.int .i64 x):=fun w' hw'=>by
  have B : Blk w' b6 [.int .i64 x] 3:=zG w' (hw'.le (h:=inferInstance))
  exact B.cell 0
 have hx':=hbl.up (s:=((r.or s).or (Go.Sh.one b11 [.pointer (some ⟨bl,0,none⟩)] 73)).or (Go.Sh.one b6 [.int .i64 x] 3))
 have hu1:=hu0.up (s:=((r.or s).or (Go.Sh.one b11 [.pointer (some ⟨bl,0,none⟩)] 73)).or (Go.Sh.one b6 [.int .i64 x] 3))
 have hc6:=(hc 6 _ rfl).up (s:=((r.or s).or (Go.Sh.one b11 [.pointer (some ⟨bl,0,none⟩)] 73)).or (Go.Sh.one b6 [.int .i64 x] 3))
 have S : StX noX w (((r.or s).or (Go.Sh.one b11 [.pointer (some ⟨bl,0,none⟩)] 73)).or (Go.Sh.one b6 [.int .i64 x] 3)) w5.drew [.cell b4 [.slice p0 u.ss.length cap0,.slice qf u.fs.length capf,.int .i64 u.mn] 25]:=S
 have S:=(S.ownNil 3 1).ownNil 3 1
 generalize ((r.or s).or (Go.Sh.one b11 [.pointer (some ⟨bl,0,none⟩)] 73)).or (Go.Sh.one b6 [.int .i64 x] 3)=υ at S h11 h6 hx' hu1 hc6
 have S : StX noX w υ w5.drew [.row (.slice none 0 0) 3 1 (xI (z7 g x) 0).length (ints (xI (z7 g x) 0)),.row (.slice none 0 0) 3 1 (xI (Usd g x) 0).length (ints (xI (Usd g x) 0)),.cell b4 [.slice p0 u.ss.length cap0,.slice qf u.fs.length capf,.int .i64 u.mn] 25]:=S
 refine gp_ ?_
 refine zg (S.at h11) ?_
 refine gg_ ?_
 refine zg (S.at hc6) ?_
 refine gg_ ?_
 refine zi (ι:=Nat × Value × Value) (fun i=>[i.2.1,i.2.2,.int .i64 (i.1 : Nat)]) (fun i w'=>i.1≤g.pts.length∧StX noX w υ w' [.row i.2.1 3 1 (xI (z7 g x) i.1).length (ints (xI (z7 g x) i.1)),.row i.2.2 3 1 (xI (Usd g x) i.1).length (ints (xI (Usd g x) i.1)),.cell b4 [.slice p0 u.ss.length cap0,.slice qf u.fs.length capf,.int .i64 u.mn] 25]) (fun i=>g.pts.length - i.1) (0,.slice none 0 0,.slice none 0 0) rfl ⟨Nat.zero_le _,S⟩ ?_
 repeat clear S
 rintro ⟨i,ve,vu⟩ d w22 ⟨hi,S⟩ K19 hK19
 simp only at hi S ⊢
 simp only [List.getD_cons_zero,List.getD_cons_succ]
 refine gg_ ?_
 refine zk (fun hlt=>?_) (fun hge=>?_)
 ·have hlt : i<g.pts.length:=by omega
  have hiN : isN (zh g) (i : Int):=⟨by omega,by omega⟩
  obtain ⟨p,hp,hpm,hue,hee⟩:=Qw hiN
  have hef:=afx (P:=z7 g x) (i:=i)
  have huf:=afx (P:=Usd g x) (i:=i)
  refine zp (fun y w'=>∃ ve' vu',y = [ve',vu']∧StX noX w υ w' [.row ve' 3 1 (xI (z7 g x) (i+1)).length (ints (xI (z7 g x) (i+1))),.row vu' 3 1 (xI (Usd g x) (i+1)).length (ints (xI (Usd g x) (i+1))),.cell b4 [.slice p0 u.ss.length cap0,.slice qf u.fs.length capf,.int .i64 u.mn] 25]) (fun K23 hK23=>?_) ?_
  ·refine zp (fun y w'=>∃ ve',y = [ve']∧StX noX w υ w' [.row ve' 3 1 (xI (z7 g x) (i+1)).length (ints (xI (z7 g x) (i+1))),.row vu 3 1 (xI (Usd g x) i).length (ints (xI (Usd g x) i)),.cell b4 [.slice p0 u.ss.length cap0,.slice qf u.fs.length capf,.int .i64 u.mn] 25]) (fun K27 hK27=>?_) ?_
   ·refine agC S.holds hx' h11 h6 hiN.1 hp (hF.args p hpm) fun w31 e31=>?_
    have S:=S.go e31
    rw [← hee]
    rw [adk] at hK27
    refine zk (fun hE=>?_) (fun hE=>?_)
    ·rw [if_pos (show z7 g x i from hE)] at hK27
     refine S.lit (e:=3) (cs:=[.int .i64 (i : Nat)]) (by kernel_rfl) fun b9 w9 S=>?_
     refine S.ap (v:=ve) (m':=1) (Sl.blk (S.blk b9)) (fun v4 w10 S=>?_) (by omega)
     refine hK27 _ _ ⟨v4,rfl,?_⟩
     rw [List.length_append,xU]
     exact S.drop b9
    ·rw [if_neg (show ¬ z7 g x i from hE),List.append_nil] at hK27
     exact hK27 _ _ ⟨ve,rfl,S⟩
   repeat clear S
   rintro _ w30 ⟨ve',rfl,S⟩ d
   rw [List.getD_cons_zero]
   refine zg (S.at h11) ?_
   refine zg (S.at h6) ?_
   refine XG S.holds hx' hiN.1 hp (hF.args p hpm) fun w34 e34=>?_
   have S:=S.go e34
   rw [← hue]
   have hnU:=adk (P:=Usd g x) (i:=i)
   refine zk (fun hU=>?_) (fun hU=>?_)
   ·rw [if_pos (show Usd g x i from hU)] at hnU
    refine S.lit (e:=3) (cs:=[.int .i64 (i : Nat)]) (by kernel_rfl) fun b9 w9 S=>?_
    refine S.ap (v:=vu) (m':=1) (Sl.blk (S.blk b9)) (fun v4 w10 S=>?_) (by omega)
    refine hK23 _ _ ⟨ve',v4,rfl,?_⟩
    rw [hnU,List.length_append,xU]
    exact S.drop b9
   ·rw [if_neg (show ¬ Usd g x i from hU),List.append_nil] at hnU
    refine hK23 _ _ ⟨ve',vu,rfl,?_⟩
    rw [hnU]
    exact S
  repeat clear S
  rintro _ w26 ⟨ve',vu',rfl,S⟩ d
  simp only [List.getD_cons_zero,List.getD_cons_succ]
  refine gg_ ?_
  exact hK19 (i+1,ve',vu') _ ⟨hlt,S⟩ (by show g.pts.length - (i+1)<g.pts.length - i;omega)
 have hie : i=(zh g).length:=by omega
 clear hK19 K19 hge hi d
 subst hie
 rw [afy,afy] at S
 have hWf : (ptsW g (z7 g x)).length≤(zh g).length:=afg
 have hUf : (ptsW g (Usd g x)).length≤(zh g).length:=afg
 have hWN : ∀ y ∈ ptsW g (z7 g x),isN (zh g) y:=fun y hy=>(aff.1 hy).1
 have hUN : ∀ y ∈ ptsW g (Usd g x),isN (zh g) y:=fun y hy=>(aff.1 hy).1
 rw [afh] at h
 obtain ⟨pq,hpq,hpqm,_,heq⟩:=Qw hqN
 generalize ptsW g (z7 g x)=W at S h hWf hWN
 generalize ptsW g (Usd g x)=U at S h hUf hUN
 obtain ⟨sE,T,hsE,_,_⟩:=S.doneRow yO (by decide) rfl
 repeat clear S
 obtain ⟨sU,S,hsU,_,_⟩:=T.doneRow yO (by decide) rfl
 clear T
 obtain ⟨pu,cu,rfl,_,_⟩:=hsU.shape
 have S:=S.new (Ext.refl _) New.nothing
 refine gp_ ?_
 refine zi (ι:=Nat × Value × Gh) (fun i=>[i.2.1,.bool ((U.take i.1).foldl (vU (zh g) W q (decide (z7 g x q))) none).isSome,.int .i64 (i.1 : Nat)]) (fun i w'=>i.1≤U.length∧StX noX w (((υ.or sE).or sU).or i.2.2) w' [.cell b4 [.slice p0 u.ss.length cap0,.slice qf u.fs.length capf,.int .i64 u.mn] 25]∧Above w i.2.2∧SlG 1 i.2.2 zU i.2.1 (((U.take i.1).foldl (vU (zh g) W q (decide (z7 g x q))) none).getD [])) (fun i=>U.length - i.1) (0,.slice none 0 0,nothing) rfl ⟨Nat.zero_le _,S,Above.no,SlG.nil⟩ ?_
 repeat clear S
 rintro ⟨i,v1,τ⟩ d w40 ⟨hi,S,hτ,hv1⟩ K37 hK37
 simp only at hi S hτ hv1 ⊢
 simp only [List.getD_cons_zero,List.getD_cons_succ]
 refine gp_ ?_
 refine zk (fun hlt=>?_) (fun hge=>?_)
 ·have hlt : i<U.length:=by omega
  have hFs : (U.take (i+1)).foldl (vU (zh g) W q (decide (z7 g x q))) none=vU (zh g) W q (decide (z7 g x q)) ((U.take i).foldl (vU (zh g) W q (decide (z7 g x q))) none) U[i]:=by
   rw [List.take_succ_eq_append_getElem hlt,List.foldl_append,List.foldl_cons,List.foldl_nil]
  have hK37:=fun v1 τ w' (S : StX noX w (((υ.or sE).or sU).or τ) w' [.cell b4 [.slice p0 u.ss.length cap0,.slice qf u.fs.length capf,.int .i64 u.mn] 25]) (hτ : Above w τ) hv=>hK37 (i+1,v1,τ) w' ⟨hlt,S,hτ,hv⟩ (by show U.length - (i+1)<U.length - i;omega)
  simp only at hK37
  rw [hFs] at hK37
  have hpN:=hUN _ (List.getElem_mem hlt)
  obtain ⟨bU,oU,hpu,_,gU⟩:=yr hsU hlt
  generalize U[i]=p at hK37 hpN gU
  generalize (U.take i).foldl (vU (zh g) W q (decide (z7 g x q))) none=o at hK37 hv1
  rw [hpu]
  refine zp (fun y w'=>∃ v' τ',y = [v',.bool (vU (zh g) W q (decide (z7 g x q)) o p).isSome]∧StX noX w (((υ.or sE).or sU).or τ') w' [.cell b4 [.slice p0 u.ss.length cap0,.slice qf u.fs.length capf,.int .i64 u.mn] 25]∧Above w τ'∧SlG 1 τ' zU v' ((vU (zh g) W q (decide (z7 g x q)) o p).getD [])) (fun K41 hK41=>?_) ?_
  ·refine gg_ ?_
   refine zg (by rw [Int.toNat_natCast];exact S.at gU) ?_
   refine gp_ ?_
   refine aj1 (c:=decide (z7 g x q)) (fun w'=>Ext w40 w') (Ext.refl w40) (fun _ K2 hK2=>?_) fun w2 e2=>?_
   ·refine agC S.holds hx'.up h11.up h6.up hqN.1 hpq (hF.args pq hpqm) fun w' e'=>?_
    rw [← heq]
    exact hK2 _ e'
   have S:=S.go e2
   refine c_b (fun hb=>?_) (fun hb=>?_)
   ·have e:=ail (n:=zh g) (W:=W) (o:=o) hb
    rw [e] at hK41
    exact hK41 _ _ ⟨v1,τ,rfl,S,hτ,hv1⟩
   have hgo:=agD (n:=zh g) (W:=W) (o:=o) hb
   rw [hgo] at hK41
   clear hgo
   refine S.ldB (b:=b4) ?_ rfl
   have hokW:=akn (u:=u) (n:=n) (a:=q) (b:=p) (W:=W) hE (by rw [hnu];exact hqN) (by rw [hnu];exact hpN) (by rw [hnu];exact hWN)
   refine ahn S.holds hu1.up hsE.cells (by omega) fun v7 s7 w7 e7 n7 h7=>?_
   rw [hokW,if_pos rfl,hnu,Bool.true_and]
   rw [hokW,if_pos rfl,hnu] at h7
   obtain ⟨S,_,a7⟩:=S.tell e7 n7
   have hwf:=akg hF.net.ok ajO (W:=W) (t:=p) hqN
   obtain ⟨p7,c7,rfl,_,_⟩:=h7.shape
   obtain ⟨p1,c1,rfl,_,_⟩:=hv1.shape
   generalize wayE (zh g) q p W=y at h7 hwf hK41
   refine gP_ ?_
   refine gP_ ?_
   refine gP_ ?_
   refine alF (i:=y.isSome) (f:=!o.isSome) (l:=decide ((((y.getD []).length : Nat) : Int)<((o.getD []).length : Nat))) (e:=decide ((((y.getD []).length : Nat) : Int)=((o.getD []).length : Nat))) (x:=ltB (y.getD []) (o.getD [])) (fun w'=>w'=w7) (fun _ K hK=>?_) (fun _ _ K hK=>?_) (fun _ _ _ K hK=>?_) (fun _ _ _ he K hK=>?_) rfl ?_
   ·refine gp_ ?_
    exact hK
   ·refine gg_ ?_
    exact hK
   ·refine gg_ ?_
    exact hK
   ·refine adV S.holds h7.cells hv1.cells (by have:=of_decide_eq_true he;omega) (by omega) fun c hc=>?_
    refine gP_ ?_
    rw [hc]
    exact hK _ rfl
   rintro _ rfl
   rw [ak8]
   refine c_b (fun hb=>?_) (fun hb=>?_)
   ·rw [if_pos hb,(show y.isSome=true by simp at hb;exact hb.1)] at hK41
    exact hK41 _ _ ⟨_,s7,rfl,S.less (fun b o h=>h.elim (fun h=>.inl (.inl h)) .inr) (List.Sublist.refl _),a7,h7⟩
   ·rw [if_neg (by rw [hb];decide)] at hK41
    exact hK41 _ _ ⟨_,τ,rfl,S.less (fun b o h=>.inl h) (List.Sublist.refl _),hτ,hv1⟩
  rintro _ w44 ⟨v',τ',rfl,S,hτ',hv'⟩ d
  simp only [List.getD_cons_zero,List.getD_cons_succ]
  refine gp_ ?_
  exact hK37 v' τ' _ S hτ' hv'
 have hie : i=U.length:=by omega
 subst hie
 rw [List.take_length] at hv1 ⊢
 refine gg_ ?_
 exact h _ τ _ S.ext (StX.newOf (q:=τ) S hτ) hv1
end Go.Proofs
end
section
namespace Go.Proofs
open Go.Sh Go.RowKit Go.BM
set_option maxRecDepth 100000
set_option linter.unusedSimpArgs false
set_option linter.unusedVariables false
abbrev jC:=Int × List (BitVec 64)
theorem aaO {f : Int→Bool} {fv v : Value} {w : World} {r : Gh} {l : List Int} {K : Value→World→Prop} (hr : Holds r w) (hl : SlG 1 r zU v l) (hb : l.length≤1000000000)
  (hf : ∀ x ∈ l,∀ (K : Value→World→Prop),K (.bool (f x)) w→zH Tryz.prog fv #[.int .i64 x] w K) (h : ∀ i : Int,(0≤i↔l.any f=true)→K (.int .i64 i) w) : zd Tryz.prog Tryz.yF #[v,fv] w K:=by
 refine Tryz.kv ?_
 unfold Tryz.xj
 obtain ⟨p,cap,rfl,_,_⟩:=hl.shape
 refine gP_ ?_
 refine zi (ι:=Nat) (fun i=>[.int .i64 i]) (fun i w'=>w'=w∧i≤l.length∧(l.take i).any f=false) (fun i=>l.length - i) 0 rfl ⟨rfl,Nat.zero_le _,by simp⟩ ?_
 rintro i d w' ⟨rfl,hi,hn⟩ K6 hK6
 simp only [List.getD_cons_zero]
 refine gP_ ?_
 refine zk (fun hlt=>?_) (fun hge=>?_)
 ·have hlt : i<l.length:=by omega
  obtain ⟨b,off,rfl,_,hc⟩:=yr hl hlt
  refine gP_ ?_
  refine zg (by rw [Int.toNat_natCast];exact hc _ hr) ?_
  refine hf _ (List.getElem_mem hlt) _ ?_
  have ht : (l.take (i+1)).any f=((l.take i).any f||f l[i]):=by
   rw [List.take_succ_eq_append_getElem hlt,List.any_append];simp only [List.any_cons,List.any_nil,Bool.or_false]
  refine c_b (fun hy=>?_) (fun hno=>?_)
  ·exact h _ ⟨fun _=>List.any_eq_true.2 ⟨l[i],List.getElem_mem hlt,hy⟩,fun _=>Int.natCast_nonneg _⟩
  ·refine gP_ ?_
   refine hK6 (i+1) _ ⟨rfl,hlt,?_⟩ (by omega)
   rw [ht,hn,hno];rfl
 ·have : i=l.length:=by omega
  subst this
  rw [List.take_length] at hn
  exact h _ ⟨fun h=>by omega,fun h=>by rw [hn] at h;cases h⟩
theorem Q5 {f : Int→Bool} {fv v : Value} {w : World} {r : Gh} {l : List Int} {K : Value→World→Prop} (hr : Holds r w) (hl : SlG 1 r zU v l) (hb : l.length≤1000000000)
  (hf : ∀ x ∈ l,∀ (K : Value→World→Prop),K (.bool (f x)) w→zH Tryz.prog fv #[.int .i64 x] w K) (h : K (.bool (l.any f)) w) : zd Tryz.prog Tryz.zP #[v,fv] w K:=by
 refine Tryz.xQ ?_
 unfold Tryz.yW
 refine aaO hr hl hb hf fun i hi=>?_
 refine gP_ ?_
 have e : decide (i≥0)=l.any f:=by
  by_cases hh : l.any f=true
  ·rw [hh];exact decide_eq_true (hi.2 hh)
  ·rw [Bool.eq_false_iff.2 hh];exact decide_eq_false fun h=>hh (hi.1 h)
 rw [e];exact h
theorem abV {f : jC→Bool} {fv v : Value} {w : World} {r : Gh} {l : List jC} {K : Value→World→Prop} (hr : Holds r w) (hl : SlG 2 r (RwbC r) v l) (hb : l.length≤1000000000)
  (hf : ∀ x ∈ l,∀ (c : List Value) (w : World) (K : Value→World→Prop),Holds r w→RwbC r c x→(∀ w',Ext w w'→K (.bool (f x)) w')→zH Tryz.prog fv #[.agg c.toArray] w K)
  (h : ∀ (i : Int) w',Ext w w'→(0≤i↔l.any f=true)→K (.int .i64 i) w') : zd Tryz.prog Tryz.yB #[v,fv] w K:=by
 refine Tryz.qR ?_
 unfold Tryz.xn
 obtain ⟨p,cap,rfl,_,_⟩:=hl.shape
 have S:=St.start hr
 refine gP_ ?_
 refine zi (ι:=Nat) (fun i=>[.int .i64 i]) (fun i w'=>i≤l.length∧(l.take i).any f=false∧StX noX w r w' []) (fun i=>l.length - i) 0 rfl ⟨Nat.zero_le _,by simp,S⟩ ?_
 clear S
 rintro i d w' ⟨hi,hn,S⟩ K6 hK6
 simp only [List.getD_cons_zero]
 refine gP_ ?_
 refine zk (fun hlt=>?_) (fun hge=>?_)
 ·have hlt : i<l.length:=by omega
  obtain ⟨b,off,c,rfl,hcl,hcR,hcell⟩:=hl.get (by decide) hlt
  have hcR0:=hcR
  obtain ⟨pw,cw,rfl,_⟩:=hcR
  refine gP_ ?_
  refine zq (n:=2) rfl (fun j v hj=>by rw [Int.toNat_natCast];exact S.at (hcell j v hj)) ?_
  refine hf _ (List.getElem_mem hlt) _ _ _ S.holds hcR0 fun w2 e2=>?_
  have S:=S.go e2
  have ht : (l.take (i+1)).any f=((l.take i).any f||f l[i]):=by
   rw [List.take_succ_eq_append_getElem hlt,List.any_append];simp only [List.any_cons,List.any_nil,Bool.or_false]
  refine c_b (fun hy=>?_) (fun hno=>?_)
  ·exact h _ _ S.ext ⟨fun _=>List.any_eq_true.2 ⟨l[i],List.getElem_mem hlt,hy⟩,fun _=>Int.natCast_nonneg _⟩
  ·refine gP_ ?_
   refine hK6 (i+1) _ ⟨hlt,?_,S⟩ (by omega)
   rw [ht,hn,hno];rfl
 ·have : i=l.length:=by omega
  subst this
  rw [List.take_length] at hn
  exact h _ _ S.ext ⟨fun h=>by omega,fun h=>by rw [hn] at h;cases h⟩
theorem J2 {f : jC→Bool} {fv v : Value} {w : World} {r : Gh} {l : List jC} {K : Value→World→Prop} (hr : Holds r w) (hl : SlG 2 r (RwbC r) v l) (hb : l.length≤1000000000)
  (hf : ∀ x ∈ l,∀ (c : List Value) (w : World) (K : Value→World→Prop),Holds r w→RwbC r c x→(∀ w',Ext w w'→K (.bool (f x)) w')→zH Tryz.prog fv #[.agg c.toArray] w K)
  (h : ∀ w',Ext w w'→K (.bool (l.any f)) w') : zd Tryz.prog Tryz.yn #[v,fv] w K:=by
 refine Tryz.kX ?_
 unfold Tryz.y9
 refine abV hr hl hb hf fun i w' e hi=>?_
 refine gP_ ?_
 have e2 : decide (i≥0)=l.any f:=by
  by_cases hh : l.any f=true
  ·rw [hh];exact decide_eq_true (hi.2 hh)
  ·rw [Bool.eq_false_iff.2 hh];exact decide_eq_false fun h=>hh (hi.1 h)
 rw [e2];exact h _ e
def Qy (g : GrD) (x : jC) : List Bool:=xZ g.pts.length x.2
noncomputable def ahr (g : GrD) (x : Nat) (m : List Bool) (q : Nat) : Bool:=xd g x m q && !mk' m q
noncomputable def Qz (g : GrD) (R : List jC) (x q : Nat) : Bool:=ahr g x (Qy g (R.getD x (0,[]))) q
def cls (b : Nat→Nat→Bool) (n k : Nat) : Option (Nat × Nat):=(List.range n).findSome? fun x=>(List.range k).findSome? fun q=>if b x q=true then some (x,q) else none
theorem agE {α : Type} {f : Nat→Option α} : ∀ {n x : Nat} {a : α},x<n→(∀ y<x,f y=none)→f x=some a→(List.range n).findSome? f=some a
 |n,x,a,hx,hb,hf=>by
  have e : List.range n=List.range x++(x::List.range' (x+1) (n - x - 1)):=by
   rw [← List.range'_succ,List.range_eq_range',List.range_eq_range',show n - x - 1+1=n - x by omega]
   have:=List.range'_append_1 (s:=0) (m:=x) (n:=n - x)
   rw [Nat.zero_add] at this
   rw [this];congr 1;omega
  rw [e,List.findSome?_append,List.findSome?_eq_none_iff.2 fun y hy=>hb y (List.mem_range.1 hy),List.findSome?_cons,hf]
  rfl
theorem ak9 {b : Nat→Nat→Bool} {n k x q : Nat} (hx : x<n) (hq : q<k) (h1 : ∀ y<x,∀ p<k,b y p=false) (h2 : ∀ p<q,b x p=false) (h : b x q=true) : cls b n k=some (x,q):=
 agE hx (fun y hy=>List.findSome?_eq_none_iff.2 fun p hp=>by rw [h1 y hy p (List.mem_range.1 hp)];rfl) (agE hq (fun p hp=>by rw [h2 p hp];rfl) (by rw [h];rfl))
theorem agF {b : Nat→Nat→Bool} {n k : Nat} (h : ∀ y<n,∀ p<k,b y p=false) : cls b n k=none:=
 List.findSome?_eq_none_iff.2 fun y hy=>List.findSome?_eq_none_iff.2 fun p hp=>by rw [h y (List.mem_range.1 hy) p (List.mem_range.1 hp)];rfl
noncomputable def afA (g : GrD) (R : List jC) : Option (Nat × Nat):=cls (Qz g R) R.length g.pts.length
noncomputable def J3 (g : GrD) (x : jC) : Bool:=!BM.mayB x.1 x.2||decide (x.1≠g.pts.length)
noncomputable def ahs (g : GrD) (R : List jC) : Bool:=decide (R.length=g.tys.length) && !R.any (J3 g)
noncomputable def okC (u : UnD) (n : Int) (R : List jC) : Bool:=decide (fnE u n=0)&&(match u.fs[n.toNat]? with|some g=>ahs g R|none=>false)
noncomputable def acE (u : UnD) (n : Int) (R : List jC) : Option (Nat × Nat):=match u.fs[n.toNat]? with|some g=>afA g R|none=>none
noncomputable def afB (u : UnD) (n : Int) (R : List jC) : Value:=if okC u n R=true then .tuple #[.int .i64 (((acE u n R).getD (0,0)).1 : Nat),.int .i64 (((acE u n R).getD (0,0)).2 : Nat),.bool (acE u n R).isNone,.int .i64 0] else .tuple #[.int .i64 0,.int .i64 0,.bool false,.int .i64 2]
theorem J4 {ws : List (BitVec 64)} {k : Int} {b p cap} {w : World} {r : Gh} {K : Value→World→Prop} (hr : Holds r w) (h1 : Ob r fun w=>w.cell? ⟨b,1,none⟩=some (.slice p ws.length cap)) (hS : SlB 1 r WdC (.slice p ws.length cap) ws) (hk : 0≤k) (hk2 : k<64*ws.length) (hl : ws.length≤100000)
  (h : K (.bool (bit ws k.toNat)) w) : zH Tryz.prog (.func (.func Tryz.Xr) #[] #[.pointer (some ⟨b,0,none⟩)]) #[.int .i64 k] w K:=by
 refine Qf (by kernel_rfl) ?_
 refine Tryz.aaL ?_
 unfold Tryz.Xt
 have hlt : k.toNat / 64<ws.length:=by omega
 obtain ⟨b2,o2,rfl,_,hc⟩:=abS hS.sl hlt
 have hB : bit ws k.toNat=decide (((ws[k.toNat / 64] >>> (k.toNat % 64)) &&& BitVec.ofInt 64 1).toNat=(1 : Int)):=by
  rw [bit,List.getD_eq_getElem?_getD,List.getElem?_eq_getElem hlt,Option.getD_some,Bool.eq_iff_iff,decide_eq_true_eq,Xu]
 rw [hB] at h
 generalize ws[k.toNat / 64]=x at hc h
 refine gg_ ?_
 refine zg (h1 _ hr) ?_
 refine gg_ ?_
 refine zg (by rw [show (k / 64).toNat=k.toNat / 64 by omega];exact hc _ hr) ?_
 refine gg_ ?_
 rw [show (k % 64).toNat=k.toNat % 64 by omega]
 exact h
theorem afC {g : GrD} {x : jC} {v : Value} {b : Nat} {c : List Value} {w : World} {r : Gh} {K : Value→World→Prop} (hr : Holds r w) (hx : LookG r v g) (h1 : Ob r fun w=>w.cell? ⟨b,0,none⟩=some v) (hc : RwbC r c x)
  (h : ∀ w',Ext w w'→K (.bool (J3 g x)) w') : zH Tryz.prog (.func (.func Tryz.Xq) #[] #[.pointer (some ⟨b,0,none⟩)]) #[.agg c.toArray] w K:=by
 refine Qf (by kernel_rfl) ?_
 refine Tryz.aaK ?_
 unfold Tryz.Xs
 obtain ⟨W,ws⟩:=x
 have hc0:=hc
 obtain ⟨p,cap,rfl,hS⟩:=hc
 obtain ⟨bl,x1,x2,x3,x4,y1,y2,y3,y4,vn,rfl,hgg,hn,hcl⟩:=hx
 have S:=St.start hr
 refine S.box fun b2 w1 S=>?_
 have S : StX noX w r w1 [.cell b2 [.int .i64 W,.slice p ws.length cap] 49]:=S
 have S:=S.go (Ext.drew _)
 refine S.ldN (b:=b2) (vs:=[.int .i64 W,.slice p ws.length cap]) ?_
 refine ahk S.holds hc0.up fun w2 e2=>?_
 have S:=S.go e2
 refine gp_ ?_
 refine zj (c:=decide (W≠g.pts.length)) (fun _ K2 hK2=>?_) ?_
 ·refine gg_ ?_
  refine zg (S.at h1) ?_
  refine gg_ ?_
  refine zg (S.at (hcl 6 _ rfl)) ?_
  refine gg_ ?_
  exact hK2
 exact h _ S.ext
end Go.Proofs
end
section
namespace Go.Proofs
open Go.Sh Go.RowKit Go.BM
set_option maxRecDepth 100000
set_option linter.unusedSimpArgs false
set_option linter.unusedVariables false
theorem ala {g : GrD} {q : Nat} {p : PtD} (hp : g.pts[q]? = some p) (hq : q<(lkN g).length) : (lkN g)[q]=lkP p:=by
 have h1:=List.getElem?_eq_getElem hq
 have h2 : (lkN g)[q]? = some (lkP p):=by rw [lkN,List.getElem?_map,hp];rfl
 rw [h2] at h1
 exact (Option.some.inj h1).symm
theorem afD {g : GrD} {q : Nat} {p : PtD} (hp : g.pts[q]? = some p) {x : Int} : x ∈ nxt (zh g) (q : Int)↔x ∈ lkP p:=by
 rw [nxt,zh,List.getD_eq_getElem?_getD,List.getElem?_map,Int.toNat_natCast,hp,agx];rfl
theorem ako {g : GrD} {q : Nat} {p : PtD} (hp : g.pts[q]? = some p) {f : Int→Bool} : (lkP p).any f=(nxt (zh g) (q : Int)).any f:=by
 rw [Bool.eq_iff_iff,List.any_eq_true,List.any_eq_true]
 exact ⟨fun ⟨x,h1,h2⟩=>⟨x,(afD hp).2 h1,h2⟩,fun ⟨x,h1,h2⟩=>⟨x,(afD hp).1 h1,h2⟩⟩
theorem akp {p : PtD} : (lkP p).length≤2:=by
 rw [lkP,List.length_append]
 split<;>split<;>simp
set_option maxHeartbeats 4000000 in
theorem adW {u : UnD} {n : Int} {R : List jC} {v vr : Value} {w : World} {r : Gh} {K : Value→World→Prop} (hr : Holds r w) (hu : UnG r v u) (hR : SlG 2 r (RwbC r) vr R) (hRf : R.length≤1000000)
  (h : ∀ w',Ext w w'→K (afB u n R) w') : zd Tryz.prog Tryz.ZR #[v,.int .i64 n,vr] w K:=by
 refine Tryz.acC ?_
 unfold Tryz.QT
 have hu0:=hu
 obtain ⟨p0,cap0,vf,rfl,_,_,hst,hsl,hfn⟩:=hu
 obtain ⟨qf,capf,rfl,_,_⟩:=hfn.sl.shape
 have hR0:=hR
 obtain ⟨pr,cr,rfl,_,_⟩:=hR.shape
 have S:=St.start hr
 refine S.box fun b3 w1 S=>?_
 have S : StX noX w r w1 [.cell b3 [.slice p0 u.ss.length cap0,.slice qf u.fs.length capf,.int .i64 u.mn] 25]:=S
 refine S.ldB (b:=b3) ?_ rfl
 refine jR S.holds hu0 fun vx s w2 e2 n2 hg hz=>?_
 obtain ⟨S,_,as2⟩:=S.tell e2 n2
 refine gS_ ?_
 refine S.al fun b10 w3 S=>?_
 have hvx : vx.oneCell'=true:=by
  by_cases hE : fnE u n=0
  ·obtain ⟨g,_,_,hx⟩:=hg hE
   obtain ⟨b,_,_,_,_,_,_,_,_,_,rfl,_⟩:=hx
   rfl
  ·rw [hz hE];rfl
 refine S.st (b:=b10) (fun w4 S=>?_) (by simp) hvx
 have S : StX noX w (r.or s) w4 [.cell b10 [vx] 73,.cell b3 [.slice p0 u.ss.length cap0,.slice qf u.fs.length capf,.int .i64 u.mn] 25]:=S
 have S:=(S.frzAt b10).tl
 have h10 : Ob ((r.or s).or (Go.Sh.one b10 [vx] 73)) fun w=>w.cell? ⟨b10,0,none⟩=some vx:=fun w' hw'=>by
  have B : Blk w' b10 [vx] 73:=zG w' (hw'.le (h:=inferInstance))
  exact B.cell 0
 have hg' : fnE u n=0→∃ g,u.fs[n.toNat]? = some g∧netU u n=zh g∧LookG ((r.or s).or (Go.Sh.one b10 [vx] 73)) vx g:=fun hE=>by
  obtain ⟨g,h1,h2,h3⟩:=hg hE
  exact ⟨g,h1,h2,h3.up⟩
 have hR1 : SlG 2 ((r.or s).or (Go.Sh.one b10 [vx] 73)) (RwbC ((r.or s).or (Go.Sh.one b10 [vx] 73))) (.slice pr R.length cr) R:=hR0.up' inferInstance fun _ _ h=>h.up
 clear hg hz hvx
 generalize (r.or s).or (Go.Sh.one b10 [vx] 73)=υ at S h10 hg' hR1
 have T:=S
 repeat clear S
 have S:=T
 clear T
 refine gp_ ?_
 refine zj (c:=!(match u.fs[n.toNat]? with|some g=>decide (R.length=g.tys.length)|none=>false)) (fun hb K2 hK2=>?_) ?_
 ·have hE : fnE u n=0:=by simpa using hb
  obtain ⟨g,hgi,hnu,hx⟩:=hg' hE
  obtain ⟨bl,x1,x2,x3,x4,y1,y2,y3,y4,vn,rfl,hgg,hn,hc⟩:=hx
  refine gg_ ?_
  refine zg (S.at h10) ?_
  refine gg_ ?_
  refine zg (S.at (hc 4 _ rfl)) ?_
  refine gg_ ?_
  simp only [hgi] at hK2
  have e : decide ((R.length : Int)≠(g.tys.length : Nat)) = !decide (R.length=g.tys.length):=by
   rw [← decide_not,decide_eq_decide];omega
  rw [e]
  exact hK2
 refine yP (c:=match u.fs[n.toNat]? with|some g=>R.any (J3 g)|none=>false) (fun hb K2 hK2=>?_) fun w5 e5=>?_
 ·have hE : fnE u n=0:=by
   simp only [Bool.or_eq_false_iff,decide_eq_false_iff_not,Decidable.not_not] at hb
   exact hb.1
  obtain ⟨g,hgi,hnu,hx⟩:=hg' hE
  simp only [hgi] at hK2
  refine gp_ ?_
  refine J2 (f:=J3 g) S.holds hR1 (by omega) (fun x hxm c w K hr hc hK=>afC hr hx h10 hc hK) fun w5 e5=>hK2 _ e5
 have S:=S.go e5
 have hYe : okC u n R = !((decide (fnE u n≠0) || !(match u.fs[n.toNat]? with|some g=>decide (R.length=g.tys.length)|none=>false))||(match u.fs[n.toNat]? with|some g=>R.any (J3 g)|none=>false)):=by
  rw [okC]
  by_cases hE : fnE u n=0
  ·obtain ⟨g,hgi,_⟩:=hg' hE
   simp [hgi,hE,ahs]
  ·simp [hE]
 refine c_b (fun hb=>?_) (fun hb=>?_)
 ·rw [hb] at hYe
  rw [afB,hYe] at h
  exact h _ S.ext
 rw [hb] at hYe
 have hE : fnE u n=0:=by
  simp only [Bool.or_eq_false_iff,decide_eq_false_iff_not,Decidable.not_not] at hb
  exact hb.1.1
 obtain ⟨g,hgi,hnu,hx⟩:=hg' hE
 rw [afB,hYe,acE] at h
 simp only [hgi,Bool.not_false,if_true] at h
 simp only [hgi,Bool.or_eq_false_iff,Bool.not_eq_false',decide_eq_true_eq] at hb
 obtain ⟨⟨_,hRl⟩,hbad⟩:=hb
 have hF:=kH hE hgi
 have hnf:=hF.net.few
 have hmf:=hF.loc.few
 have hgl:=z6 (g:=g)
 have hx0:=hx
 obtain ⟨bl,x1,x2,x3,x4,y1,y2,y3,y4,vn,rfl,hgg,hn,hc⟩:=hx
 refine gp_ ?_
 refine zi (ι:=Nat) (fun i=>[.int .i64 (i : Nat)]) (fun i w'=>i≤R.length∧(∀ y<i,∀ p<g.pts.length,Qz g R y p=false)∧StX noX w υ w' []) (fun i=>R.length - i) 0 rfl ⟨Nat.zero_le _,fun y hy=>absurd hy (Nat.not_lt_zero _),S⟩ ?_
 repeat clear S
 rintro i d w17 ⟨hi,hpre,S⟩ K14 hK14
 rw [List.getD_cons_zero]
 refine gp_ ?_
 refine zk (fun hlt=>?_) (fun hge=>?_)
 ·have hlt : i<R.length:=by omega
  obtain ⟨bR,oR,cR,hpr,hcl,hcR,hcell⟩:=hR1.get (by decide) hlt
  have hok : J3 g R[i]=false:=by
   rw [Bool.eq_false_iff];intro hc;rw [List.any_eq_true.2 ⟨_,List.getElem_mem hlt,hc⟩] at hbad;cases hbad
  have hgD : R.getD i (0,[])=R[i]:=by rw [List.getD_eq_getElem?_getD,List.getElem?_eq_getElem hlt];rfl
  have hcI : ∀ q,Qz g R i q=ahr g i (Qy g R[i]) q:=fun q=>by rw [Qz,hgD]
  generalize R[i]=x at hcR hok hcI
  obtain ⟨W,ws⟩:=x
  obtain ⟨pw,cw,rfl,hS⟩:=hcR
  cases hpr
  rw [J3,Bool.or_eq_false_iff,Bool.not_eq_false',decide_eq_false_iff_not,Decidable.not_not] at hok
  obtain ⟨hmay,hW⟩:=hok
  have hmay : BM.May W ws:=by
   by_cases hM : BM.May W ws
   ·exact hM
   ·rw [BM.mayB_false hM] at hmay;cases hmay
  have hW : W=(g.pts.length : Int):=hW
  have hwl : (ws.length : Int)=(W+63) / 64:=hmay.2.2.1
  have hmk : ∀ y : Int,isN (zh g) y→mk' (Qy g (W,ws)) y=bit ws y.toNat:=fun y hy=>aki hy.1 (by have:=hy.2;omega)
  refine gp_ ?_
  refine zq (n:=2) rfl (fun j v hj=>by rw [Int.toNat_natCast];exact S.at (hcell j v hj)) ?_
  refine S.al fun b12 w18 S=>?_
  refine S.stB (b:=b12) fun w19 S=>?_
  have S : StX noX w υ w19 [.cell b12 [.int .i64 W,.slice pw ws.length cw] 49]:=S
  have S:=S.frzAt b12
  have h12 : Ob (υ.or (Go.Sh.one b12 [.int .i64 W,.slice pw ws.length cw] 49)) fun w=>w.cell? ⟨b12,1,none⟩=some (.slice pw ws.length cw):=fun w' hw'=>by
   have B : Blk w' b12 [.int .i64 W,.slice pw ws.length cw] 49:=zG w' (hw'.le (h:=inferInstance))
   exact B.cell 1
  have hS:=hS.cells (s:=υ.or (Go.Sh.one b12 [.int .i64 W,.slice pw ws.length cw] 49))
  have hx1:=hx0.up (s:=υ.or (Go.Sh.one b12 [.int .i64 W,.slice pw ws.length cw] 49))
  have h101:=h10.up (s:=υ.or (Go.Sh.one b12 [.int .i64 W,.slice pw ws.length cw] 49))
  have hc61:=(hc 6 _ rfl).up (s:=υ.or (Go.Sh.one b12 [.int .i64 W,.slice pw ws.length cw] 49))
  have hcv:=(hc 7 _ rfl).up (s:=υ.or (Go.Sh.one b12 [.int .i64 W,.slice pw ws.length cw] 49))
  have hn1:=NetG.up hn (s:=υ.or (Go.Sh.one b12 [.int .i64 W,.slice pw ws.length cw] 49))
  refine gp_ ?_
  refine zg (S.at h101) ?_
  refine gg_ ?_
  refine zg (S.at hc61) ?_
  refine gg_ ?_
  refine zi (ι:=Nat) (fun i=>[.int .i64 (i : Nat)]) (fun q w'=>q≤g.pts.length∧(∀ p<q,Qz g R i p=false)∧StX noX w (υ.or (Go.Sh.one b12 [.int .i64 W,.slice pw ws.length cw] 49)) w' []) (fun q=>g.pts.length - q) 0 rfl ⟨Nat.zero_le _,fun y hy=>absurd hy (Nat.not_lt_zero _),S⟩ ?_
  repeat clear S
  rintro q d w23 ⟨hq,hpreq,S⟩ K20 hK20
  rw [List.getD_cons_zero]
  refine gp_ ?_
  refine zk (fun hltq=>?_) (fun hgeq=>?_)
  ·have hltq : q<g.pts.length:=by omega
   have hqN : isN (zh g) (q : Int):=⟨by omega,by omega⟩
   obtain ⟨p,hp,hpm,hue,hee⟩:=Qw hqN
   have hp' : g.pts[q]? = some p:=by rw [← hp,Int.toNat_natCast]
   have hus : decide (Usd g (i : Nat) (q : Int))=decide ((i : Int) ∈ zF p):=by rw [← hue];rfl
   have hen : decide (z7 g (i : Nat) (q : Int))=decide (yh p=some (i : Int)):=by rw [← hee];rfl
   have hnl : q<(lkN g).length:=by rw [Vq];omega
   have hat:=ala hp' hnl
   obtain ⟨pn,cn,hvn,_,_⟩:=hn1.sl.shape
   subst hvn
   obtain ⟨bn,on,vl,rfl,_,hnc,hnv⟩:=Vo hn1 hnl
   rw [hat] at hnv
   refine zg (S.at h101) ?_
   refine Zk S.holds hx1 hqN.1 hp (hF.args p hpm) fun w24 e24=>?_
   have S:=S.go e24
   refine gS_ ?_
   refine zj (c:=decide ((yh p).getD 0≠i)) (fun _ K2 hK2=>by refine gg_ ?_;exact hK2) ?_
   have hEn : (!(yh p).isSome||decide ((yh p).getD 0≠(i : Int))) = !decide (z7 g (i : Nat) (q : Int)):=by
    rw [hen]
    cases yh p with
    |none=>rfl
    |some y=>simp
   rw [hEn]
   have hlN : ∀ y ∈ lkP p,isN (zh g) y:=fun y hy=>X5 hF.net.ok ((afD hp').2 hy)
   have hlf:=akp (p:=p)
   refine zf (c:=(nxt (zh g) (q : Int)).any fun y=>mk' (Qy g (W,ws)) y) (fun _ K2 hK2=>?_) ?_
   ·refine zg (S.at h101) ?_
    refine gg_ ?_
    refine zg (S.at hcv) ?_
    refine gg_ ?_
    refine zg (by rw [Int.toNat_natCast];exact S.at hnc) ?_
    refine Q5 (f:=fun y=>mk' (Qy g (W,ws)) y) S.holds hnv.sl (by omega) (fun y hy K hK=>?_) ?_
    ·have hyN:=hlN y hy
     have y0:=hyN.1;have y1:=hyN.2
     refine J4 S.holds h12 hS y0 (by omega) (by omega) ?_
     rw [← hmk y hyN];exact hK
    ·rw [ako hp']
     exact hK2
   refine yP (c:=decide (Usd g (i : Nat) (q : Int))) (fun _ K2 hK2=>?_) fun w37 e37=>?_
   ·refine zg (S.at h101) ?_
    refine XG S.holds hx1 hqN.1 hp (hF.args p hpm) fun w38 e38=>?_
    rw [← hus]
    exact hK2 _ e38
   have S:=S.go e37
   refine zf (c:=!mk' (Qy g (W,ws)) (q : Int)) (fun _ K2 hK2=>?_) ?_
   ·refine J4 S.holds h12 hS hqN.1 (by omega) (by omega) ?_
    refine gp_ ?_
    rw [hmk _ hqN] at hK2
    exact hK2
   have hcc : ((!decide (z7 g (i : Nat) (q : Int))&&((nxt (zh g) (q : Int)).any fun y=>mk' (Qy g (W,ws)) y)||decide (Usd g (i : Nat) (q : Int))) && !mk' (Qy g (W,ws)) (q : Int))=Qz g R i q:=by
    rw [hcI,ahr,xd,Bool.or_comm (decide (Usd g (i : Nat) (q : Int)))]
   rw [hcc]
   refine c_b (fun hb=>?_) (fun hb=>?_)
   ·have e:=ak9 (b:=Qz g R) hlt hltq hpre hpreq hb
    rw [afA,e] at h
    exact h _ S.ext
   ·refine gp_ ?_
    exact hK20 (q+1) _ ⟨hltq,fun p hp=>by
     rcases Nat.lt_or_ge p q with h|h
     ·exact hpreq p h
     ·rw [show p=q by omega];exact hb,S⟩ (by omega)
  ·have hqe : q=g.pts.length:=by omega
   subst hqe
   refine gp_ ?_
   exact hK14 (i+1) _ ⟨hlt,fun y hy=>by
    rcases Nat.lt_or_ge y i with h|h
    ·exact hpre y h
    ·rw [show y=i by omega];exact hpreq,S.less (fun b o h=>.inl h) (List.Sublist.refl _)⟩ (by omega)
 ·have hie : i=R.length:=by omega
  subst hie
  rw [afA,agF hpre] at h
  exact h _ S.ext
end Go.Proofs
end
section
namespace Go.Proofs.Tryz
open Go.Sh
set_option maxRecDepth 100000
def QU (t0 : Value) (w : World) (K : VW) : Prop:=
 pw w (Instr.box 58 t0) fun t1 w1=>
 zo [(i6 0)] w1 (fun s3 _d4 w5 K2=>
 fl w5 t1 58 1 56 fun t6=>pp (Builtin.len_ #[56] 3 #[t6]) fun t7=>bf .lss 3 (s3.getD 0 undef) t7 fun t8=>zc t8 (fl w5 t1 58 1 56 fun t12=>xl w5 56 t12 (s3.getD 0 undef) 90 fun t15=>bt .eql 90 t15 (i6 (-1)) fun t16=>zc t16 (K tr_ w5) (bt .add 3 (s3.getD 0 undef) (i6 1) fun t10=>K2 [t10] w5)) (K fa_ w5))
theorem acF {t0 : Value} {w : World} {K : VW} (h : QU t0 w K) : zd prog ZS #[t0] w K:=
 okC false (.s (.r (rz 2 0 2)) (.s (.s (.r (rz 1 0 0)) (.b (.lp [3] (.s (.s (.r (rz 5 0 16)) (.c (.n) (.n))) (.s (.b (.s (.r (rz 6 0 260)) (.c (.s (.r (rz 1 0 0)) (.n)) (.n)))) (.r (rz 3 0 0))))))) (.s (.r (rz 1 0 0)) (.n)))) func34 rfl (by kernel_rfl) (by kernel_rfl) h
def J5 (t0 t1 : Value) (w : World) (K : VW) : Prop:=
 pw w (Instr.box 64 t0) fun t2 w1=>
 lo w1 64 t2 fun t7=>ca jw #[t7] w1 fun t8 w2=>
 zo [(i6 0)] w2 (fun s4 _d5 w6 K3=>
 pp (Builtin.len_ #[62] 3 #[t8]) fun t11=>bf .lss 3 (s4.getD 0 undef) t11 fun t12=>zc t12 (px 62 t8 (s4.getD 0 undef) fun t17=>fl w6 t17 61 0 59 fun t19=>bt .eql 59 t19 (Value.int .u8 3) fun t20=>za (fun K7=>gIf t20 false (px 62 t8 (s4.getD 0 undef) fun t24=>fl w6 t24 61 0 59 fun t26=>bt .eql 59 t26 (Value.int .u8 4) fun t27=>K7 [t27] w6) (K7 [undef] w6)) (fun s8 _d9 w10=>
 zb t20 tr_ (s8.getD 0 undef) fun t28=>za (fun K11=>gIf t28 true (px 62 t8 (s4.getD 0 undef) fun t32=>pf 61 t32 2 fun t33=>fl w10 t33 58 0 3 fun t35=>bf .eql 3 t35 t1 fun t37=>K11 [t37] w10) (K11 [undef] w10)) (fun s12 _d13 w14=>
 zb t28 (s12.getD 0 undef) fa_ fun t38=>zc t38 (K tr_ w14) (bt .add 3 (s4.getD 0 undef) (i6 1) fun t14=>K3 [t14] w14)))) (fl w6 t2 64 0 55 fun t40=>bt .eql 55 t40 (Value.int .u8 4) fun t41=>za (fun K15=>gIf t41 true (pf 64 t2 6 fun t43=>fl w6 t43 58 0 3 fun t45=>bf .eql 3 t45 t1 fun t47=>K15 [t47] w6) (K15 [undef] w6)) (fun s16 _d17 w18=>
 zb t41 (s16.getD 0 undef) fa_ fun t48=>za (fun K19=>gIf t48 false (fl w18 t2 64 0 55 fun t51=>bt .eql 55 t51 (Value.int .u8 14) fun t52=>K19 [t52] w18) (K19 [undef] w18)) (fun s20 _d21 w22=>
 za (fun K23=>gIf (s20.getD 0 undef) true (bt .eql 3 t1 (i6 0) fun t55=>K23 [t55] w22) (K23 [undef] w22)) (fun s24 _d25 w26=>
 za (fun K27=>gIf t48 false (zb (s20.getD 0 undef) (s24.getD 0 undef) fa_ fun t56=>K27 [t56] w26) (K27 [undef] w26)) (fun s28 _d29 w30=>
 zb t48 tr_ (s28.getD 0 undef) fun t57=>zc t57 (K tr_ w30) (lo w30 64 t2 fun t58=>ca qc #[t58] w30 fun t59 w31=>
 za (fun K32=>gIf t59 true (fl w31 t2 64 1 58 fun t62=>ca ZS #[t62] w31 fun t63 w36=>
 K32 [t63] w36) (K32 [undef] w31)) (fun s33 _d34 w35=>
 zb t59 (s33.getD 0 undef) fa_ fun t64=>za (fun K37=>gIf t64 true (pf 64 t2 1 fun t66=>fl w35 t66 58 0 3 fun t68=>bf .eql 3 t68 t1 fun t70=>K37 [t70] w35) (K37 [undef] w35)) (fun s38 _d39 w40=>
 zb t64 (s38.getD 0 undef) fa_ fun t71=>K t71 w40)))))))))
theorem adX {t0 t1 : Value} {w : World} {K : VW} (h : J5 t0 t1 w K) : zd prog qy #[t0,t1] w K:=
 okC false (.s (.r (rz 2 0 2)) (.s (.r (rz 3 0 9)) (.s (.s (.r (rz 1 0 0)) (.b (.lp [6] (.s (.s (.r (rz 4 0 0)) (.c (.n) (.n))) (.s (.b (.s (.r (ra 7 0 256 (.grp 21 false (ri 6 7 256) [27] (ra 2 13 0 (.grp 29 true (ri 8 15 1024) [37] (rz 1 23 0)))))) (.c (.s (.r (rz 1 0 0)) (.n)) (.n)))) (.r (rz 3 0 0))))))) (.s (.s (.r (ra 4 0 4 (.grp 42 true (ri 5 4 16) [47] (ra 2 9 0 (.grp 49 false (ri 4 11 4) [53] (.grp 53 true (ri 2 15 0) [55] (.grp 49 false (ri 1 17 0) [56] (rz 1 18 0)))))))) (.c (.s (.r (rz 1 0 0)) (.n)) (.n))) (.s (.r (ra 3 0 9 (.grp 60 true (ri 3 3 36) [63] (ra 2 6 0 (.grp 65 true (ri 5 8 16) [70] (rz 2 13 0)))))) (.n)))))) func15 rfl (by kernel_rfl) (by kernel_rfl) h
def J6 (t0 t1 : Value) (w : World) (K : VW) : Prop:=
 pw w (Instr.box 64 t0) fun t2 w1=>
 lo w1 64 t2 fun t7=>ca qc #[t7] w1 fun t8 w2=>
 za (fun K3=>gIf t8 true (pf 64 t2 1 fun t10=>fl w2 t10 58 1 56 fun t12=>pp (Builtin.len_ #[56] 3 #[t12]) fun t13=>bt .eql 3 t13 (i6 0) fun t14=>K3 [t14] w2) (K3 [undef] w2)) (fun s4 _d5 w6=>
 zb t8 (s4.getD 0 undef) fa_ fun t15=>za (fun K7=>gIf t15 true (pf 64 t2 1 fun t17=>fl w6 t17 58 0 3 fun t19=>bf .eql 3 t19 t1 fun t21=>K7 [t21] w6) (K7 [undef] w6)) (fun s8 _d9 w10=>
 zb t15 (s8.getD 0 undef) fa_ fun t22=>fl w10 t2 64 0 55 fun t24=>bt .eql 55 t24 (Value.int .u8 11) fun t25=>za (fun K11=>gIf t25 true (pf 64 t2 6 fun t27=>fl w10 t27 58 0 3 fun t29=>bf .eql 3 t29 t1 fun t31=>K11 [t31] w10) (K11 [undef] w10)) (fun s12 _d13 w14=>
 zb t25 (s12.getD 0 undef) fa_ fun t32=>za (fun K15=>gIf t22 false (K15 [t32] w14) (K15 [undef] w14)) (fun s16 _d17 w18=>
 zb t22 tr_ (s16.getD 0 undef) fun t36=>za (fun K19=>gIf t36 true (lo w18 64 t2 fun t38=>ca qy #[t38,t1] w18 fun t40 w23=>
 pp (Op.unary .not t40) fun t41=>K19 [t41] w23) (K19 [undef] w18)) (fun s20 _d21 w22=>
 zb t36 (s20.getD 0 undef) fa_ fun t42=>K t42 w22)))))
theorem adY {t0 t1 : Value} {w : World} {K : VW} (h : J6 t0 t1 w K) : zd prog j9 #[t0,t1] w K:=
 okC false (.s (.r (rz 2 0 2)) (.s (.r (ra 3 0 9 (.grp 9 true (ri 5 3 16) [14] (ra 2 8 0 (.grp 16 true (ri 5 10 16) [21] (rz 2 15 0)))))) (.s (.r (ra 4 0 4 (.grp 26 true (ri 5 4 16) [31] (rz 2 9 0)))) (.s (.r (ra 2 0 0 (.grp 34 false (ri 1 2 0) [35] (ra 2 3 0 (.grp 37 true (ri 4 5 33) [41] (rz 2 9 0)))))) (.n))))) func16 rfl (by kernel_rfl) (by kernel_rfl) h
def J7 (t0 : Value) (w : World) (K : VW) : Prop:=
 pw w (Instr.box 43 t0) fun t1 w1=>
 zo [(Value.slice Option.none 0 0),(i6 0)] w1 (fun s3 _d4 w5 K2=>
 fl w5 t1 43 4 39 fun t13=>pp (Builtin.len_ #[39] 3 #[t13]) fun t14=>bf .lss 3 (s3.getD 1 undef) t14 fun t15=>zc t15 (fl w5 t1 43 6 41 fun t19=>pp (Builtin.len_ #[41] 3 #[t19]) fun t20=>pw w5 (Instr.makeSlice 52 t20 t20) fun t21 w6=>
 zo [tr_] w6 (fun s8 _d9 w10 K7=>
 zc (s8.getD 0 undef) (fl w10 t1 43 6 41 fun t24=>pp (Builtin.len_ #[41] 3 #[t24]) fun t25=>bt .sub 3 t25 (i6 1) fun t26=>zo [fa_,t26] w10 (fun s12 _d13 w14 K11=>
 bt .geq 3 (s12.getD 1 undef) (i6 0) fun t28=>zc t28 (za (fun K15=>
 fl w14 t1 43 6 41 fun t32=>xl w14 41 t32 (s12.getD 1 undef) 64 fun t35=>ca qy #[t35,(s3.getD 1 undef)] w14 fun t37 w19=>
 lo w19 43 t1 fun t38=>ca Yq #[t38,(s12.getD 1 undef)] w19 fun t40 w20=>
 zo [t37,(i6 0)] w20 (fun s22 _d23 w24 K21=>
 pp (Builtin.len_ #[32] 3 #[t40]) fun t43=>bf .lss 3 (s22.getD 1 undef) t43 fun t44=>za (fun K25=>gIf t44 true (fl w24 t1 43 6 41 fun t47=>xl w24 41 t47 (s12.getD 1 undef) 64 fun t50=>ca j9 #[t50,(s3.getD 1 undef)] w24 fun t52 w29=>
 pp (Op.unary .not t52) fun t53=>K25 [t53] w29) (K25 [undef] w24)) (fun s26 _d27 w28=>
 zb t44 (s26.getD 0 undef) fa_ fun t54=>zc t54 (za (fun K30=>gIf (s22.getD 0 undef) false (xl w28 32 t40 (s22.getD 1 undef) 3 fun t63=>xl w28 52 t21 t63 4 fun t65=>K30 [t65] w28) (K30 [undef] w28)) (fun s31 _d32 w33=>
 zb (s22.getD 0 undef) tr_ (s31.getD 0 undef) fun t66=>bt .add 3 (s22.getD 1 undef) (i6 1) fun t56=>K21 [t66,t56] w33)) (za (fun K34=>gIf (s22.getD 0 undef) true (xl w28 52 t21 (s12.getD 1 undef) 4 fun t72=>pp (Op.unary .not t72) fun t73=>K34 [t73] w28) (K34 [undef] w28)) (fun s35 _d36 w37=>
 zb (s22.getD 0 undef) (s35.getD 0 undef) fa_ fun t74=>zc t74 (px 52 t21 (s12.getD 1 undef) fun t77=>so w37 4 t77 tr_ fun w38=>K15 [tr_] w38) (K15 [(s12.getD 0 undef)] w37)))))) (fun s16 _d17 w18=>
 bt .sub 3 (s12.getD 1 undef) (i6 1) fun t30=>K11 [(s16.getD 0 undef),t30] w18)) (K7 [(s12.getD 0 undef)] w14))) (pw w10 (Instr.buildSlice 44 1 #[(0,t21)]) fun t80 w39=>
 pw w39 (Builtin.append_ #[44,44] 44 #[(s3.getD 0 undef),t80]) fun t81 w40=>
 bt .add 3 (s3.getD 1 undef) (i6 1) fun t17=>K2 [t81,t17] w40))) (K (s3.getD 0 undef) w5))
theorem adZ {t0 : Value} {w : World} {K : VW} (h : J7 t0 w K) : zd prog YK #[t0] w K:=
 okC false (.s (.r (rz 2 0 2)) (.s (.r (rz 1 0 0)) (.s (.s (.r (rz 1 0 0)) (.b (.lp [3,4] (.s (.s (.r (rz 5 0 16)) (.c (.n) (.n))) (.s (.b (.s (.r (rz 5 0 132)) (.s (.s (.r (rz 1 0 0)) (.b (.lp [6] (.s (.s (.r (rz 1 0 0)) (.c (.n) (.n))) (.b (.s (.r (rz 1 0 0)) (.s (.r (rz 5 0 4)) (.b (.lp [6,7] (.s (.s (.r (rz 2 0 0)) (.c (.n) (.n))) (.j [6] (.b (.s (.r (rz 8 0 8452)) (.s (.r (rz 4 0 33)) (.s (.s (.r (rz 1 0 0)) (.b (.lp [8,10] (.s (.s (.r (ra 5 0 0 (.grp 45 true (ri 8 5 8452) [53] (rz 1 13 0)))) (.c (.n) (.n))) (.s (.b (.r (ra 2 0 0 (.grp 58 false (ri 7 2 4352) [65] (rz 2 9 0))))) (.r (rz 3 0 0))))))) (.s (.r (ra 2 0 0 (.grp 68 true (ri 5 2 64) [73] (rz 1 7 0)))) (.c (.s (.r (rz 4 0 128)) (.r (rz 1 0 0))) (.n))))))) (.r (rz 3 0 0))))))))))))) (.r (rz 5 0 160))))) (.r (rz 3 0 0))))))) (.s (.r (rz 2 0 0)) (.n))))) func11 rfl (by kernel_rfl) (by kernel_rfl) h
def YS (t0 t1 t2 : Value) (w : World) (K : VW) : Prop:=
 pw w (Instr.box 25 t0) fun t3 w1=>
 lo w1 25 t3 fun t26=>ca YM #[t26] w1 fun t27 w2=>
 pp (Op.unary .not t27) fun t28=>zc t28 (ca xN #[] w2 fun t29 w3=>
 K t29 w3) (lo w2 25 t3 fun t31=>ca jQ #[t31,t1] w2 fun t33 w4=>
 pe t33 0 fun t34=>pe t33 1 fun t35=>lo w4 25 t3 fun t37=>ca jQ #[t37,t1] w4 fun t39 w5=>
 pe t39 0 fun t40=>pe t39 1 fun _t41=>lo w5 25 t3 fun t43=>ca Xp #[t43,t1,t2] w5 fun t46 w6=>
 pe t46 0 fun t47=>pe t46 1 fun t48=>lo w6 25 t3 fun t50=>ca Zi #[t50,t1,t2] w6 fun t53 w7=>
 pe t53 0 fun t54=>pe t53 1 fun t55=>lo w7 25 t3 fun t57=>ca Zj #[t57,t1,t2] w7 fun t60 w8=>
 pe t60 0 fun t61=>pe t60 1 fun t62=>pe t60 2 fun t63=>lo w8 25 t3 fun t64=>ca Qb #[t64,t1,(i6 (-1))] w8 fun t66 w9=>
 pp (Op.unary .not t66) fun t67=>zc t67 (pp (Builtin.len_ #[28] 3 #[t34]) fun t69=>bt .eql 3 t69 (i6 0) fun t70=>za (fun K10=>gIf t70 true (pp (Builtin.len_ #[32] 3 #[t47]) fun t73=>bt .eql 3 t73 (i6 0) fun t74=>K10 [t74] w9) (K10 [undef] w9)) (fun s11 _d12 w13=>
 zb t70 (s11.getD 0 undef) fa_ fun t75=>za (fun K14=>gIf t75 true (pp (Builtin.len_ #[32] 3 #[t54]) fun t78=>bt .eql 3 t78 (i6 0) fun t79=>K14 [t79] w13) (K14 [undef] w13)) (fun s15 _d16 w17=>
 zb t75 (s15.getD 0 undef) fa_ fun t80=>za (fun K18=>gIf t80 true (bt .eql 3 t61 (i6 0) fun t83=>K18 [t83] w17) (K18 [undef] w17)) (fun s19 _d20 w21=>
 zb t80 (s19.getD 0 undef) fa_ fun t84=>za (fun K22=>gIf t84 true (pp (Op.unary .not t62) fun t87=>K22 [t87] w21) (K22 [undef] w21)) (fun s23 _d24 w25=>
 zb t84 (s23.getD 0 undef) fa_ fun t88=>za (fun K26=>gIf t88 true (bt .eql 29 t35 (i6 2) fun t91=>K26 [t91] w25) (K26 [undef] w25)) (fun s27 _d28 w29=>
 zb t88 (s27.getD 0 undef) fa_ fun t92=>za (fun K30=>gIf t92 true (bt .eql 29 t48 (i6 2) fun t95=>K30 [t95] w29) (K30 [undef] w29)) (fun s31 _d32 w33=>
 zb t92 (s31.getD 0 undef) fa_ fun t96=>za (fun K34=>gIf t96 true (bt .eql 29 t55 (i6 2) fun t99=>K34 [t99] w33) (K34 [undef] w33)) (fun s35 _d36 w37=>
 zb t96 (s35.getD 0 undef) fa_ fun t100=>za (fun K38=>gIf t100 true (bt .eql 29 t63 (i6 2) fun t103=>K38 [t103] w37) (K38 [undef] w37)) (fun s39 _d40 w41=>
 zb t100 (s39.getD 0 undef) fa_ fun t104=>za (fun K42=>gIf t104 true (ca xN #[] w41 fun t106 w46=>
 K42 [t106] w46) (K42 [undef] w41)) (fun s43 _d44 w45=>
 zb t104 (s43.getD 0 undef) fa_ fun t107=>K t107 w45)))))))))) (fl w9 t3 25 1 23 fun t109=>xl w9 23 t109 t1 43 fun t112=>pw w9 (Instr.alloc 43 true (.tuple #[])) fun t18 w47=>
 so w47 43 t18 t112 fun w48=>lo w48 43 t18 fun t113=>ca YK #[t113] w48 fun t114 w49=>
 bt .neq 29 t35 (i6 0) fun t116=>za (fun K50=>gIf t116 false (pp (Builtin.len_ #[28] 3 #[t34]) fun t119=>pp (Builtin.len_ #[44] 3 #[t114]) fun t121=>bf .neq 3 t119 t121 fun t122=>K50 [t122] w49) (K50 [undef] w49)) (fun s51 _d52 w53=>
 zb t116 tr_ (s51.getD 0 undef) fun t123=>za (fun K54=>gIf t123 false (pp (Builtin.len_ #[28] 3 #[t40]) fun t126=>pp (Builtin.len_ #[44] 3 #[t114]) fun t128=>bf .neq 3 t126 t128 fun t129=>K54 [t129] w53) (K54 [undef] w53)) (fun s55 _d56 w57=>
 zb t123 tr_ (s55.getD 0 undef) fun t130=>zc t130 (K fa_ w57) (zo [(i6 0)] w57 (fun s59 _d60 w61 K58=>
 pp (Builtin.len_ #[28] 3 #[t34]) fun t133=>bf .lss 3 (s59.getD 0 undef) t133 fun t134=>zc t134 (xl w61.drew 28 t34 (s59.getD 0 undef) 49 fun t140=>ca XF #[t140] w61.drew fun t141 w62=>
 pp (Op.unary .not t141) fun t142=>za (fun K63=>gIf t142 false (px 28 t34 (s59.getD 0 undef) fun t146=>fl w62 t146 49 0 3 fun t148=>fl w62 t18 43 6 41 fun t150=>pp (Builtin.len_ #[41] 3 #[t150]) fun t151=>bf .neq 3 t148 t151 fun t152=>K63 [t152] w62) (K63 [undef] w62)) (fun s64 _d65 w66=>
 zb t142 tr_ (s64.getD 0 undef) fun t153=>za (fun K67=>gIf t153 false (xl w66 28 t34 (s59.getD 0 undef) 49 fun t158=>xl w66 44 t114 (s59.getD 0 undef) 52 fun t163=>ca vc #[t158] w66 fun t159 w71=>
 Ext w66 w71∧
 ca kp #[t159,t163] w71 fun t164 w72=>
 pp (Op.unary .not t164) fun t165=>K67 [t165] w72) (K67 [undef] w66)) (fun s68 _d69 w70=>
 zb t153 tr_ (s68.getD 0 undef) fun t166=>zc t166 (K fa_ w70) (zo [(i6 0)] w70 (fun s74 _d75 w76 K73=>
 px 28 t34 (s59.getD 0 undef) fun t170=>fl w76 t170 49 1 47 fun t172=>pp (Builtin.len_ #[47] 3 #[t172]) fun t173=>bf .lss 3 (s74.getD 0 undef) t173 fun t174=>zc t174 (px 28 t34 (s59.getD 0 undef) fun t179=>fl w76.drew t179 49 1 47 fun t181=>px 28 t34 (s59.getD 0 undef) fun t185=>fl w76.drew t185 49 1 47 fun t187=>xl w76.drew 47 t187 (s74.getD 0 undef) 53 fun t190=>pp (Op.unary .xor t190) fun t191=>px 47 t181 (s74.getD 0 undef) fun t192=>so w76.drew 53 t192 t191 fun w77=>bt .add 3 (s74.getD 0 undef) (i6 1) fun t176=>K73 [t176] w77) (xl w76.drew 28 t40 (s59.getD 0 undef) 49 fun t196=>xl w76.drew 44 t114 (s59.getD 0 undef) 52 fun t201=>ca vc #[t196] w76.drew fun t197 w78=>
 Ext w76.drew w78∧
 ca kp #[t197,t201] w78 fun t202 w79=>
 pp (Op.unary .not t202) fun t203=>zc t203 (K fa_ w79) (bt .add 3 (s59.getD 0 undef) (i6 1) fun t136=>K58 [t136] w79))))))) (bt .lss 3 t2 (i6 0) fun t205=>za (fun K80=>gIf t205 false (fl w61 t18 43 6 41 fun t209=>pp (Builtin.len_ #[41] 3 #[t209]) fun t210=>bf .geq 3 t2 t210 fun t211=>K80 [t211] w61) (K80 [undef] w61)) (fun s81 _d82 w83=>
 zb t205 tr_ (s81.getD 0 undef) fun t212=>zc t212 (pp (Builtin.len_ #[32] 3 #[t47]) fun t214=>bt .eql 3 t214 (i6 0) fun t215=>za (fun K84=>gIf t215 true (pp (Builtin.len_ #[32] 3 #[t54]) fun t218=>bt .eql 3 t218 (i6 0) fun t219=>K84 [t219] w83) (K84 [undef] w83)) (fun s85 _d86 w87=>
 zb t215 (s85.getD 0 undef) fa_ fun t220=>za (fun K88=>gIf t220 true (bt .eql 3 t61 (i6 0) fun t223=>K88 [t223] w87) (K88 [undef] w87)) (fun s89 _d90 w91=>
 zb t220 (s89.getD 0 undef) fa_ fun t224=>za (fun K92=>gIf t224 true (pp (Op.unary .not t62) fun t227=>K92 [t227] w91) (K92 [undef] w91)) (fun s93 _d94 w95=>
 zb t224 (s93.getD 0 undef) fa_ fun t228=>za (fun K96=>gIf t228 true (bt .eql 29 t48 (i6 2) fun t231=>K96 [t231] w95) (K96 [undef] w95)) (fun s97 _d98 w99=>
 zb t228 (s97.getD 0 undef) fa_ fun t232=>za (fun K100=>gIf t232 true (bt .eql 29 t55 (i6 2) fun t235=>K100 [t235] w99) (K100 [undef] w99)) (fun s101 _d102 w103=>
 zb t232 (s101.getD 0 undef) fa_ fun t236=>za (fun K104=>gIf t236 true (bt .eql 29 t63 (i6 2) fun t239=>K104 [t239] w103) (K104 [undef] w103)) (fun s105 _d106 w107=>
 zb t236 (s105.getD 0 undef) fa_ fun t240=>za (fun K108=>gIf t240 true (ca xN #[] w107 fun t242 w112=>
 K108 [t242] w112) (K108 [undef] w107)) (fun s109 _d110 w111=>
 zb t240 (s109.getD 0 undef) fa_ fun t243=>K t243 w111)))))))) (za (fun K113=>
 fl w83.drew t18 43 4 39 fun t245=>pp (Builtin.len_ #[39] 3 #[t245]) fun t246=>fl w83.drew t18 43 4 39 fun t249=>pp (Builtin.len_ #[39] 3 #[t249]) fun t250=>((pw w83.drew (Instr.makeSlice 52 t246 t246) fun t247 w117=>
 Ext w83.drew w117∧
 pw w117 (Instr.makeSlice 52 t250 t250) fun t251 w118=>
 Ext w117 w118∧
 K113 [t247,t251] w118)∧
 (pw w83.drew (Instr.makeSlice 52 t250 t250) fun t251_120 w119=>
 Ext w83.drew w119∧
 pw w119 (Instr.makeSlice 52 t246 t246) fun t247_122 w121=>
 Ext w119 w121∧
 K113 [t247_122,t251_120] w121))) (fun s114 _d115 w116=>
 zo [(i6 (-1)),(i6 0)] w116 (fun s124 _d125 w126 K123=>
 fl w126 t18 43 4 39 fun t254=>pp (Builtin.len_ #[39] 3 #[t254]) fun t255=>bf .lss 3 (s124.getD 1 undef) t255 fun t256=>zc t256 (za (fun K127=>
 xl w126 44 t114 (s124.getD 1 undef) 52 fun t264=>xl w126 52 t264 t2 4 fun t267=>px 52 (s114.getD 0 undef) (s124.getD 1 undef) fun t268=>so w126 4 t268 t267 fun w131=>fl w131 t18 43 6 41 fun t272=>xl w131 41 t272 t2 64 fun t275=>ca qy #[t275,(s124.getD 1 undef)] w131 fun t277 w132=>
 px 52 (s114.getD 1 undef) (s124.getD 1 undef) fun t278=>so w132 4 t278 t277 fun w133=>fl w133 t18 43 6 41 fun t280=>xl w133 41 t280 t2 64 fun t283=>ca j9 #[t283,(s124.getD 1 undef)] w133 fun t285 w134=>
 zc t285 (K127 [(s124.getD 1 undef)] w134) (K127 [(s124.getD 0 undef)] w134)) (fun s128 _d129 w130=>
 bt .add 3 (s124.getD 1 undef) (i6 1) fun t258=>K123 [(s128.getD 0 undef),t258] w130)) (bt .eql 29 t48 (i6 0) fun t288=>za (fun K135=>gIf t288 true (bt .eql 29 t55 (i6 0) fun t291=>K135 [t291] w126) (K135 [undef] w126)) (fun s136 _d137 w138=>
 zb t288 (s136.getD 0 undef) fa_ fun t292=>za (fun K139=>gIf t292 true (bt .eql 29 t63 (i6 0) fun t295=>K139 [t295] w138) (K139 [undef] w138)) (fun s140 _d141 w142=>
 zb t292 (s140.getD 0 undef) fa_ fun t296=>za (fun K143=>gIf t296 true (ca kp #[t47,(s114.getD 0 undef)] w142 fun t300 w147=>
 K143 [t300] w147) (K143 [undef] w142)) (fun s144 _d145 w146=>
 zb t296 (s144.getD 0 undef) fa_ fun t301=>za (fun K148=>gIf t301 true (ca kp #[t54,(s114.getD 1 undef)] w146 fun t305 w152=>
 K148 [t305] w152) (K148 [undef] w146)) (fun s149 _d150 w151=>
 zb t301 (s149.getD 0 undef) fa_ fun t306=>za (fun K153=>gIf t306 true (bt .geq 3 (s124.getD 0 undef) (i6 0) fun t310=>bf .eql 4 t62 t310 fun t311=>K153 [t311] w151) (K153 [undef] w151)) (fun s154 _d155 w156=>
 zb t306 (s154.getD 0 undef) fa_ fun t312=>za (fun K157=>gIf t312 true (pp (Builtin.max_ #[3,3] 3 #[(s124.getD 0 undef),(i6 0)]) fun t316=>bf .eql 3 t61 t316 fun t317=>K157 [t317] w156) (K157 [undef] w156)) (fun s158 _d159 w160=>
 zb t312 (s158.getD 0 undef) fa_ fun t318=>za (fun K161=>gIf t318 true (ca xN #[] w160 fun t320 w165=>
 K161 [t320] w165) (K161 [undef] w160)) (fun s162 _d163 w164=>
 zb t318 (s162.getD 0 undef) fa_ fun t321=>K t321 w164)))))))))))))))))))
theorem VH {t0 t1 t2 : Value} {w : World} {K : VW} (h : YS t0 t1 t2 w K) : zd prog YL #[t0,t1,t2] w K:=
 okC false (.s (.r (rz 2 0 2)) (.s (.s (.r (rz 3 0 9)) (.c (.s (.r (rz 2 0 2)) (.n)) (.n))) (.s (.r (rz 8 0 33)) (.s (.r (rz 8 0 33)) (.s (.r (rz 9 0 129)) (.s (.r (rz 9 0 129)) (.s (.r (rz 11 0 129)) (.s (.s (.r (rz 4 0 33)) (.c (.s (.r (ra 4 0 0 (.grp 71 true (ri 3 4 0) [74] (ra 2 7 0 (.grp 76 true (ri 3 9 0) [79] (ra 2 12 0 (.grp 81 true (ri 2 14 0) [83] (ra 2 16 0 (.grp 85 true (ri 2 18 0) [87] (ra 2 20 0 (.grp 89 true (ri 2 22 0) [91] (ra 2 24 0 (.grp 93 true (ri 2 26 0) [95] (ra 2 28 0 (.grp 97 true (ri 2 30 0) [99] (ra 2 32 0 (.grp 101 true (ri 2 34 0) [103] (ra 2 36 0 (.grp 105 true (ri 1 38 2) [106] (rz 2 39 0)))))))))))))))))))) (.n)) (.n))) (.s (.r (rz 7 0 10500)) (.s (.r (rz 3 0 9)) (.s (.s (.r (ra 3 0 0 (.grp 117 false (ri 5 3 0) [122] (ra 2 8 0 (.grp 124 false (ri 5 10 0) [129] (rz 1 15 0)))))) (.c (.s (.r (rz 1 0 0)) (.n)) (.n))) (.s (.s (.r (rz 1 0 0)) (.b (.lp [20] (.s (.s (.r (rz 4 0 0)) (.c (.n) (.n))) (.s (.b (.s (.s (.r (ra 7 0 576 (.grp 143 false (ri 9 7 4352) [152] (ra 2 16 0 (.grp 154 false [(18,.p),(19,.p),(20,.p),(21,.q),(23,.p),(24,.p),(25,.p),(26,.q),(22,.u),(27,.l),(28,.p)] [165] (rz 1 29 0)))))) (.c (.s (.r (rz 1 0 0)) (.n)) (.n))) (.s (.s (.r (rz 1 0 0)) (.b (.lp [21] (.s (.s (.r (rz 8 0 1024)) (.c (.n) (.n))) (.s (.b (.r (rz 17 0 8658092288))) (.r (rz 3 0 0))))))) (.s (.r (ra 4 0 64 (ra 4 5 64 (ra 1 4 3 (rz 2 9 2))))) (.c (.s (.r (rz 1 0 0)) (.n)) (.n)))))) (.r (rz 3 0 0))))))) (.s (.s (.r (ra 3 0 0 (.grp 206 false (ri 5 3 16) [211] (rz 1 8 0)))) (.c (.s (.r (ra 4 0 0 (.grp 216 true (ri 3 4 0) [219] (ra 2 7 0 (.grp 221 true (ri 2 9 0) [223] (ra 2 11 0 (.grp 225 true (ri 2 13 0) [227] (ra 2 15 0 (.grp 229 true (ri 2 17 0) [231] (ra 2 19 0 (.grp 233 true (ri 2 21 0) [235] (ra 2 23 0 (.grp 237 true (ri 2 25 0) [239] (ra 2 27 0 (.grp 241 true (ri 1 29 2) [242] (rz 2 30 0)))))))))))))))) (.n)) (.n))) (.j [22,23] (.r (ra 3 0 4 (ra 3 4 4 (.alt 3 .u (ra 1 8 0 (ra 1 7 3 (rz 1 9 0))) (ra 1 7 3 (ra 1 3 3 (rz 2 8 0))))))) (.s (.r (rz 1 0 0)) (.s (.s (.r (rz 1 0 0)) (.b (.lp [24,25] (.s (.s (.r (rz 5 0 16)) (.c (.n) (.n))) (.j [24] (.b (.s (.r (rz 11 0 2163712)) (.s (.r (rz 11 0 2232384)) (.s (.r (rz 7 0 8452)) (.c (.r (rz 2 0 0)) (.n)))))) (.r (rz 3 0 0))))))) (.s (.r (ra 3 0 0 (.grp 289 true (ri 2 3 0) [291] (ra 2 5 0 (.grp 293 true (ri 2 7 0) [295] (ra 2 9 0 (.grp 297 true (ri 3 11 32) [300] (ra 2 14 0 (.grp 302 true (ri 3 16 32) [305] (ra 2 19 0 (.grp 307 true (ri 4 21 0) [311] (ra 2 25 0 (.grp 313 true (ri 4 27 0) [317] (ra 2 31 0 (.grp 319 true (ri 1 33 2) [320] (rz 2 34 0)))))))))))))))) (.n)))))))))))))))))) func3 rfl (by kernel_rfl) (by kernel_rfl) h
def J8 (t0 : Value) (w : World) (K : VW) : Prop:=
 pw w (Instr.box 25 t0) fun t1 w1=>
 fl w1 t1 25 0 22 fun t7=>pp (Builtin.len_ #[22] 3 #[t7]) fun t8=>bt .gtr 3 t8 (i6 40) fun t9=>za (fun K2=>gIf t9 false (fl w1 t1 25 1 23 fun t12=>pp (Builtin.len_ #[23] 3 #[t12]) fun t13=>bt .gtr 3 t13 (i6 40) fun t14=>K2 [t14] w1) (K2 [undef] w1)) (fun s3 _d4 w5=>
 zb t9 tr_ (s3.getD 0 undef) fun t15=>zc t15 (K fa_ w5) (zo [(i6 0)] w5 (fun s7 _d8 w9 K6=>
 fl w9 t1 25 0 22 fun t18=>pp (Builtin.len_ #[22] 3 #[t18]) fun t19=>bf .lss 3 (s7.getD 0 undef) t19 fun t20=>zc t20 (fl w9 t1 25 0 22 fun t24=>px 22 t24 (s7.getD 0 undef) fun t26=>fl w9 t26 67 1 65 fun t28=>pp (Builtin.len_ #[65] 3 #[t28]) fun t29=>bt .gtr 3 t29 (i6 20) fun t30=>zc t30 (K fa_ w9) (bt .add 3 (s7.getD 0 undef) (i6 1) fun t22=>K6 [t22] w9)) (zo [(i6 0),(i6 0)] w9 (fun s11 _d12 w13 K10=>
 fl w13 t1 25 1 23 fun t33=>pp (Builtin.len_ #[23] 3 #[t33]) fun t34=>bf .lss 3 (s11.getD 1 undef) t34 fun t35=>zc t35 (fl w13.drew t1 25 1 23 fun t40=>px 23 t40 (s11.getD 1 undef) fun t42=>fl w13.drew t42 43 6 41 fun t44=>pp (Builtin.len_ #[41] 3 #[t44]) fun t45=>fl w13.drew t1 25 1 23 fun t47=>px 23 t47 (s11.getD 1 undef) fun t49=>fl w13.drew t49 43 4 39 fun t51=>pp (Builtin.len_ #[39] 3 #[t51]) fun t52=>bf .add 3 t45 t52 fun t53=>bf .add 3 (s11.getD 0 undef) t53 fun t54=>fl w13.drew t1 25 1 23 fun t56=>px 23 t56 (s11.getD 1 undef) fun t58=>fl w13.drew t58 43 6 41 fun t60=>pp (Builtin.len_ #[41] 3 #[t60]) fun t61=>bt .gtr 3 t61 (i6 150) fun t62=>za (fun K14=>gIf t62 false (fl w13.drew t1 25 1 23 fun t65=>px 23 t65 (s11.getD 1 undef) fun t67=>fl w13.drew t67 43 4 39 fun t69=>pp (Builtin.len_ #[39] 3 #[t69]) fun t70=>bt .gtr 3 t70 (i6 150) fun t71=>K14 [t71] w13.drew) (K14 [undef] w13.drew)) (fun s15 _d16 w17=>
 zb t62 tr_ (s15.getD 0 undef) fun t72=>za (fun K18=>gIf t72 false (bt .gtr 3 t54 (i6 600) fun t75=>K18 [t75] w17) (K18 [undef] w17)) (fun s19 _d20 w21=>
 zb t72 tr_ (s19.getD 0 undef) fun t76=>zc t76 (K fa_ w21) (bt .add 3 (s11.getD 1 undef) (i6 1) fun t37=>K10 [t54,t37] w21)))) (K tr_ w13))))))
theorem ad0 {t0 : Value} {w : World} {K : VW} (h : J8 t0 w K) : zd prog YM #[t0] w K:=
 okC false (.s (.r (rz 2 0 2)) (.s (.s (.r (ra 5 0 4 (.grp 10 false (ri 4 5 4) [14] (rz 1 9 0)))) (.c (.s (.r (rz 1 0 0)) (.n)) (.n))) (.s (.r (rz 1 0 0)) (.s (.s (.r (rz 1 0 0)) (.b (.lp [4] (.s (.s (.r (rz 5 0 16)) (.c (.n) (.n))) (.s (.b (.s (.r (rz 8 0 1028)) (.c (.s (.r (rz 1 0 0)) (.n)) (.n)))) (.r (rz 3 0 0))))))) (.s (.s (.r (rz 1 0 0)) (.b (.lp [3,5] (.s (.s (.r (rz 5 0 16)) (.c (.n) (.n))) (.s (.b (.s (.r (rz 18 0 67375120)) (.s (.r (ra 9 0 1028 (.grp 63 false (ri 8 9 1028) [71] (ra 2 17 0 (.grp 73 false (ri 2 19 0) [75] (rz 1 21 0)))))) (.c (.s (.r (rz 1 0 0)) (.n)) (.n))))) (.r (rz 3 0 0))))))) (.s (.r (rz 1 0 0)) (.n))))))) func4 rfl (by kernel_rfl) (by kernel_rfl) h
def QV (w : World) (K : VW) : Prop:=
 ca YN #[] w fun t18 w1=>
 pw w1 (Instr.alloc 25 true (.tuple #[])) fun t1 w2=>
 so w2 25 t1 t18 fun w3=>lo w3 25 t1 fun t20=>ca jQ #[t20,(i6 0)] w3 fun t21 w4=>
 pe t21 0 fun t22=>pe t21 1 fun t23=>lo w4 25 t1 fun t25=>ca Xp #[t25,(i6 0),(i6 1)] w4 fun t26 w5=>
 pe t26 0 fun t27=>pe t26 1 fun t28=>lo w5 25 t1 fun t30=>ca Zi #[t30,(i6 0),(i6 2)] w5 fun t31 w6=>
 pe t31 0 fun t32=>pe t31 1 fun t33=>lo w6 25 t1 fun t35=>ca Zj #[t35,(i6 0),(i6 0)] w6 fun t36 w7=>
 pe t36 0 fun t37=>pe t36 1 fun t38=>pe t36 2 fun t39=>lo w7 25 t1 fun t41=>ca Qs #[t41,(i6 0),(i6 2),(i6 1)] w7 fun t42 w8=>
 pe t42 0 fun t43=>pe t42 1 fun t44=>pe t42 2 fun t45=>lo w8 25 t1 fun t47=>ca ZR #[t47,(i6 0),t22] w8 fun t49 w9=>
 pe t49 0 fun _t50=>pe t49 1 fun _t51=>pe t49 2 fun t52=>pe t49 3 fun t53=>bt .eql 29 t23 (i6 0) fun t55=>za (fun K10=>gIf t55 true (pp (Builtin.len_ #[28] 3 #[t22]) fun t58=>bt .eql 3 t58 (i6 3) fun t59=>K10 [t59] w9) (K10 [undef] w9)) (fun s11 _d12 w13=>
 zb t55 (s11.getD 0 undef) fa_ fun t60=>za (fun K14=>gIf t60 true (px 28 t22 (i6 2) fun t63=>fl w13 t63 49 0 3 fun t65=>bt .eql 3 t65 (i6 4) fun t66=>K14 [t66] w13) (K14 [undef] w13)) (fun s15 _d16 w17=>
 zb t60 (s15.getD 0 undef) fa_ fun t67=>za (fun K18=>gIf t67 true (bt .eql 29 t28 (i6 0) fun t70=>K18 [t70] w17) (K18 [undef] w17)) (fun s19 _d20 w21=>
 zb t67 (s19.getD 0 undef) fa_ fun t71=>za (fun K22=>gIf t71 true (pp (Builtin.len_ #[32] 3 #[t27]) fun t74=>bt .eql 3 t74 (i6 2) fun t75=>K22 [t75] w21) (K22 [undef] w21)) (fun s23 _d24 w25=>
 zb t71 (s23.getD 0 undef) fa_ fun t76=>za (fun K26=>gIf t76 true (xl w25 32 t27 (i6 0) 3 fun t80=>bt .eql 3 t80 (i6 0) fun t81=>K26 [t81] w25) (K26 [undef] w25)) (fun s27 _d28 w29=>
 zb t76 (s27.getD 0 undef) fa_ fun t82=>za (fun K30=>gIf t82 true (xl w29 32 t27 (i6 1) 3 fun t86=>bt .eql 3 t86 (i6 2) fun t87=>K30 [t87] w29) (K30 [undef] w29)) (fun s31 _d32 w33=>
 zb t82 (s31.getD 0 undef) fa_ fun t88=>za (fun K34=>gIf t88 true (bt .eql 29 t33 (i6 0) fun t91=>K34 [t91] w33) (K34 [undef] w33)) (fun s35 _d36 w37=>
 zb t88 (s35.getD 0 undef) fa_ fun t92=>za (fun K38=>gIf t92 true (pp (Builtin.len_ #[32] 3 #[t32]) fun t95=>bt .eql 3 t95 (i6 1) fun t96=>K38 [t96] w37) (K38 [undef] w37)) (fun s39 _d40 w41=>
 zb t92 (s39.getD 0 undef) fa_ fun t97=>za (fun K42=>gIf t97 true (xl w41 32 t32 (i6 0) 3 fun t101=>bt .eql 3 t101 (i6 2) fun t102=>K42 [t102] w41) (K42 [undef] w41)) (fun s43 _d44 w45=>
 zb t97 (s43.getD 0 undef) fa_ fun t103=>za (fun K46=>gIf t103 true (bt .eql 3 t37 (i6 2) fun t106=>K46 [t106] w45) (K46 [undef] w45)) (fun s47 _d48 w49=>
 zb t103 (s47.getD 0 undef) fa_ fun t107=>za (fun K50=>gIf t107 true (K50 [t38] w49) (K50 [undef] w49)) (fun s51 _d52 w53=>
 zb t107 (s51.getD 0 undef) fa_ fun t110=>za (fun K54=>gIf t110 true (bt .eql 29 t39 (i6 0) fun t113=>K54 [t113] w53) (K54 [undef] w53)) (fun s55 _d56 w57=>
 zb t110 (s55.getD 0 undef) fa_ fun t114=>za (fun K58=>gIf t114 true (K58 [t44] w57) (K58 [undef] w57)) (fun s59 _d60 w61=>
 zb t114 (s59.getD 0 undef) fa_ fun t117=>za (fun K62=>gIf t117 true (pp (Builtin.len_ #[32] 3 #[t43]) fun t120=>bt .eql 3 t120 (i6 2) fun t121=>K62 [t121] w61) (K62 [undef] w61)) (fun s63 _d64 w65=>
 zb t117 (s63.getD 0 undef) fa_ fun t122=>za (fun K66=>gIf t122 true (bt .eql 29 t45 (i6 0) fun t125=>K66 [t125] w65) (K66 [undef] w65)) (fun s67 _d68 w69=>
 zb t122 (s67.getD 0 undef) fa_ fun t126=>za (fun K70=>gIf t126 true (K70 [t52] w69) (K70 [undef] w69)) (fun s71 _d72 w73=>
 zb t126 (s71.getD 0 undef) fa_ fun t129=>za (fun K74=>gIf t129 true (bt .eql 29 t53 (i6 0) fun t132=>K74 [t132] w73) (K74 [undef] w73)) (fun s75 _d76 w77=>
 zb t129 (s75.getD 0 undef) fa_ fun t133=>K t133 w77)))))))))))))))))
theorem acG {w : World} {K : VW} (h : QV  w K) : zd prog xN #[] w K:=
 okC false (.s (.r (rz 1 0 0)) (.s (.r (rz 3 0 42)) (.s (.r (rz 7 0 9)) (.s (.r (rz 7 0 9)) (.s (.r (rz 7 0 9)) (.s (.r (rz 9 0 9)) (.s (.r (rz 9 0 9)) (.s (.r (rz 12 0 33)) (.s (.r (ra 3 0 0 (.grp 56 true (ri 3 3 0) [59] (ra 2 6 0 (.grp 61 true (ri 5 8 64) [66] (ra 2 13 0 (.grp 68 true (ri 2 15 0) [70] (ra 2 17 0 (.grp 72 true (ri 3 19 0) [75] (ra 2 22 0 (.grp 77 true (ri 4 24 16) [81] (ra 2 28 0 (.grp 83 true (ri 4 30 16) [87] (ra 2 34 0 (.grp 89 true (ri 2 36 0) [91] (ra 2 38 0 (.grp 93 true (ri 3 40 0) [96] (ra 2 43 0 (.grp 98 true (ri 4 45 16) [102] (ra 2 49 0 (.grp 104 true (ri 2 51 0) [106] (ra 2 53 0 (.grp 108 true (ri 1 55 0) [109] (ra 2 56 0 (.grp 111 true (ri 2 58 0) [113] (ra 2 60 0 (.grp 115 true (ri 1 62 0) [116] (ra 2 63 0 (.grp 118 true (ri 3 65 0) [121] (ra 2 68 0 (.grp 123 true (ri 2 70 0) [125] (ra 2 72 0 (.grp 127 true (ri 1 74 0) [128] (ra 2 75 0 (.grp 130 true (ri 2 77 0) [132] (rz 2 79 0)))))))))))))))))))))))))))))))))))) (.n)))))))))) func5 rfl (by kernel_rfl) (by kernel_rfl) h
def J9 (t0 t1 : Value) (w : World) (K : VW) : Prop:=
 zo [(i6 0),(i6 0)] w (fun s2 _d3 w4 K1=>
 pp (Builtin.len_ #[52] 3 #[t1]) fun t9=>bf .lss 3 (s2.getD 1 undef) t9 fun t10=>zc t10 (za (fun K5=>
 xl w4 52 t1 (s2.getD 1 undef) 4 fun t16=>zc t16 (pp (Builtin.len_ #[32] 3 #[t0]) fun t19=>bf .geq 3 (s2.getD 0 undef) t19 fun t20=>za (fun K9=>gIf t20 false (xl w4 32 t0 (s2.getD 0 undef) 3 fun t25=>bf .neq 3 t25 (s2.getD 1 undef) fun t27=>K9 [t27] w4) (K9 [undef] w4)) (fun s10 _d11 w12=>
 zb t20 tr_ (s10.getD 0 undef) fun t28=>zc t28 (K fa_ w12) (bt .add 3 (s2.getD 0 undef) (i6 1) fun t30=>K5 [t30] w12))) (K5 [(s2.getD 0 undef)] w4)) (fun s6 _d7 w8=>
 bt .add 3 (s2.getD 1 undef) (i6 1) fun t12=>K1 [(s6.getD 0 undef),t12] w8)) (pp (Builtin.len_ #[32] 3 #[t0]) fun t33=>bf .eql 3 (s2.getD 0 undef) t33 fun t34=>K t34 w4))
theorem ad1 {t0 t1 : Value} {w : World} {K : VW} (h : J9 t0 t1 w K) : zd prog kp #[t0,t1] w K:=
 okC false (.s (.r (rz 1 0 0)) (.s (.r (rz 1 0 0)) (.s (.s (.r (rz 1 0 0)) (.b (.lp [5,6] (.s (.s (.r (rz 4 0 0)) (.c (.n) (.n))) (.j [5] (.b (.s (.r (rz 4 0 64)) (.c (.s (.s (.r (ra 5 0 0 (.grp 21 false (ri 6 5 64) [27] (rz 1 11 0)))) (.c (.s (.r (rz 1 0 0)) (.n)) (.n))) (.r (rz 3 0 0))) (.n)))) (.r (rz 3 0 0))))))) (.s (.r (rz 5 0 0)) (.n))))) func13 rfl (by kernel_rfl) (by kernel_rfl) h
def Va (w : World) (K : VW) : Prop:=
 pw w (Instr.alloc 25 true (.tuple #[])) fun t0 w1=>
 pw w1 (Instr.buildSlice 56 1 #[(0,(i6 (-1)))]) fun t2 w2=>
 pp (Instr.build 58 #[(0,(i6 2)),(1,t2)]) fun t3=>pw w2 (Instr.alloc 58 true (.tuple #[])) fun t1 w3=>
 so w3 58 t1 t3 fun w4=>pp (Instr.build 58 #[(0,(i6 2))]) fun t9=>pp (Instr.build 58 #[(0,(i6 1))]) fun t10=>pp (Instr.build 64 #[(0,(Value.int .u8 4)),(1,t9),(6,t10),(7,tr_),(10,(i6 1))]) fun t11=>pp (Instr.build 58 #[(0,(i6 1))]) fun t12=>lo w4.drew 58 t1 fun t15=>pp (Instr.build 64 #[(0,(Value.int .u8 14))]) fun t18=>((ca xt #[] w4.drew fun t4 w5=>
 Ext w4.drew w5∧
 ((ca xt #[] w5 fun t5 w6=>
 Ext w5 w6∧
 ((ca kQ #[tr_] w6 fun t6 w7=>
 Ext w6 w7∧
 ((pw w7 (Instr.buildSlice 39 3 #[(0,t4),(1,t5),(2,t6)]) fun t7 w8=>
 Ext w7 w8∧
 ((pw w8 (Instr.makeSlice 40 (i6 3) (i6 3)) fun t8 w9=>
 Ext w8 w9∧
 ca zt #[(i6 2)] w9 fun t13 w10=>
 Ext w9 w10∧
 pp (Instr.build 64 #[(0,(Value.int .u8 1)),(1,t12),(2,t13),(10,(i6 2))]) fun t14=>ca zt #[(i6 3)] w10 fun t16 w11=>
 Ext w10 w11∧
 pp (Instr.build 64 #[(0,(Value.int .u8 1)),(1,t15),(2,t16),(10,(i6 3))]) fun t17=>pw w11 (Instr.buildSlice 41 4 #[(0,t11),(1,t14),(2,t17),(3,t18)]) fun t19 w12=>
 pp (Instr.build 43 #[(4,t7),(5,t8),(6,t19)]) fun t20=>pw w12 (Instr.buildSlice 23 1 #[(0,t20)]) fun t21 w13=>
 pp (Instr.build 25 #[(1,t21)]) fun t22=>so w13 25 t0 t22 fun w14=>pq w14 (zn 25 t0) fun r15=>K r15 w14)∧
 (ca zt #[(i6 2)] w8 fun t13_17 w16=>
 Ext w8 w16∧
 pp (Instr.build 64 #[(0,(Value.int .u8 1)),(1,t12),(2,t13_17),(10,(i6 2))]) fun t14_18=>((pw w16 (Instr.makeSlice 40 (i6 3) (i6 3)) fun t8_20 w19=>
 Ext w16 w19∧
 ca zt #[(i6 3)] w19 fun t16_22 w21=>
 Ext w19 w21∧
 pp (Instr.build 64 #[(0,(Value.int .u8 1)),(1,t15),(2,t16_22),(10,(i6 3))]) fun t17_23=>pw w21 (Instr.buildSlice 41 4 #[(0,t11),(1,t14_18),(2,t17_23),(3,t18)]) fun t19_25 w24=>
 pp (Instr.build 43 #[(4,t7),(5,t8_20),(6,t19_25)]) fun t20_26=>pw w24 (Instr.buildSlice 23 1 #[(0,t20_26)]) fun t21_28 w27=>
 pp (Instr.build 25 #[(1,t21_28)]) fun t22_29=>so w27 25 t0 t22_29 fun w30=>pq w30 (zn 25 t0) fun r31=>K r31 w30)∧
 (ca zt #[(i6 3)] w16 fun t16_33 w32=>
 Ext w16 w32∧
 pp (Instr.build 64 #[(0,(Value.int .u8 1)),(1,t15),(2,t16_33),(10,(i6 3))]) fun t17_34=>((pw w32 (Instr.makeSlice 40 (i6 3) (i6 3)) fun t8_36 w35=>
 Ext w32 w35∧
 pw w35 (Instr.buildSlice 41 4 #[(0,t11),(1,t14_18),(2,t17_34),(3,t18)]) fun t19_38 w37=>
 pp (Instr.build 43 #[(4,t7),(5,t8_36),(6,t19_38)]) fun t20_39=>pw w37 (Instr.buildSlice 23 1 #[(0,t20_39)]) fun t21_41 w40=>
 pp (Instr.build 25 #[(1,t21_41)]) fun t22_42=>so w40 25 t0 t22_42 fun w43=>pq w43 (zn 25 t0) fun r44=>K r44 w43)∧
 (pw w32 (Instr.buildSlice 41 4 #[(0,t11),(1,t14_18),(2,t17_34),(3,t18)]) fun t19_46 w45=>
 pw w45 (Instr.makeSlice 40 (i6 3) (i6 3)) fun t8_48 w47=>
 Ext w45 w47∧
 pp (Instr.build 43 #[(4,t7),(5,t8_48),(6,t19_46)]) fun t20_49=>pw w47 (Instr.buildSlice 23 1 #[(0,t20_49)]) fun t21_51 w50=>
 pp (Instr.build 25 #[(1,t21_51)]) fun t22_52=>so w50 25 t0 t22_52 fun w53=>pq w53 (zn 25 t0) fun r54=>K r54 w53)))))))∧
 (((pw w7 (Instr.makeSlice 40 (i6 3) (i6 3)) fun t8_56 w55=>
 Ext w7 w55∧
 ((pw w55 (Instr.buildSlice 39 3 #[(0,t4),(1,t5),(2,t6)]) fun t7_58 w57=>
 Ext w55 w57∧
 ca zt #[(i6 2)] w57 fun t13_60 w59=>
 Ext w57 w59∧
 pp (Instr.build 64 #[(0,(Value.int .u8 1)),(1,t12),(2,t13_60),(10,(i6 2))]) fun t14_61=>ca zt #[(i6 3)] w59 fun t16_63 w62=>
 Ext w59 w62∧
 pp (Instr.build 64 #[(0,(Value.int .u8 1)),(1,t15),(2,t16_63),(10,(i6 3))]) fun t17_64=>pw w62 (Instr.buildSlice 41 4 #[(0,t11),(1,t14_61),(2,t17_64),(3,t18)]) fun t19_66 w65=>
 pp (Instr.build 43 #[(4,t7_58),(5,t8_56),(6,t19_66)]) fun t20_67=>pw w65 (Instr.buildSlice 23 1 #[(0,t20_67)]) fun t21_69 w68=>
 pp (Instr.build 25 #[(1,t21_69)]) fun t22_70=>so w68 25 t0 t22_70 fun w71=>pq w71 (zn 25 t0) fun r72=>K r72 w71)∧
 (ca zt #[(i6 2)] w55 fun t13_74 w73=>
 Ext w55 w73∧
 pp (Instr.build 64 #[(0,(Value.int .u8 1)),(1,t12),(2,t13_74),(10,(i6 2))]) fun t14_75=>((pw w73 (Instr.buildSlice 39 3 #[(0,t4),(1,t5),(2,t6)]) fun t7_77 w76=>
 Ext w73 w76∧
 ca zt #[(i6 3)] w76 fun t16_79 w78=>
 Ext w76 w78∧
 pp (Instr.build 64 #[(0,(Value.int .u8 1)),(1,t15),(2,t16_79),(10,(i6 3))]) fun t17_80=>pw w78 (Instr.buildSlice 41 4 #[(0,t11),(1,t14_75),(2,t17_80),(3,t18)]) fun t19_82 w81=>
 pp (Instr.build 43 #[(4,t7_77),(5,t8_56),(6,t19_82)]) fun t20_83=>pw w81 (Instr.buildSlice 23 1 #[(0,t20_83)]) fun t21_85 w84=>
 pp (Instr.build 25 #[(1,t21_85)]) fun t22_86=>so w84 25 t0 t22_86 fun w87=>pq w87 (zn 25 t0) fun r88=>K r88 w87)∧
 (ca zt #[(i6 3)] w73 fun t16_90 w89=>
 Ext w73 w89∧
 pp (Instr.build 64 #[(0,(Value.int .u8 1)),(1,t15),(2,t16_90),(10,(i6 3))]) fun t17_91=>((pw w89 (Instr.buildSlice 39 3 #[(0,t4),(1,t5),(2,t6)]) fun t7_93 w92=>
 Ext w89 w92∧
 pw w92 (Instr.buildSlice 41 4 #[(0,t11),(1,t14_75),(2,t17_91),(3,t18)]) fun t19_95 w94=>
 pp (Instr.build 43 #[(4,t7_93),(5,t8_56),(6,t19_95)]) fun t20_96=>pw w94 (Instr.buildSlice 23 1 #[(0,t20_96)]) fun t21_98 w97=>
 pp (Instr.build 25 #[(1,t21_98)]) fun t22_99=>so w97 25 t0 t22_99 fun w100=>pq w100 (zn 25 t0) fun r101=>K r101 w100)∧
 (pw w89 (Instr.buildSlice 41 4 #[(0,t11),(1,t14_75),(2,t17_91),(3,t18)]) fun t19_103 w102=>
 pw w102 (Instr.buildSlice 39 3 #[(0,t4),(1,t5),(2,t6)]) fun t7_105 w104=>
 Ext w102 w104∧
 pp (Instr.build 43 #[(4,t7_105),(5,t8_56),(6,t19_103)]) fun t20_106=>pw w104 (Instr.buildSlice 23 1 #[(0,t20_106)]) fun t21_108 w107=>
 pp (Instr.build 25 #[(1,t21_108)]) fun t22_109=>so w107 25 t0 t22_109 fun w110=>pq w110 (zn 25 t0) fun r111=>K r111 w110)))))))∧
 (ca zt #[(i6 2)] w7 fun t13_113 w112=>
 Ext w7 w112∧
 pp (Instr.build 64 #[(0,(Value.int .u8 1)),(1,t12),(2,t13_113),(10,(i6 2))]) fun t14_114=>((pw w112 (Instr.buildSlice 39 3 #[(0,t4),(1,t5),(2,t6)]) fun t7_116 w115=>
 Ext w112 w115∧
 ((pw w115 (Instr.makeSlice 40 (i6 3) (i6 3)) fun t8_118 w117=>
 Ext w115 w117∧
 ca zt #[(i6 3)] w117 fun t16_120 w119=>
 Ext w117 w119∧
 pp (Instr.build 64 #[(0,(Value.int .u8 1)),(1,t15),(2,t16_120),(10,(i6 3))]) fun t17_121=>pw w119 (Instr.buildSlice 41 4 #[(0,t11),(1,t14_114),(2,t17_121),(3,t18)]) fun t19_123 w122=>
 pp (Instr.build 43 #[(4,t7_116),(5,t8_118),(6,t19_123)]) fun t20_124=>pw w122 (Instr.buildSlice 23 1 #[(0,t20_124)]) fun t21_126 w125=>
 pp (Instr.build 25 #[(1,t21_126)]) fun t22_127=>so w125 25 t0 t22_127 fun w128=>pq w128 (zn 25 t0) fun r129=>K r129 w128)∧
 (ca zt #[(i6 3)] w115 fun t16_131 w130=>
 Ext w115 w130∧
 pp (Instr.build 64 #[(0,(Value.int .u8 1)),(1,t15),(2,t16_131),(10,(i6 3))]) fun t17_132=>((pw w130 (Instr.makeSlice 40 (i6 3) (i6 3)) fun t8_134 w133=>
 Ext w130 w133∧
 pw w133 (Instr.buildSlice 41 4 #[(0,t11),(1,t14_114),(2,t17_132),(3,t18)]) fun t19_136 w135=>
 pp (Instr.build 43 #[(4,t7_116),(5,t8_134),(6,t19_136)]) fun t20_137=>pw w135 (Instr.buildSlice 23 1 #[(0,t20_137)]) fun t21_139 w138=>
 pp (Instr.build 25 #[(1,t21_139)]) fun t22_140=>so w138 25 t0 t22_140 fun w141=>pq w141 (zn 25 t0) fun r142=>K r142 w141)∧
 (pw w130 (Instr.buildSlice 41 4 #[(0,t11),(1,t14_114),(2,t17_132),(3,t18)]) fun t19_144 w143=>
 pw w143 (Instr.makeSlice 40 (i6 3) (i6 3)) fun t8_146 w145=>
 Ext w143 w145∧
 pp (Instr.build 43 #[(4,t7_116),(5,t8_146),(6,t19_144)]) fun t20_147=>pw w145 (Instr.buildSlice 23 1 #[(0,t20_147)]) fun t21_149 w148=>
 pp (Instr.build 25 #[(1,t21_149)]) fun t22_150=>so w148 25 t0 t22_150 fun w151=>pq w151 (zn 25 t0) fun r152=>K r152 w151)))))∧
 (((pw w112 (Instr.makeSlice 40 (i6 3) (i6 3)) fun t8_154 w153=>
 Ext w112 w153∧
 ((pw w153 (Instr.buildSlice 39 3 #[(0,t4),(1,t5),(2,t6)]) fun t7_156 w155=>
 Ext w153 w155∧
 ca zt #[(i6 3)] w155 fun t16_158 w157=>
 Ext w155 w157∧
 pp (Instr.build 64 #[(0,(Value.int .u8 1)),(1,t15),(2,t16_158),(10,(i6 3))]) fun t17_159=>pw w157 (Instr.buildSlice 41 4 #[(0,t11),(1,t14_114),(2,t17_159),(3,t18)]) fun t19_161 w160=>
 pp (Instr.build 43 #[(4,t7_156),(5,t8_154),(6,t19_161)]) fun t20_162=>pw w160 (Instr.buildSlice 23 1 #[(0,t20_162)]) fun t21_164 w163=>
 pp (Instr.build 25 #[(1,t21_164)]) fun t22_165=>so w163 25 t0 t22_165 fun w166=>pq w166 (zn 25 t0) fun r167=>K r167 w166)∧
 (ca zt #[(i6 3)] w153 fun t16_169 w168=>
 Ext w153 w168∧
 pp (Instr.build 64 #[(0,(Value.int .u8 1)),(1,t15),(2,t16_169),(10,(i6 3))]) fun t17_170=>((pw w168 (Instr.buildSlice 39 3 #[(0,t4),(1,t5),(2,t6)]) fun t7_172 w171=>
 Ext w168 w171∧
 pw w171 (Instr.buildSlice 41 4 #[(0,t11),(1,t14_114),(2,t17_170),(3,t18)]) fun t19_174 w173=>
 pp (Instr.build 43 #[(4,t7_172),(5,t8_154),(6,t19_174)]) fun t20_175=>pw w173 (Instr.buildSlice 23 1 #[(0,t20_175)]) fun t21_177 w176=>
 pp (Instr.build 25 #[(1,t21_177)]) fun t22_178=>so w176 25 t0 t22_178 fun w179=>pq w179 (zn 25 t0) fun r180=>K r180 w179)∧
 (pw w168 (Instr.buildSlice 41 4 #[(0,t11),(1,t14_114),(2,t17_170),(3,t18)]) fun t19_182 w181=>
 pw w181 (Instr.buildSlice 39 3 #[(0,t4),(1,t5),(2,t6)]) fun t7_184 w183=>
 Ext w181 w183∧
 pp (Instr.build 43 #[(4,t7_184),(5,t8_154),(6,t19_182)]) fun t20_185=>pw w183 (Instr.buildSlice 23 1 #[(0,t20_185)]) fun t21_187 w186=>
 pp (Instr.build 25 #[(1,t21_187)]) fun t22_188=>so w186 25 t0 t22_188 fun w189=>pq w189 (zn 25 t0) fun r190=>K r190 w189)))))∧
 (ca zt #[(i6 3)] w112 fun t16_192 w191=>
 Ext w112 w191∧
 pp (Instr.build 64 #[(0,(Value.int .u8 1)),(1,t15),(2,t16_192),(10,(i6 3))]) fun t17_193=>((pw w191 (Instr.buildSlice 39 3 #[(0,t4),(1,t5),(2,t6)]) fun t7_195 w194=>
 Ext w191 w194∧
 ((pw w194 (Instr.makeSlice 40 (i6 3) (i6 3)) fun t8_197 w196=>
 Ext w194 w196∧
 pw w196 (Instr.buildSlice 41 4 #[(0,t11),(1,t14_114),(2,t17_193),(3,t18)]) fun t19_199 w198=>
 pp (Instr.build 43 #[(4,t7_195),(5,t8_197),(6,t19_199)]) fun t20_200=>pw w198 (Instr.buildSlice 23 1 #[(0,t20_200)]) fun t21_202 w201=>
 pp (Instr.build 25 #[(1,t21_202)]) fun t22_203=>so w201 25 t0 t22_203 fun w204=>pq w204 (zn 25 t0) fun r205=>K r205 w204)∧
 (pw w194 (Instr.buildSlice 41 4 #[(0,t11),(1,t14_114),(2,t17_193),(3,t18)]) fun t19_207 w206=>
 pw w206 (Instr.makeSlice 40 (i6 3) (i6 3)) fun t8_209 w208=>
 Ext w206 w208∧
 pp (Instr.build 43 #[(4,t7_195),(5,t8_209),(6,t19_207)]) fun t20_210=>pw w208 (Instr.buildSlice 23 1 #[(0,t20_210)]) fun t21_212 w211=>
 pp (Instr.build 25 #[(1,t21_212)]) fun t22_213=>so w211 25 t0 t22_213 fun w214=>pq w214 (zn 25 t0) fun r215=>K r215 w214)))∧
 (((pw w191 (Instr.makeSlice 40 (i6 3) (i6 3)) fun t8_217 w216=>
 Ext w191 w216∧
 ((pw w216 (Instr.buildSlice 39 3 #[(0,t4),(1,t5),(2,t6)]) fun t7_219 w218=>
 Ext w216 w218∧
 pw w218 (Instr.buildSlice 41 4 #[(0,t11),(1,t14_114),(2,t17_193),(3,t18)]) fun t19_221 w220=>
 pp (Instr.build 43 #[(4,t7_219),(5,t8_217),(6,t19_221)]) fun t20_222=>pw w220 (Instr.buildSlice 23 1 #[(0,t20_222)]) fun t21_224 w223=>
 pp (Instr.build 25 #[(1,t21_224)]) fun t22_225=>so w223 25 t0 t22_225 fun w226=>pq w226 (zn 25 t0) fun r227=>K r227 w226)∧
 (pw w216 (Instr.buildSlice 41 4 #[(0,t11),(1,t14_114),(2,t17_193),(3,t18)]) fun t19_229 w228=>
 pw w228 (Instr.buildSlice 39 3 #[(0,t4),(1,t5),(2,t6)]) fun t7_231 w230=>
 Ext w228 w230∧
 pp (Instr.build 43 #[(4,t7_231),(5,t8_217),(6,t19_229)]) fun t20_232=>pw w230 (Instr.buildSlice 23 1 #[(0,t20_232)]) fun t21_234 w233=>
 pp (Instr.build 25 #[(1,t21_234)]) fun t22_235=>so w233 25 t0 t22_235 fun w236=>pq w236 (zn 25 t0) fun r237=>K r237 w236)))∧
 (pw w191 (Instr.buildSlice 41 4 #[(0,t11),(1,t14_114),(2,t17_193),(3,t18)]) fun t19_239 w238=>
 ((pw w238 (Instr.buildSlice 39 3 #[(0,t4),(1,t5),(2,t6)]) fun t7_241 w240=>
 Ext w238 w240∧
 pw w240 (Instr.makeSlice 40 (i6 3) (i6 3)) fun t8_243 w242=>
 Ext w240 w242∧
 pp (Instr.build 43 #[(4,t7_241),(5,t8_243),(6,t19_239)]) fun t20_244=>pw w242 (Instr.buildSlice 23 1 #[(0,t20_244)]) fun t21_246 w245=>
 pp (Instr.build 25 #[(1,t21_246)]) fun t22_247=>so w245 25 t0 t22_247 fun w248=>pq w248 (zn 25 t0) fun r249=>K r249 w248)∧
 (pw w238 (Instr.makeSlice 40 (i6 3) (i6 3)) fun t8_251 w250=>
 Ext w238 w250∧
 pw w250 (Instr.buildSlice 39 3 #[(0,t4),(1,t5),(2,t6)]) fun t7_253 w252=>
 Ext w250 w252∧
 pp (Instr.build 43 #[(4,t7_253),(5,t8_251),(6,t19_239)]) fun t20_254=>pw w252 (Instr.buildSlice 23 1 #[(0,t20_254)]) fun t21_256 w255=>
 pp (Instr.build 25 #[(1,t21_256)]) fun t22_257=>so w255 25 t0 t22_257 fun w258=>pq w258 (zn 25 t0) fun r259=>K r259 w258)))))))))))))))∧
 (pw w6 (Instr.makeSlice 40 (i6 3) (i6 3)) fun t8_261 w260=>
 Ext w6 w260∧
 ca kQ #[tr_] w260 fun t6_263 w262=>
 Ext w260 w262∧
 ((pw w262 (Instr.buildSlice 39 3 #[(0,t4),(1,t5),(2,t6_263)]) fun t7_265 w264=>
 Ext w262 w264∧
 ca zt #[(i6 2)] w264 fun t13_267 w266=>
 Ext w264 w266∧
 pp (Instr.build 64 #[(0,(Value.int .u8 1)),(1,t12),(2,t13_267),(10,(i6 2))]) fun t14_268=>ca zt #[(i6 3)] w266 fun t16_270 w269=>
 Ext w266 w269∧
 pp (Instr.build 64 #[(0,(Value.int .u8 1)),(1,t15),(2,t16_270),(10,(i6 3))]) fun t17_271=>pw w269 (Instr.buildSlice 41 4 #[(0,t11),(1,t14_268),(2,t17_271),(3,t18)]) fun t19_273 w272=>
 pp (Instr.build 43 #[(4,t7_265),(5,t8_261),(6,t19_273)]) fun t20_274=>pw w272 (Instr.buildSlice 23 1 #[(0,t20_274)]) fun t21_276 w275=>
 pp (Instr.build 25 #[(1,t21_276)]) fun t22_277=>so w275 25 t0 t22_277 fun w278=>pq w278 (zn 25 t0) fun r279=>K r279 w278)∧
 (ca zt #[(i6 2)] w262 fun t13_281 w280=>
 Ext w262 w280∧
 pp (Instr.build 64 #[(0,(Value.int .u8 1)),(1,t12),(2,t13_281),(10,(i6 2))]) fun t14_282=>((pw w280 (Instr.buildSlice 39 3 #[(0,t4),(1,t5),(2,t6_263)]) fun t7_284 w283=>
 Ext w280 w283∧
 ca zt #[(i6 3)] w283 fun t16_286 w285=>
 Ext w283 w285∧
 pp (Instr.build 64 #[(0,(Value.int .u8 1)),(1,t15),(2,t16_286),(10,(i6 3))]) fun t17_287=>pw w285 (Instr.buildSlice 41 4 #[(0,t11),(1,t14_282),(2,t17_287),(3,t18)]) fun t19_289 w288=>
 pp (Instr.build 43 #[(4,t7_284),(5,t8_261),(6,t19_289)]) fun t20_290=>pw w288 (Instr.buildSlice 23 1 #[(0,t20_290)]) fun t21_292 w291=>
 pp (Instr.build 25 #[(1,t21_292)]) fun t22_293=>so w291 25 t0 t22_293 fun w294=>pq w294 (zn 25 t0) fun r295=>K r295 w294)∧
 (ca zt #[(i6 3)] w280 fun t16_297 w296=>
 Ext w280 w296∧
 pp (Instr.build 64 #[(0,(Value.int .u8 1)),(1,t15),(2,t16_297),(10,(i6 3))]) fun t17_298=>((pw w296 (Instr.buildSlice 39 3 #[(0,t4),(1,t5),(2,t6_263)]) fun t7_300 w299=>
 Ext w296 w299∧
 pw w299 (Instr.buildSlice 41 4 #[(0,t11),(1,t14_282),(2,t17_298),(3,t18)]) fun t19_302 w301=>
 pp (Instr.build 43 #[(4,t7_300),(5,t8_261),(6,t19_302)]) fun t20_303=>pw w301 (Instr.buildSlice 23 1 #[(0,t20_303)]) fun t21_305 w304=>
 pp (Instr.build 25 #[(1,t21_305)]) fun t22_306=>so w304 25 t0 t22_306 fun w307=>pq w307 (zn 25 t0) fun r308=>K r308 w307)∧
 (pw w296 (Instr.buildSlice 41 4 #[(0,t11),(1,t14_282),(2,t17_298),(3,t18)]) fun t19_310 w309=>
 pw w309 (Instr.buildSlice 39 3 #[(0,t4),(1,t5),(2,t6_263)]) fun t7_312 w311=>
 Ext w309 w311∧
 pp (Instr.build 43 #[(4,t7_312),(5,t8_261),(6,t19_310)]) fun t20_313=>pw w311 (Instr.buildSlice 23 1 #[(0,t20_313)]) fun t21_315 w314=>
 pp (Instr.build 25 #[(1,t21_315)]) fun t22_316=>so w314 25 t0 t22_316 fun w317=>pq w317 (zn 25 t0) fun r318=>K r318 w317)))))))))∧
 (pw w5 (Instr.makeSlice 40 (i6 3) (i6 3)) fun t8_320 w319=>
 Ext w5 w319∧
 ca xt #[] w319 fun t5_322 w321=>
 Ext w319 w321∧
 ca kQ #[tr_] w321 fun t6_324 w323=>
 Ext w321 w323∧
 ((pw w323 (Instr.buildSlice 39 3 #[(0,t4),(1,t5_322),(2,t6_324)]) fun t7_326 w325=>
 Ext w323 w325∧
 ca zt #[(i6 2)] w325 fun t13_328 w327=>
 Ext w325 w327∧
 pp (Instr.build 64 #[(0,(Value.int .u8 1)),(1,t12),(2,t13_328),(10,(i6 2))]) fun t14_329=>ca zt #[(i6 3)] w327 fun t16_331 w330=>
 Ext w327 w330∧
 pp (Instr.build 64 #[(0,(Value.int .u8 1)),(1,t15),(2,t16_331),(10,(i6 3))]) fun t17_332=>pw w330 (Instr.buildSlice 41 4 #[(0,t11),(1,t14_329),(2,t17_332),(3,t18)]) fun t19_334 w333=>
 pp (Instr.build 43 #[(4,t7_326),(5,t8_320),(6,t19_334)]) fun t20_335=>pw w333 (Instr.buildSlice 23 1 #[(0,t20_335)]) fun t21_337 w336=>
 pp (Instr.build 25 #[(1,t21_337)]) fun t22_338=>so w336 25 t0 t22_338 fun w339=>pq w339 (zn 25 t0) fun r340=>K r340 w339)∧
 (ca zt #[(i6 2)] w323 fun t13_342 w341=>
 Ext w323 w341∧
 pp (Instr.build 64 #[(0,(Value.int .u8 1)),(1,t12),(2,t13_342),(10,(i6 2))]) fun t14_343=>((pw w341 (Instr.buildSlice 39 3 #[(0,t4),(1,t5_322),(2,t6_324)]) fun t7_345 w344=>
 Ext w341 w344∧
 ca zt #[(i6 3)] w344 fun t16_347 w346=>
 Ext w344 w346∧
 pp (Instr.build 64 #[(0,(Value.int .u8 1)),(1,t15),(2,t16_347),(10,(i6 3))]) fun t17_348=>pw w346 (Instr.buildSlice 41 4 #[(0,t11),(1,t14_343),(2,t17_348),(3,t18)]) fun t19_350 w349=>
 pp (Instr.build 43 #[(4,t7_345),(5,t8_320),(6,t19_350)]) fun t20_351=>pw w349 (Instr.buildSlice 23 1 #[(0,t20_351)]) fun t21_353 w352=>
 pp (Instr.build 25 #[(1,t21_353)]) fun t22_354=>so w352 25 t0 t22_354 fun w355=>pq w355 (zn 25 t0) fun r356=>K r356 w355)∧
 (ca zt #[(i6 3)] w341 fun t16_358 w357=>
 Ext w341 w357∧
 pp (Instr.build 64 #[(0,(Value.int .u8 1)),(1,t15),(2,t16_358),(10,(i6 3))]) fun t17_359=>((pw w357 (Instr.buildSlice 39 3 #[(0,t4),(1,t5_322),(2,t6_324)]) fun t7_361 w360=>
 Ext w357 w360∧
 pw w360 (Instr.buildSlice 41 4 #[(0,t11),(1,t14_343),(2,t17_359),(3,t18)]) fun t19_363 w362=>
 pp (Instr.build 43 #[(4,t7_361),(5,t8_320),(6,t19_363)]) fun t20_364=>pw w362 (Instr.buildSlice 23 1 #[(0,t20_364)]) fun t21_366 w365=>
 pp (Instr.build 25 #[(1,t21_366)]) fun t22_367=>so w365 25 t0 t22_367 fun w368=>pq w368 (zn 25 t0) fun r369=>K r369 w368)∧
 (pw w357 (Instr.buildSlice 41 4 #[(0,t11),(1,t14_343),(2,t17_359),(3,t18)]) fun t19_371 w370=>
 pw w370 (Instr.buildSlice 39 3 #[(0,t4),(1,t5_322),(2,t6_324)]) fun t7_373 w372=>
 Ext w370 w372∧
 pp (Instr.build 43 #[(4,t7_373),(5,t8_320),(6,t19_371)]) fun t20_374=>pw w372 (Instr.buildSlice 23 1 #[(0,t20_374)]) fun t21_376 w375=>
 pp (Instr.build 25 #[(1,t21_376)]) fun t22_377=>so w375 25 t0 t22_377 fun w378=>pq w378 (zn 25 t0) fun r379=>K r379 w378)))))))))∧
 (pw w4.drew (Instr.makeSlice 40 (i6 3) (i6 3)) fun t8_381 w380=>
 Ext w4.drew w380∧
 ca xt #[] w380 fun t4_383 w382=>
 Ext w380 w382∧
 ca xt #[] w382 fun t5_385 w384=>
 Ext w382 w384∧
 ca kQ #[tr_] w384 fun t6_387 w386=>
 Ext w384 w386∧
 ((pw w386 (Instr.buildSlice 39 3 #[(0,t4_383),(1,t5_385),(2,t6_387)]) fun t7_389 w388=>
 Ext w386 w388∧
 ca zt #[(i6 2)] w388 fun t13_391 w390=>
 Ext w388 w390∧
 pp (Instr.build 64 #[(0,(Value.int .u8 1)),(1,t12),(2,t13_391),(10,(i6 2))]) fun t14_392=>ca zt #[(i6 3)] w390 fun t16_394 w393=>
 Ext w390 w393∧
 pp (Instr.build 64 #[(0,(Value.int .u8 1)),(1,t15),(2,t16_394),(10,(i6 3))]) fun t17_395=>pw w393 (Instr.buildSlice 41 4 #[(0,t11),(1,t14_392),(2,t17_395),(3,t18)]) fun t19_397 w396=>
 pp (Instr.build 43 #[(4,t7_389),(5,t8_381),(6,t19_397)]) fun t20_398=>pw w396 (Instr.buildSlice 23 1 #[(0,t20_398)]) fun t21_400 w399=>
 pp (Instr.build 25 #[(1,t21_400)]) fun t22_401=>so w399 25 t0 t22_401 fun w402=>pq w402 (zn 25 t0) fun r403=>K r403 w402)∧
 (ca zt #[(i6 2)] w386 fun t13_405 w404=>
 Ext w386 w404∧
 pp (Instr.build 64 #[(0,(Value.int .u8 1)),(1,t12),(2,t13_405),(10,(i6 2))]) fun t14_406=>((pw w404 (Instr.buildSlice 39 3 #[(0,t4_383),(1,t5_385),(2,t6_387)]) fun t7_408 w407=>
 Ext w404 w407∧
 ca zt #[(i6 3)] w407 fun t16_410 w409=>
 Ext w407 w409∧
 pp (Instr.build 64 #[(0,(Value.int .u8 1)),(1,t15),(2,t16_410),(10,(i6 3))]) fun t17_411=>pw w409 (Instr.buildSlice 41 4 #[(0,t11),(1,t14_406),(2,t17_411),(3,t18)]) fun t19_413 w412=>
 pp (Instr.build 43 #[(4,t7_408),(5,t8_381),(6,t19_413)]) fun t20_414=>pw w412 (Instr.buildSlice 23 1 #[(0,t20_414)]) fun t21_416 w415=>
 pp (Instr.build 25 #[(1,t21_416)]) fun t22_417=>so w415 25 t0 t22_417 fun w418=>pq w418 (zn 25 t0) fun r419=>K r419 w418)∧
 (ca zt #[(i6 3)] w404 fun t16_421 w420=>
 Ext w404 w420∧
 pp (Instr.build 64 #[(0,(Value.int .u8 1)),(1,t15),(2,t16_421),(10,(i6 3))]) fun t17_422=>((pw w420 (Instr.buildSlice 39 3 #[(0,t4_383),(1,t5_385),(2,t6_387)]) fun t7_424 w423=>
 Ext w420 w423∧
 pw w423 (Instr.buildSlice 41 4 #[(0,t11),(1,t14_406),(2,t17_422),(3,t18)]) fun t19_426 w425=>
 pp (Instr.build 43 #[(4,t7_424),(5,t8_381),(6,t19_426)]) fun t20_427=>pw w425 (Instr.buildSlice 23 1 #[(0,t20_427)]) fun t21_429 w428=>
 pp (Instr.build 25 #[(1,t21_429)]) fun t22_430=>so w428 25 t0 t22_430 fun w431=>pq w431 (zn 25 t0) fun r432=>K r432 w431)∧
 (pw w420 (Instr.buildSlice 41 4 #[(0,t11),(1,t14_406),(2,t17_422),(3,t18)]) fun t19_434 w433=>
 pw w433 (Instr.buildSlice 39 3 #[(0,t4_383),(1,t5_385),(2,t6_387)]) fun t7_436 w435=>
 Ext w433 w435∧
 pp (Instr.build 43 #[(4,t7_436),(5,t8_381),(6,t19_434)]) fun t20_437=>pw w435 (Instr.buildSlice 23 1 #[(0,t20_437)]) fun t21_439 w438=>
 pp (Instr.build 25 #[(1,t21_439)]) fun t22_440=>so w438 25 t0 t22_440 fun w441=>pq w441 (zn 25 t0) fun r442=>K r442 w441))))))))
theorem ad2 {w : World} {K : VW} (h : Va  w K) : zd prog YN #[] w K:=
 okC false (.s (.r (rz 1 0 2)) (.s (.r (rz 4 0 162)) (.s (.r (ra 4 5 0 (ra 1 11 1 (ra 1 14 0 (.alt 0 .u (.alt 1 .u (.alt 2 .u (.alt 3 .u (.alt 4 .u (ra 2 9 3 (ra 2 12 3 (rz 5 15 546))) (ra 2 9 3 (.alt 4 .u (ra 2 12 3 (rz 5 15 546)) (ra 2 12 3 (.alt 4 .u (rz 5 15 546) (ra 1 15 2 (ra 1 4 3 (rz 4 16 136)))))))) (.alt 4 .u (.alt 3 .u (ra 2 9 3 (ra 2 12 3 (rz 5 15 546))) (ra 2 9 3 (.alt 3 .u (ra 2 12 3 (rz 5 15 546)) (ra 2 12 3 (.alt 3 .u (rz 5 15 546) (ra 1 15 2 (ra 1 3 3 (rz 4 16 136)))))))) (ra 2 9 3 (.alt 3 .u (.alt 4 .u (ra 2 12 3 (rz 5 15 546)) (ra 2 12 3 (.alt 4 .u (rz 5 15 546) (ra 1 15 2 (ra 1 4 3 (rz 4 16 136)))))) (.alt 4 .u (.alt 3 .u (ra 2 12 3 (rz 5 15 546)) (ra 2 12 3 (.alt 3 .u (rz 5 15 546) (ra 1 15 2 (ra 1 3 3 (rz 4 16 136)))))) (ra 2 12 3 (.alt 3 .u (.alt 4 .u (rz 5 15 546) (ra 1 15 2 (ra 1 4 3 (rz 4 16 136)))) (.alt 4 .u (.alt 3 .u (rz 5 15 546) (ra 1 15 2 (ra 1 3 3 (rz 4 16 136)))) (ra 1 15 2 (.alt 3 .u (ra 1 4 3 (rz 4 16 136)) (ra 1 4 3 (ra 1 3 3 (rz 4 16 136))))))))))))) (ra 1 4 3 (ra 1 2 3 (.alt 3 .u (ra 2 9 3 (ra 2 12 3 (rz 5 15 546))) (ra 2 9 3 (.alt 3 .u (ra 2 12 3 (rz 5 15 546)) (ra 2 12 3 (.alt 3 .u (rz 5 15 546) (ra 1 15 2 (ra 1 3 3 (rz 4 16 136))))))))))) (ra 1 4 3 (ra 2 1 15 (.alt 3 .u (ra 2 9 3 (ra 2 12 3 (rz 5 15 546))) (ra 2 9 3 (.alt 3 .u (ra 2 12 3 (rz 5 15 546)) (ra 2 12 3 (.alt 3 .u (rz 5 15 546) (ra 1 15 2 (ra 1 3 3 (rz 4 16 136))))))))))) (ra 1 4 3 (ra 3 0 63 (.alt 3 .u (ra 2 9 3 (ra 2 12 3 (rz 5 15 546))) (ra 2 9 3 (.alt 3 .u (ra 2 12 3 (rz 5 15 546)) (ra 2 12 3 (.alt 3 .u (rz 5 15 546) (ra 1 15 2 (ra 1 3 3 (rz 4 16 136))))))))))))))) (.n)))) func17 rfl (by kernel_rfl) (by kernel_rfl) h
def V8 (w : World) (K : VW) : Prop:=
 pw w (Instr.alloc 93 true (.tuple #[])) fun t0 w1=>
 pp (Instr.build 93 #[(0,(Value.int .u8 1))]) fun t1=>so w1 93 t0 t1 fun w2=>pq w2 (zn 93 t0) fun r3=>K r3 w2
theorem afE {w : World} {K : VW} (h : V8  w K) : zd prog xt #[] w K:=
 okC false (.s (.r (rz 1 0 2)) (.s (.r (rz 2 0 8)) (.n))) func35 rfl (by kernel_rfl) (by kernel_rfl) h
def V9 (t0 : Value) (w : World) (K : VW) : Prop:=
 pw w (Instr.alloc 93 true (.tuple #[])) fun t2 w1=>
 ca xt #[] w1 fun t4 w2=>
 pw w2 (Instr.buildSlice 39 1 #[(0,t4)]) fun t5 w3=>
 pp (Instr.build 93 #[(0,(Value.int .u8 4)),(1,t0),(2,(i6 (-1))),(4,t5)]) fun t6=>so w3 93 t2 t6 fun w4=>pq w4 (zn 93 t2) fun r5=>K r5 w4
theorem afF {t0 : Value} {w : World} {K : VW} (h : V9 t0 w K) : zd prog kQ #[t0] w K:=
 okC false (.s (.r (rz 1 0 2)) (.s (.r (rz 5 0 552)) (.n))) func36 rfl (by kernel_rfl) (by kernel_rfl) h
def aaa (t0 : Value) (w : World) (K : VW) : Prop:=
 pw w (Instr.alloc 61 true (.tuple #[])) fun t2 w1=>
 pp (Instr.build 61 #[(0,(Value.int .u8 1)),(1,t0)]) fun t4=>so w1 61 t2 t4 fun w2=>pq w2 (zn 61 t2) fun r3=>K r3 w2
theorem afG {t0 : Value} {w : World} {K : VW} (h : aaa t0 w K) : zd prog zt #[t0] w K:=
 okC false (.s (.r (rz 1 0 2)) (.s (.r (rz 3 0 32)) (.n))) func37 rfl (by kernel_rfl) (by kernel_rfl) h
end Go.Proofs.Tryz
end
section
namespace Go.Sh
section
variable {w : World} {b c d : Bool} {A1 : (List Value→World→Prop)→Prop} {A2 : (List Value→World→Prop)→World→Prop} {Z : Value→World→Prop}
theorem akq (R : World→Prop) (h1 : b=false→∀ K : List Value→World→Prop,K [.bool c] w→A1 K) (h2 : b=false→c=true→∀ K : List Value→World→Prop,(∀ w',R w'→K [.bool d] w')→A2 K w)
  (hR : R w) (hZ : ∀ w',R w'→Z (.bool (b||(c&&d))) w') :
  za (fun K=>gIf (.bool b) false (A1 K) (K [undef] w)) fun s20 _d w22=>
  za (fun K=>gIf (s20.getD 0 undef) true (A2 K w22) (K [undef] w22)) fun s24 _d w26=>
  za (fun K=>gIf (.bool b) false (zb (s20.getD 0 undef) (s24.getD 0 undef) (.bool false) fun t=>K [t] w26) (K [undef] w26)) fun s28 _d w30=>
  zb (.bool b) (.bool true) (s28.getD 0 undef) fun t=>Z t w30:=by
 cases b with
 |true=>
  intro K hK;refine hK _ _ fun _=>?_
  intro K hK;refine hK _ _ fun _=>?_
  intro K hK;refine hK _ _ fun _=>?_
  exact ⟨true,rfl,hZ _ hR⟩
 |false=>
 intro K hK;refine h1 rfl _ (hK _ _ fun _=>?_);clear hK K
 cases c with
 |false=>
  intro K hK;refine hK _ _ fun _=>?_
  intro K hK;refine ⟨false,rfl,hK _ _ fun _=>?_⟩
  exact ⟨false,rfl,hZ _ hR⟩
 |true=>
  intro K hK;refine h2 rfl rfl _ fun w' hw'=>hK _ _ fun _=>?_;clear hK K
  intro K hK;refine ⟨true,rfl,hK _ _ fun _=>?_⟩
  exact ⟨false,rfl,hZ _ hw'⟩
end
end Go.Sh
end
section
namespace Go.Proofs
open Go.Sh Go.RowKit
set_option maxRecDepth 100000
set_option linter.unusedSimpArgs false
set_option linter.unusedVariables false
theorem af6 {p : PlD} {c : List Value} {w : World} {r : Gh} {K : Value→World→Prop} (hr : Holds r w) (hp : PlG r c p)
  (h : ∀ w',Ext w w'→K (.bool (decide (-1 ∈ p.ps))) w') : zd Tryz.prog Tryz.ZS #[.agg c.toArray] w K:=by
 refine Tryz.acF ?_
 unfold Tryz.QU
 obtain ⟨v,rfl,hl⟩:=hp
 obtain ⟨qs,caps,rfl,_,_⟩:=hl.sl.shape
 have hf : p.ps.length≤9223372036854775807:=hl.few
 have S:=St.start hr
 refine S.box fun b1 w1 S=>?_
 have S : StX noX w r w1 [.cell b1 [.int .i64 p.l,.slice qs p.ps.length caps] 58]:=S
 refine zi (ι:=Nat) (fun i=>[.int .i64 (i : Nat)]) (fun i w'=>i≤p.ps.length∧-1 ∉ p.ps.take i∧StX noX w r w' [.cell b1 [.int .i64 p.l,.slice qs p.ps.length caps] 58]) (fun i=>p.ps.length - i) 0 rfl ⟨Nat.zero_le _,by simp,S⟩ ?_
 repeat clear S
 rintro i d w5 ⟨hi,hn,S⟩ K2 hK2
 simp only [List.getD_cons_zero]
 refine gg_ ?_
 refine zk (fun hlt=>?_) (fun hge=>?_)
 ·have hlt : i<p.ps.length:=by omega
  obtain ⟨b,off,rfl,_,hc⟩:=agy hl.sl hlt
  refine gg_ ?_
  refine zg (by rw [Int.toNat_natCast];exact S.at hc) ?_
  refine gg_ ?_
  refine zk (fun he=>?_) (fun he=>?_)
  ·rw [decide_eq_true (show -1 ∈ p.ps by rw [← he];exact List.getElem_mem hlt)] at h
   exact h _ S.ext
  ·refine gp_ ?_
   refine hK2 (i+1) _ ⟨hlt,?_,S⟩ (by omega)
   rw [List.take_succ_eq_append_getElem hlt,List.mem_append,List.mem_singleton]
   exact fun h=>h.elim hn fun e=>he e.symm
 ·have hie : i=p.ps.length:=by omega
  subst hie
  rw [List.take_length] at hn
  rw [decide_eq_false hn] at h
  exact h _ S.ext
theorem aht {p : PtD} {x : Int} : Zh p x=(((refOps p).any fun o=>kW o&&decide (o.pl.l=x))||(((decide (p.op=4)&&decide (p.fr.l=x))||(decide (p.op=14)&&decide (x=0)))||((xr p&&decide (-1 ∈ p.to.ps))&&decide (p.to.l=x)))):=rfl
set_option maxHeartbeats 2000000 in
theorem QA {p : PtD} {x : Int} {c : List Value} {w : World} {r : Gh} {K : Value→World→Prop} (hr : Holds r w) (hp : PtG r c p) (hb : p.args.length≤1000)
  (h : ∀ w',Ext w w'→K (.bool (Zh p x)) w') : zd Tryz.prog Tryz.qy #[.agg c.toArray,.int .i64 x] w K:=by
 refine Tryz.adX ?_
 unfold Tryz.J5
 obtain ⟨z1,z2,z3,z4,z5,t1,t2,t3,t4,t5,rfl,hp0⟩:=xf hp
 obtain ⟨kto,ka,kb,kl,kf⟩:=Ql hp0
 have S:=St.start hr
 refine S.box fun b2 w1 S=>?_
 have S : StX noX w r w1 [.cell b2 (ptL p z1 z2 z3 z4 z5 t1 t2 t3 t4 t5) 64]:=S
 refine S.ldB (b:=b2) ?_ rfl
 refine aaI S.holds hp0.up hb fun v8 s w2 e2 n2 h8=>?_
 obtain ⟨S,_,a2⟩:=S.tell e2 n2
 have hol : (refOps p).length≤1002:=by
  rw [refOps,List.length_append,List.length_append]
  have h1 : (if p.a.k≠0 then [p.a] else []).length≤1:=by split<;>simp
  have h2 : (if p.b.k≠0 then [p.b] else []).length≤1:=by split<;>simp
  omega
 rw [aht] at h
 generalize refOps p=ops at h8 hol h
 obtain ⟨q8,c8,rfl,_,_⟩:=h8.shape
 refine zi (ι:=Nat) (fun i=>[.int .i64 (i : Nat)]) (fun i w'=>i≤ops.length∧((ops.take i).any fun o=>kW o&&decide (o.pl.l=x))=false∧StX noX w (r.or s) w' [.cell b2 (ptL p z1 z2 z3 z4 z5 t1 t2 t3 t4 t5) 64]) (fun i=>ops.length - i) 0 rfl ⟨Nat.zero_le _,by simp,S⟩ ?_
 repeat clear S
 rintro i d w6 ⟨hi,hn,S⟩ K3 hK3
 simp only [List.getD_cons_zero]
 refine gg_ ?_
 refine zk (fun hlt=>?_) (fun hge=>?_)
 ·have hlt : i<ops.length:=by omega
  obtain ⟨bo,oo,co,hqo,hcl,hoc,hoo⟩:=h8.get (by decide) hlt
  have ht : ((ops.take (i+1)).any fun o=>kW o&&decide (o.pl.l=x))=(((ops.take i).any fun o=>kW o&&decide (o.pl.l=x))||(kW ops[i]&&decide (ops[i].pl.l=x))):=by
   rw [List.take_succ_eq_append_getElem hlt,List.any_append];simp only [List.any_cons,List.any_nil,Bool.or_false]
  have hall : (kW ops[i]&&decide (ops[i].pl.l=x))=true→(ops.any fun o=>kW o&&decide (o.pl.l=x))=true:=fun hh=>List.any_eq_true.2 ⟨_,List.getElem_mem hlt,hh⟩
  generalize ops[i]=o at hoc ht hall
  obtain ⟨qo,ko,rfl⟩:=acn hoc
  cases hqo
  refine gg_ ?_
  refine zg (by rw [Int.toNat_natCast];exact S.at (hoo 0 _ rfl)) ?_
  refine gg_ ?_
  refine zj (c:=decide (o.k=4)) (fun _ K2 hK2=>?_) ?_
  ·refine gg_ ?_
   refine zg (by rw [Int.toNat_natCast];exact S.at (hoo 0 _ rfl)) ?_
   refine gg_ ?_
   exact hK2
  have hpl : kW o=(decide (o.k=3)||decide (o.k=4)):=rfl
  rw [← hpl]
  refine zf (c:=decide (o.pl.l=x)) (fun _ K2 hK2=>?_) ?_
  ·refine gg_ ?_
   refine zg (by rw [Int.toNat_natCast];exact S.at (hoo 2 _ rfl)) ?_
   refine gg_ ?_
   exact hK2
  refine c_b (fun hb=>?_) (fun hb=>?_)
  ·rw [hall hb,Bool.true_or] at h
   exact h _ S.ext
  ·refine gp_ ?_
   refine hK3 (i+1) _ ⟨hlt,?_,S⟩ (by omega)
   rw [ht,hn,hb];rfl
 have hie : i=ops.length:=by omega
 subst hie
 rw [List.take_length] at hn
 rw [hn,Bool.false_or] at h
 clear hK3 K3 hge hi d h8
 refine gg_ ?_
 refine zf (c:=decide (p.fr.l=x)) (fun _ K2 hK2=>by refine gg_ ?_;exact hK2) ?_
 refine akq (c:=decide (p.op=14)) (d:=decide (x=0)) (fun w'=>w'=w6) (fun _ K2 hK2=>by refine gg_ ?_;exact hK2) (fun _ _ K2 hK2=>by refine gg_ ?_;exact hK2 _ rfl) rfl ?_
 rintro _ rfl
 refine c_b (fun hb=>?_) (fun hb=>?_)
 ·rw [hb,Bool.true_or] at h
  exact h _ S.ext
 rw [hb,Bool.false_or] at h
 refine S.ldB (b:=b2) ?_ rfl
 refine Xn S.holds hp0.up fun w31 e31=>?_
 have S:=S.go e31
 have hasg : (decide (1≤p.op)&&decide (p.op≤8))=xr p:=rfl
 rw [hasg]
 refine zs (c:=decide (-1 ∈ p.to.ps)) (fun _ K2 hK2=>?_) fun w35 e35=>?_
 ·refine gg_ ?_
  refine S.ldN (b:=b2) (vs:=[.int .i64 p.to.l,.slice z1 p.to.ps.length t1]) ?_
  refine af6 S.holds (p:=p.to) kto.up fun w36 e36=>?_
  exact hK2 _ e36
 have S:=S.go e35
 refine zf (c:=decide (p.to.l=x)) (fun _ K2 hK2=>by refine gg_ ?_;exact hK2) ?_
 exact h _ S.ext
set_option maxHeartbeats 2000000 in
theorem abW {p : PtD} {x : Int} {c : List Value} {w : World} {r : Gh} {K : Value→World→Prop} (hr : Holds r w) (hp : PtG r c p) (hb : p.args.length≤1000)
  (h : ∀ w',Ext w w'→K (.bool (ad9 p x)) w') : zd Tryz.prog Tryz.j9 #[.agg c.toArray,.int .i64 x] w K:=by
 refine Tryz.adY ?_
 unfold Tryz.J6
 obtain ⟨z1,z2,z3,z4,z5,t1,t2,t3,t4,t5,rfl,hp0⟩:=xf hp
 obtain ⟨kto,ka,kb,kl,kf⟩:=Ql hp0
 have S:=St.start hr
 refine S.box fun b2 w1 S=>?_
 have S : StX noX w r w1 [.cell b2 (ptL p z1 z2 z3 z4 z5 t1 t2 t3 t4 t5) 64]:=S
 refine S.ldB (b:=b2) ?_ rfl
 refine Xn S.holds hp0.up fun w2 e2=>?_
 have S:=S.go e2
 have hasg : (decide (1≤p.op)&&decide (p.op≤8))=xr p:=rfl
 rw [hasg]
 refine zf (c:=decide (p.to.ps.length=0)) (fun _ K2 hK2=>?_) ?_
 ·refine gg_ ?_
  have e : decide ((p.to.ps.length : Int)=0)=decide (p.to.ps.length=0):=by rw [decide_eq_decide];omega
  rw [e]
  exact hK2
 refine zf (c:=decide (p.to.l=x)) (fun _ K2 hK2=>by refine gg_ ?_;exact hK2) ?_
 refine gg_ ?_
 refine zf (c:=decide (p.fr.l=x)) (fun _ K2 hK2=>by refine gg_ ?_;exact hK2) ?_
 refine zj (c:=decide (p.op=11)&&decide (p.fr.l=x)) (fun _ K2 hK2=>hK2) ?_
 refine zs (c:=!Zh p x) (fun _ K2 hK2=>?_) fun w22 e22=>?_
 ·refine S.ldB (b:=b2) ?_ rfl
  refine QA S.holds hp0.up hb fun w23 e23=>?_
  refine gp_ ?_
  exact hK2 _ e23
 exact h _ (S.go e22).ext
end Go.Proofs
end
section
namespace Go.Proofs
open Go.Sh Go.RowKit Go.BM
set_option maxRecDepth 100000
set_option linter.unusedSimpArgs false
set_option linter.unusedVariables false
theorem aim {W : Int} {ws : List (BitVec 64)} {c : List Value} {w : World} {r : Gh} {K : Value→World→Prop} (hr : Holds r w) (hx : RwbC r c (W,ws))
  (h : ∀ w',Ext w w'→K (.bool (BM.mayB W ws)) w') : zd Tryz.prog Tryz.XF #[.agg c.toArray] w K:=by
 refine Tryz.afq ?_
 unfold Tryz.V6
 obtain ⟨p,cap,rfl,hS⟩:=hx
 have hfew : ws.length≤9223372036854775807:=hS.few
 have S:=St.start hr
 refine S.box fun b1 w1 S=>?_
 have S : StX noX w r w1 [.cell b1 [.int .i64 W,.slice p ws.length cap] 49]:=S
 refine gg_ ?_
 refine zj (c:=decide (1032<W)) (fun _ K2 hK2=>by refine gg_ ?_;exact hK2) ?_
 refine zj (c:=decide ((ws.length : Int)≠(W+63) / 64)) (fun hb K2 hK2=>?_) ?_
 ·simp only [Bool.or_eq_false_iff,decide_eq_false_iff_not] at hb
  refine gg_ ?_
  exact hK2
 refine c_b (fun hb=>?_) (fun hb=>?_)
 ·rw [BM.mayB_false (fun hm=>by
   simp only [Bool.or_eq_true,decide_eq_true_eq] at hb
   have:=hm.1;have:=hm.2.1;have:=hm.2.2.1
   omega)] at h
  exact h _ S.ext
 simp only [Bool.or_eq_false_iff,decide_eq_false_iff_not,Decidable.not_not] at hb
 obtain ⟨⟨h0,h1⟩,h2⟩:=hb
 obtain ⟨k,rfl⟩ : ∃ k : Nat,W=(k : Int):=⟨W.toNat,by omega⟩
 refine gg_ ?_
 refine zi (ι:=Nat) (fun i=>[.int .i64 (i : Nat)]) (fun i w'=>k≤i∧i≤64*ws.length∧(∀ j,k≤j→j<i→bit ws j=false)∧StX noX w r w' [.cell b1 [.int .i64 k,.slice p ws.length cap] 49]) (fun i=>64*ws.length - i) k rfl ⟨Nat.le_refl _,by omega,fun j h1 h2=>by omega,S⟩ ?_
 repeat clear S
 rintro i d w13 ⟨hki,hi,hz,S⟩ K10 hK10
 rw [List.getD_cons_zero]
 refine gg_ ?_
 refine zk (fun hlt=>?_) (fun hge=>?_)
 ·have hlt : i<64*ws.length:=by omega
  have hlt2 : i / 64<ws.length:=by omega
  obtain ⟨b2,o2,rfl,_,hc⟩:=abS hS.sl hlt2
  have hB : bit ws i=decide (((ws[i / 64] >>> (i % 64)) &&& BitVec.ofInt 64 1).toNat=(1 : Int)):=by
   rw [bit,List.getD_eq_getElem?_getD,List.getElem?_eq_getElem hlt2,Option.getD_some,Bool.eq_iff_iff,decide_eq_true_eq,Xu]
  have hzn : bit ws i=false→∀ j,k≤j→j<i+1→bit ws j=false:=fun hh j h1 h2=>by
   rcases Nat.lt_or_ge j i with h3|h3
   ·exact hz j h1 h3
   ·rw [show j=i by omega];exact hh
  have hmb : bit ws i=true→BM.mayB k ws=false:=fun hh=>BM.mayB_false fun hm=>by
   rw [hm.2.2.2 i (by omega) hlt] at hh;cases hh
  rw [hB] at hzn hmb
  generalize ws[i / 64]=x at hc hzn hmb
  refine gg_ ?_
  refine zg (by rw [show ((i : Int) / 64).toNat=i / 64 by omega];exact S.at hc) ?_
  refine gg_ ?_
  rw [show ((i : Int) % 64).toNat=i % 64 by omega]
  refine c_b (fun hb=>?_) (fun hb=>?_)
  ·rw [hmb hb] at h
   exact h _ S.ext
  ·refine gp_ ?_
   exact hK10 (i+1) _ ⟨by omega,hlt,hzn hb,S⟩ (by omega)
 ·have hie : i=64*ws.length:=by omega
  rw [BM.mayB_true ⟨by omega,by omega,by omega,fun j h1 h2=>hz j (by omega) (by omega)⟩] at h
  exact h _ S.ext
theorem abX {k : Nat} {ws : List (BitVec 64)} {c : List Value} {w : World} {r : Gh} {K : Value→World→Prop} (hr : Holds r w) (hx : RwbC r c (k,ws)) (hk : k≤64*ws.length) (hl : ws.length≤1000)
  (h : ∀ v' s w',Ext w w'→New w s w'→SlG 1 s zU v' (mkd (xZ k ws))→K v' w') : zd Tryz.prog Tryz.vc #[.agg c.toArray] w K:=by
 refine Tryz.adT ?_
 unfold Tryz.JW
 have hx0:=hx
 obtain ⟨p,cap,rfl,hS⟩:=hx
 have hml:=afk (W:=k) (ws:=ws)
 have S:=St.start hr
 refine S.box fun b1 w1 S=>?_
 have S:=S.ownNil 3 1
 have S : StX noX w r w1 [.row (.slice none 0 0) 3 1 (mkd ((xZ k ws).take 0)).length (ints (mkd ((xZ k ws).take 0))),.cell b1 [.int .i64 k,.slice p ws.length cap] 49]:=S
 refine zi (ι:=Nat × Value) (fun i=>[i.2,.int .i64 (i.1 : Nat)]) (fun i w'=>i.1≤k∧StX noX w r w' [.row i.2 3 1 (mkd ((xZ k ws).take i.1)).length (ints (mkd ((xZ k ws).take i.1))),.cell b1 [.int .i64 k,.slice p ws.length cap] 49]) (fun i=>k - i.1) (0,.slice none 0 0) rfl ⟨Nat.zero_le _,S⟩ ?_
 repeat clear S
 rintro ⟨i,vl⟩ d w5 ⟨hi,S⟩ K2 hK2
 simp only at hi S ⊢
 simp only [List.getD_cons_zero,List.getD_cons_succ]
 refine gg_ ?_
 refine zk (fun hlt=>?_) (fun hge=>?_)
 ·have hlt : i<k:=by omega
  have hsn:=vV (m:=xZ k ws) (i:=i) (by omega)
  have hbi : (xZ k ws)[i]'(by omega)=bit ws i:=by simp [xZ]
  have hfl : (mkd ((xZ k ws).take i)).length≤1000000:=by
   have:=Yf (m:=(xZ k ws).take i)
   rw [List.length_take] at this
   omega
  refine zp (fun x w'=>∃ vl',x = [vl']∧StX noX w r w' [.row vl' 3 1 (mkd ((xZ k ws).take (i+1))).length (ints (mkd ((xZ k ws).take (i+1)))),.cell b1 [.int .i64 k,.slice p ws.length cap] 49]) (fun K6 hK6=>?_) ?_
  ·refine S.ldN (b:=b1) (vs:=[.int .i64 k,.slice p ws.length cap]) ?_
   refine ahl S.holds hx0 (k:=(i : Nat)) (by omega) (by omega) (by omega) fun w10 e10=>?_
   have S:=S.go e10
   rw [hsn,hbi] at hK6
   rw [Int.toNat_natCast]
   refine c_b (fun hb=>?_) (fun hb=>?_)
   ·rw [if_pos hb] at hK6
    refine S.lit (e:=3) (cs:=[.int .i64 (i : Nat)]) (by kernel_rfl) fun b9 w13 S=>?_
    refine S.ap (v:=vl) (m':=1) (Sl.blk (S.blk b9)) (fun v4 w14 S=>?_) (by omega)
    refine hK6 _ _ ⟨v4,rfl,?_⟩
    rw [List.length_append,xU]
    exact S.drop b9
   ·rw [if_neg (by rw [hb];decide),List.append_nil] at hK6
    exact hK6 _ _ ⟨vl,rfl,S⟩
  rintro _ w9 ⟨vl',rfl,S⟩ d
  rw [List.getD_cons_zero]
  refine gg_ ?_
  exact hK2 (i+1,vl') _ ⟨hlt,S⟩ (by show k - (i+1)<k - i;omega)
 ·have hie : i=(xZ k ws).length:=by omega
  rw [hie,List.take_length] at S
  obtain ⟨s2,T,hs,_,hab⟩:=S.doneRow yO (by decide) rfl
  exact h _ s2 _ T.ext (StX.newOf (q:=s2) T fun b o ho=>(hab b o ho).resolve_right id) hs
end Go.Proofs
end
section
namespace Go.Proofs
open Go.Sh Go.RowKit
set_option maxRecDepth 100000
set_option linter.unusedSimpArgs false
set_option linter.unusedVariables false
theorem akr {g : GrD} {q x : Int} {p : PtD} (hF : LkF g) (hp : g.pts[q.toNat]? = some p) : Zh p x=decide (Usd g x q):=by
 obtain ⟨u,hu⟩:=hF.pt
 rw [Qq (hu p (List.mem_of_getElem? hp)),decide_eq_decide,Usd,YH,hp]
theorem aks {g : GrD} {q x : Int} {p : PtD} (hF : LkF g) (hp : g.pts[q.toNat]? = some p) : ad9 p x=decide (z7 g x q):=by
 obtain ⟨u,hu⟩:=hF.pt
 rw [afb (hu p (List.mem_of_getElem? hp)),decide_eq_decide,z7,ZO,hp]
def isJ (g : GrD) (x q : Int) (m : List Bool) (j : Nat) : Bool:=decide (Usd g x q)||(!decide (z7 g x q)&&((nxt (zh g) q).take j).any fun p=>mk' m p)
theorem aju {g : GrD} {x q : Int} {m : List Bool} : isJ g x q m 0=decide (Usd g x q):=by simp [isJ]
theorem ajv {g : GrD} {x q : Int} {m : List Bool} {j : Nat} (hj : j<(nxt (zh g) q).length) (hE : decide (z7 g x q)=false) : isJ g x q m (j+1)=(isJ g x q m j||mk' m (nxt (zh g) q)[j]):=by
 rw [isJ,isJ,hE,List.take_succ_eq_append_getElem hj,List.any_append]
 simp [Bool.or_assoc]
theorem akt {g : GrD} {x q : Int} {m : List Bool} {j : Nat} (h : (decide (j<(nxt (zh g) q).length) && !decide (z7 g x q))=false) : isJ g x q m j=xd g x m q:=by
 rw [isJ,xd]
 cases hE : decide (z7 g x q) with
 |true=>rfl
 |false=>
  rw [hE,Bool.not_false,Bool.and_true,decide_eq_false_iff_not] at h
  rw [List.take_of_length_le (by omega)]
set_option maxHeartbeats 4000000 in
theorem ahu {g : GrD} {c : List Value} {w : World} {r : Gh} {K : Value→World→Prop} (hr : Holds r w) (hg : GrG r c g) (hF : LkF g)
  (h : ∀ v' s w',Ext w w'→New w s w'→SlG 1 s (RowBC s) v' (lvR g)→K v' w') : zd Tryz.prog Tryz.YK #[.agg c.toArray] w K:=by
 refine Tryz.adZ ?_
 unfold Tryz.J7
 obtain ⟨x1,x2,x3,x4,y1,y2,y3,y4,rfl,hg1⟩:=Ye hg
 obtain ⟨_,_,_,_,hEE,m1,m2,m3,m4⟩:=id hg1
 cases hEE
 have hnf:=hF.net.few
 have hmf:=hF.loc.few
 have hgl:=z6 (g:=g)
 have hRl:=qS (g:=g)
 have hok:=hF.net.ok
 have S:=St.start hr
 refine S.box fun b1 w1 S=>?_
 have S:=S.ownNil 52 1
 have S:=S.new (Ext.refl _) New.nothing
 have S : StX noX w (r.or nothing) w1 [.row (.slice none 0 0) 52 1 0 [],.cell b1 (grL g x1 x2 x3 x4 y1 y2 y3 y4) 43]:=S
 refine zi (ι:=Nat × Value × Gh × List Value) (fun i=>[i.2.1,.int .i64 (i.1 : Nat)])
  (fun i w'=>i.1≤(lvR g).length∧Above w i.2.2.1∧RowOf 1 (RowBC i.2.2.1) i.2.2.2 ((lvR g).take i.1)∧StX noX w (r.or i.2.2.1) w' [.row i.2.1 52 1 i.1 i.2.2.2,.cell b1 (grL g x1 x2 x3 x4 y1 y2 y3 y4) 43])
  (fun i=>(lvR g).length - i.1) (0,.slice none 0 0,nothing,[]) rfl ⟨Nat.zero_le _,Above.no,by simpa using RowOf.nil,S⟩ ?_
 repeat clear S
 rintro ⟨x,vo,τ,xs⟩ d w5 ⟨hi,ha,hR,S⟩ K2 hK2
 simp only at hi ha hR S ⊢
 simp only [List.getD_cons_zero,List.getD_cons_succ]
 refine gg_ ?_
 refine zk (fun hlt=>?_) (fun hge=>?_)
 ·have hlt : x<(lvR g).length:=by omega
  have htk : (lvR g).take (x+1)=(lvR g).take x ++ [lvM g x]:=by rw [List.take_succ_eq_append_getElem hlt,qC]
  refine gg_ ?_
  refine S.mkS (by omega) (by omega) fun b21 w6 S=>?_
  rw [Int.toNat_natCast] at S ⊢
  rw [← hgl] at S ⊢
  rw [Vp] at S
  refine zi (ι:=Bool × List Bool) (fun i=>[.bool i.1]) (fun i w'=>Rnd g x i.2∧(i.1=false→∀ q,isN (zh g) q→xd g x i.2 q=true→mk' i.2 q=true)∧StX noX w (r.or τ) w' [.cell b21 (bls i.2) 4,.row vo 52 1 x xs,.cell b1 (grL g x1 x2 x3 x4 y1 y2 y3 y4) 43])
   (fun i=>(if i.1=true then 1 else 0)+2*off i.2) (true,List.replicate (zh g).length false) rfl ⟨Rnd.start,fun h=>(by cases h),S⟩ ?_
  repeat clear S
  rintro ⟨more,m⟩ d w10 ⟨hm,hfin,S⟩ K7 hK7
  simp only at hm hfin S ⊢
  rw [List.getD_cons_zero]
  refine c_b (fun hb=>?_) (fun hb=>?_)
  ·subst hb
   clear hfin
   refine gg_ ?_
   rw [← hgl]
   refine zi (ι:=Nat × Bool × List Bool) (fun i=>[.bool i.2.1,.int .i64 ((i.1 : Int) - 1)])
    (fun i w'=>i.1≤(zh g).length∧Rnd g x i.2.2∧off i.2.2+(if i.2.1=true then 1 else 0)≤off m∧(i.2.1=false→i.2.2=m∧∀ p,isN (zh g) p→(i.1 : Int)≤p→xd g x m p=true→mk' m p=true)∧StX noX w (r.or τ) w' [.cell b21 (bls i.2.2) 4,.row vo 52 1 x xs,.cell b1 (grL g x1 x2 x3 x4 y1 y2 y3 y4) 43])
    (fun i=>i.1) ((zh g).length,false,m) rfl ⟨Nat.le_refl _,hm,Nat.le_refl _,fun _=>⟨rfl,fun p hp h1=>by have:=hp.2;omega⟩,S⟩ ?_
   repeat clear S
   rintro ⟨k,mo,m'⟩ d w14 ⟨hk,hm',ho,hno,S⟩ K11 hK11
   simp only at hk hm' ho hno S ⊢
   simp only [List.getD_cons_zero,List.getD_cons_succ]
   refine gp_ ?_
   refine zk (fun hge0=>?_) (fun hlt0=>?_)
   ·obtain ⟨q,rfl⟩ : ∃ q,k=q+1:=⟨k - 1,by omega⟩
    have hqe : (((q+1 : Nat) : Int) - 1)=(q : Int):=by omega
    rw [hqe]
    have hqN : isN (zh g) (q : Int):=⟨by omega,by omega⟩
    have hlq : q<g.pts.length:=by omega
    have hp : g.pts[(q : Int).toNat]? = some g.pts[q]:=by rw [Int.toNat_natCast];exact List.getElem?_eq_getElem hlq
    have hpm:=List.getElem_mem hlq
    obtain ⟨bp,op,cp,hqp,hcp,hpc,hpo⟩:=m4.sl.get (by decide) hlq
    have hargs:=hF.args _ hpm
    have hus:=akr (x:=(x : Nat)) hF hp
    have hen:=aks (x:=(x : Nat)) hF hp
    generalize g.pts[q]=p at hpc hargs hus hen
    obtain ⟨z1,z2,z3,z4,z5,t1,t2,t3,t4,t5,rfl,hp0⟩:=xf hpc
    have hml:=hm'.len
    have hld : ∀ {w' : World} {υ : Gh} {L : List Asr} {X : Nat→Prop} [Le r υ],StX X w υ w' L→∀ j v,(ptL p z1 z2 z3 z4 z5 t1 t2 t3 t4 t5)[j]? = some v→w'.cell? ⟨bp,op+q*21+j,none⟩=some v:=fun S j v hj=>S.at (hpo j v hj)
    subst hqp
    refine zp (fun y w'=>∃ mo2 m2,y = [.bool mo2]∧Rnd g x m2∧off m2+(if mo2=true then 1 else 0)≤off m∧(mo2=false→m2=m∧∀ p,isN (zh g) p→(q : Int)≤p→xd g x m p=true→mk' m p=true)∧StX noX w (r.or τ) w' [.cell b21 (bls m2) 4,.row vo 52 1 x xs,.cell b1 (grL g x1 x2 x3 (some ⟨bp,op,none⟩) y1 y2 y3 y4) 43]) (fun K15 hK15=>?_) ?_
    ·refine gg_ ?_
     refine zq (n:=21) hcp (fun j v hj=>by rw [Int.toNat_natCast];exact hld S j v hj) ?_
     refine QA S.holds hpc.up hargs fun w19 e19=>?_
     have S:=S.go e19
     rw [hus]
     refine S.ldB (b:=b1) ?_ rfl
     refine ahm S.holds hg1.up hqN fun vN sN w20 e20 n20 hN=>?_
     obtain ⟨S,_,a20⟩:=S.tell e20 n20
     have hnN : ∀ y ∈ nxt (zh g) (q : Int),isN (zh g) y:=fun y hy=>X5 hok hy
     have hnfew : (nxt (zh g) (q : Int)).length≤2:=by rw [ae6 hqN];exact hF.net.nar _ (List.getElem_mem _)
     obtain ⟨pN,cN,rfl,_,_⟩:=hN.shape
     rw [← aju (m:=m')]
     refine zi (ι:=Nat) (fun j=>[.bool (isJ g (x : Nat) (q : Nat) m' j),.int .i64 (j : Nat)]) (fun j w'=>j≤(nxt (zh g) (q : Int)).length∧StX noX w ((r.or τ).or sN) w' [.cell b21 (bls m') 4,.row vo 52 1 x xs,.cell b1 (grL g x1 x2 x3 (some ⟨bp,op,none⟩) y1 y2 y3 y4) 43]) (fun j=>(nxt (zh g) (q : Int)).length - j) 0 rfl ⟨Nat.zero_le _,S⟩ ?_
     repeat clear S
     rintro j d w24 ⟨hj,S⟩ K21 hK21
     simp only [List.getD_cons_zero,List.getD_cons_succ]
     refine gg_ ?_
     refine zs (c:=!decide (z7 g (x : Nat) (q : Nat))) (fun _ K25 hK25=>?_) fun w28 e28=>?_
     ·refine gg_ ?_
      refine zq (n:=21) hcp (fun j v hj=>by rw [Int.toNat_natCast];exact hld S j v hj) ?_
      refine abW S.holds hpc.up hargs fun w29 e29=>?_
      rw [hen]
      refine gp_ ?_
      exact hK25 _ e29
     have S:=S.go e28
     have hje : decide ((j : Int)<((nxt (zh g) (q : Int)).length : Nat))=decide (j<(nxt (zh g) (q : Int)).length):=by rw [decide_eq_decide];omega
     rw [hje]
     refine c_b (fun hb=>?_) (fun hb=>?_)
     ·rw [Bool.and_eq_true,decide_eq_true_eq,Bool.not_eq_true'] at hb
      obtain ⟨hjl,hE⟩:=hb
      have hnx:=ajv (m:=m') hjl hE
      obtain ⟨bn,on,hpn,_,hcn⟩:=yr hN hjl
      cases hpn
      have hyN:=hnN _ (List.getElem_mem hjl)
      generalize (nxt (zh g) (q : Int))[j]=y at hnx hcn hyN
      have y0:=hyN.1;have y1:=hyN.2
      refine zj (c:=mk' m' y) (fun _ K2 hK2=>?_) ?_
      ·refine gg_ ?_
       refine zg (by rw [Int.toNat_natCast];exact S.at hcn) ?_
       refine gp_ ?_
       refine S.ld (b:=b21) ?_ (afr (by omega))
       exact hK2
      refine gp_ ?_
      rw [← hnx]
      exact hK21 (j+1) _ ⟨hjl,S⟩ (by omega)
     ·rw [akt hb]
      have S : StX noX w (r.or τ) w28 [.cell b21 (bls m') 4,.row vo 52 1 x xs,.cell b1 (grL g x1 x2 x3 (some ⟨bp,op,none⟩) y1 y2 y3 y4) 43]:=S.less (fun b o h=>.inl h) (List.Sublist.refl _)
      clear hK21 K21 hb hje
      refine zf (c:=!mk' m' (q : Nat)) (fun _ K2 hK2=>?_) ?_
      ·refine gp_ ?_
       refine S.ld (b:=b21) ?_ (afr (by omega))
       refine gp_ ?_
       exact hK2
      refine c_b (fun hb=>?_) (fun hb=>?_)
      ·rw [Bool.and_eq_true,Bool.not_eq_true'] at hb
       have hofs:=agp (m:=m') (q:=(q : Nat)) (by omega) hb.2
       refine gg_ ?_
       refine S.st (b:=b21) (fun w38 S=>?_) (by rw [X6];omega)
       have S : StX noX w (r.or τ) w38 [.cell b21 (bls (xH m' (q : Nat))) 4,.row vo 52 1 x xs,.cell b1 (grL g x1 x2 x3 (some ⟨bp,op,none⟩) y1 y2 y3 y4) 43]:=by
        rw [← agv (Int.natCast_nonneg q)];exact S.to _
       exact hK15 _ _ ⟨true,xH m' (q : Nat),rfl,hm'.set hok hqN hb.1,by rw [if_pos rfl];split at ho<;>omega,fun h=>(by cases h),S⟩
      ·refine hK15 _ _ ⟨mo,m',rfl,hm',ho,fun hmo=>?_,S⟩
       obtain ⟨rfl,hup⟩:=hno hmo
       refine ⟨rfl,fun p hpN hqp hmus=>?_⟩
       by_cases he : p=q
       ·subst he
        rw [hmus,Bool.true_and,Bool.not_eq_false'] at hb
        exact hb
       ·exact hup p hpN (by omega) hmus
    repeat clear S
    rintro _ w18 ⟨mo2,m2,rfl,h1,h2,h3,S⟩ d
    rw [List.getD_cons_zero]
    refine gp_ ?_
    exact hK11 (q,mo2,m2) _ ⟨by omega,h1,h2,h3,S⟩ (Nat.lt_succ_self _)
   ·have hk0 : k=0:=by omega
    subst hk0
    refine hK7 (mo,m') _ ⟨hm',fun hmo q hq hmus=>?_,S⟩ ?_
    ·obtain ⟨rfl,hup⟩:=hno hmo
     exact hup q hq hq.1 hmus
    ·show (if mo=true then 1 else 0)+2*off m'<(if true=true then 1 else 0)+2*off m
     cases mo
     ·obtain ⟨rfl,_⟩:=hno rfl
      simp
     ·simp at ho ⊢;omega
  ·have hme:=hm.end (hfin hb)
   subst hme
   clear hK7 K7 hfin hm
   have hml:=xM (g:=g) (x:=(x : Nat))
   rw [← hml]
   obtain ⟨S,hs,has⟩:=S.litNew b21 (sz:=1) (R:=JP) (l:=lvM g x) Xo (by decide)
   generalize hM : lvM g (x : Nat)=M at S hs has htk hml
   generalize Go.Sh.one b21 (bls M) 4=s2 at S hs has
   have S:=S.reGh
   refine S.lit (e:=52) (cs:=[.slice (some ⟨b21,0,none⟩) M.length M.length]) (by kernel_rfl) fun b10 w11 S=>?_
   refine S.ap (v:=vo) (m':=1) (Sl.blk (S.blk b10)) (fun v4 w12 S=>?_) (by omega)
   have S:=S.drop b10
   refine gp_ ?_
   refine hK2 (x+1,v4,τ.or s2,xs ++ [.slice (some ⟨b21,0,none⟩) M.length M.length]) _ ⟨hlt,ha.or' has,?_,S⟩ (by show (lvR g).length - (x+1)<(lvR g).length - x;omega)
   show RowOf 1 (RowBC (τ.or s2)) (xs ++ [.slice (some ⟨b21,0,none⟩) M.length M.length]) ((lvR g).take (x+1))
   rw [htk]
   exact (hR.mono fun _ _ h=>RowBC.up h).snoc rfl ⟨_,rfl,hs.cells,by show M.length≤maxLen;rw [maxLen];omega⟩
 ·have hie : x=(lvR g).length:=by omega
  subst hie
  rw [List.take_length] at hR
  obtain ⟨s2,T,hs,_,hab⟩:=S.doneRow hR (by decide) rfl
  have hab : Above w s2:=fun b o ho=>(hab b o ho).resolve_right id
  exact h _ (τ.or s2) _ T.ext (StX.newOf (q:=τ.or s2) T.reGh (ha.or' hab)) (hs.up' inferInstance fun _ _ h=>RowBC.up h)
end Go.Proofs
end
section
namespace Go.Proofs
open Go.Sh Go.RowKit
set_option maxRecDepth 100000
set_option linter.unusedSimpArgs false
set_option linter.unusedVariables false
end Go.Proofs
end
section
namespace Go.Proofs
open Go.Sh
set_option maxRecDepth 100000
set_option linter.unusedSimpArgs false
set_option linter.unusedVariables false
theorem aab {w : World} {K : Value→World→Prop} (h : ∀ w',Ext w w'→K akY w') : zd Tryz.prog Tryz.xt #[] w K:=by
 refine Tryz.afE ?_
 unfold Tryz.V8
 have S : StX noX w nothing w []:=St.start (fun _ _ h=>h.elim)
 refine S.al fun b0 w1 S=>?_
 refine zy (cs:=YD.toArray) (by kernel_rfl) ?_
 refine S.stB (b:=b0) fun w2 S=>?_
 refine S.ceB (b:=b0) ?_ rfl
 exact h _ S.ext
theorem af7 {n : Int} {w : World} {K : Value→World→Prop} (h : ∀ w',Ext w w'→K (akZ n) w') : zd Tryz.prog Tryz.zt #[.int .i64 n] w K:=by
 refine Tryz.afG ?_
 unfold Tryz.aaa
 have S : StX noX w nothing w []:=St.start (fun _ _ h=>h.elim)
 refine S.al fun b0 w1 S=>?_
 refine zy (cs:=#[.int .u8 1,.int .i64 n,.int .i64 0,.slice none 0 0]) (by kernel_rfl) ?_
 refine S.stB (b:=b0) fun w2 S=>?_
 refine S.ceB (b:=b0) ?_ rfl
 exact h _ S.ext
theorem af8 {m : Bool} {w : World} {K : Value→World→Prop} (h : ∀ q cap sn w',Ext w w'→New w sn w'→TyG sn (tyV (.mk 4 m (-1) 0 [jy]) q cap) (.mk 4 m (-1) 0 [jy])→K (tyV (.mk 4 m (-1) 0 [jy]) q cap) w') : zd Tryz.prog Tryz.kQ #[.bool m] w K:=by
 refine Tryz.afF ?_
 unfold Tryz.V9
 have S : StX noX w nothing w []:=St.start (fun _ _ h=>h.elim)
 refine S.al fun b2 w1 S=>?_
 refine aab fun w2 e2=>?_
 have S:=S.go e2
 refine S.lit (e:=93) (cs:=YD) (by kernel_rfl) fun b5 w3 S=>?_
 refine zy (cs:=#[.int .u8 4,.bool m,.int .i64 (-1),.int .i64 0,.slice (some ⟨b5,0,none⟩) 1 1]) (by kernel_rfl) ?_
 refine S.stB (b:=b2) fun w4 S=>?_
 refine S.ceB (b:=b2) ?_ rfl
 obtain ⟨S,_,ha⟩:=S.litNew b5 (sz:=5) (R:=TyC nothing) (l:=[jy]) (by exact (yq (c:=YD) rfl (show TyC nothing YD jy from YC))) (by decide)
 exact h (some ⟨b5,0,none⟩) 1 (nothing.or (Go.Sh.one b5 YD 93)) _ S.ext (S.newOf (Above.no.or' ha)) (ahM (u:=jy) (v:=akY) YC)
set_option maxHeartbeats 8000000 in
theorem afH {w : World} {K : Value→World→Prop} (h : ∀ v s w',Ext w w'→New w s w'→UnG s v xF→K v w') : zd Tryz.prog Tryz.YN #[] w K:=by
 refine Tryz.ad2 ?_
 unfold Tryz.Va
 have S : StX noX w nothing w []:=St.start (fun _ _ h=>h.elim)
 refine S.al fun b0 w1 S=>?_
 refine S.lit (e:=90) (cs:=[.int .i64 (-1)]) (by kernel_rfl) fun b2 w2 S=>?_
 refine zy (cs:=#[.int .i64 2,.slice (some ⟨b2,0,none⟩) 1 1]) (by kernel_rfl) ?_
 refine S.al fun b1 w3 S=>?_
 refine S.stB (b:=b1) fun w4 S=>?_
 have S:=S.go (Ext.drew _)
 refine zy (cs:=#[.int .i64 2,.slice none 0 0]) (by kernel_rfl) ?_
 refine zy (cs:=#[.int .i64 1,.slice none 0 0]) (by kernel_rfl) ?_
 refine zy (cs:=hl0.toArray) (by kernel_rfl) ?_
 refine zy (cs:=#[.int .i64 1,.slice none 0 0]) (by kernel_rfl) ?_
 refine S.ldB (b:=b1) ?_ rfl
 refine zy (cs:=hl3.toArray) (by kernel_rfl) ?_
 have S:=S.drop b1
 have fin : ∀ {w9 : World} {b7 b8 b19 b21 : Nat} {q6 : Option Addr} {c6 : Nat} {sn : Gh} {M M1 M2 M3 M4 M5 : List Asr} (S : StX noX w (nothing.or sn) w9 M)
   [ZI b7 M (YD++(YD++tyL Ju q6 c6)) 93 M1] [ZI b8 M1 [.string ByteArray.empty,.string ByteArray.empty,.string ByteArray.empty] 9 M2] [ZI b2 M2 [.int .i64 (-1)] 90 M3]
   [ZI b19 M3 (hl0++(hl1++(hl2 b2++hl3))) 64 M4] [ZI b21 M4 [.string ByteArray.empty,.int .i64 0,.slice none 0 0,.int .i64 0,.slice (some ⟨b7,0,none⟩) 3 3,.slice (some ⟨b8,0,none⟩) 3 3,.slice (some ⟨b19,0,none⟩) 4 4] 43 M5],
   Above w sn→TyG sn (tyV Ju q6 c6) Ju→K (.agg #[.slice none 0 0,.slice (some ⟨b21,0,none⟩) 1 1,.int .i64 0]) w9:=by
  intro w9 b7 b8 b19 b21 q6 c6 sn M M1 M2 M3 M4 M5 S _ _ _ _ _ ha ht
  obtain ⟨S,h7,a7⟩:=S.litNew b7 (sz:=5) (R:=TyC sn) (l:=[jy,jy,Ju]) (by exact (yH rfl YC (yH rfl YC (yq rfl ht)))) (by decide)
  obtain ⟨S,h8,a8⟩:=S.litNew b8 (sz:=1) (R:=aiQ) (l:=[ByteArray.empty,ByteArray.empty,ByteArray.empty]) (by exact (yH (c:=[.string ByteArray.empty]) rfl rfl (yH (c:=[.string ByteArray.empty]) rfl rfl (yq rfl rfl)))) (by decide)
  obtain ⟨S,h2,a2⟩:=S.litNew b2 (sz:=1) (R:=ZK) (l:=[-1]) (by exact (yq rfl ⟨rfl,by unfold ack;omega⟩)) (by decide)
  have hz : ∀ {r : Gh} {α : Type} {sz : Nat} {R : List Value→α→Prop},SlB sz r R (.slice none 0 0) ([] : List α):=aj8
  obtain ⟨S,h19,a19⟩:=S.litNew b19 (sz:=21) (R:=PtG (Go.Sh.one b2 [.int .i64 (-1)] 90)) (l:=[hp0,hp1,hp2,hp3])
   (by exact (yH rfl ⟨_,_,_,_,_,rfl,hz,hz,hz,hz,hz⟩ (yH rfl ⟨_,_,_,_,_,rfl,hz,hz,hz,hz,hz⟩ (yH rfl ⟨_,_,_,_,_,rfl,X2 h2,hz,hz,hz,hz⟩ (yq rfl ⟨_,_,_,_,_,rfl,hz,hz,hz,hz,hz⟩))))) (by decide)
  obtain ⟨S,h21,a21⟩:=S.litNew b21 (sz:=7) (R:=GrG (((((nothing.or sn).or (Go.Sh.one b7 (YD++(YD++tyL Ju q6 c6)) 93)).or (Go.Sh.one b8 [.string ByteArray.empty,.string ByteArray.empty,.string ByteArray.empty] 9)).or (Go.Sh.one b2 [.int .i64 (-1)] 90)).or (Go.Sh.one b19 (hl0++(hl1++(hl2 b2++hl3))) 64))) (l:=[zA])
   (by exact (yq rfl ⟨_,_,_,_,rfl,hz,X2 (h7.up' inferInstance fun c x hx=>TyG.up hx),X2 h8.cells,X2 (h19.up' inferInstance fun c x hx=>PtG.up hx)⟩)) (by decide)
  exact h _ _ _ S.ext (S.newOf (((((Above.no.or' ha).or' a7).or' a8).or' a2).or' a19 |>.or' a21)) ⟨none,0,_,rfl,fun _=>rfl,Nat.zero_le _,trivial,Nat.zero_le _,X2 (h21.up' inferInstance fun c x hx=>GrG.up hx)⟩
 repeat' (first
  |(with_reducible refine aab fun w9 e9=>⟨e9,?_⟩;have S:=S.go e9)
  |(with_reducible refine af7 fun w9 e9=>⟨e9,?_⟩;have S:=S.go e9)
  |(with_reducible refine af8 fun q6 c6 sn w9 e9 n9 t9=>⟨e9,?_⟩;obtain ⟨S,d9,a9⟩:=S.tell e9 n9)
  |(with_reducible refine S.litU (t:=39) (e:=93) (cs:=YD++(YD++tyL Ju q6 c6)) (by kernel_rfl) fun b7 w9 S=>?_)
  |(with_reducible refine S.mkSU (by decide) (by decide) fun b8 w9 S=>?_)
  |(with_reducible refine zy (t:=64) (parts:=#[(0,.int .u8 1),(1,.agg #[.int .i64 1,.slice none 0 0]),(2,akZ 2),(10,.int .i64 2)]) (cs:=hl1.toArray) (by kernel_rfl) ?_)
  |(with_reducible refine zy (t:=64) (cs:=(hl2 b2).toArray) (by kernel_rfl) ?_)
  |(with_reducible refine S.lit (t:=41) (e:=64) (cs:=hl0++(hl1++(hl2 b2++hl3))) (by kernel_rfl) fun b19 w9 S=>?_)
  |(with_reducible refine zy (t:=43) (cs:=#[.string ByteArray.empty,.int .i64 0,.slice none 0 0,.int .i64 0,.slice (some ⟨b7,0,none⟩) 3 3,.slice (some ⟨b8,0,none⟩) 3 3,.slice (some ⟨b19,0,none⟩) 4 4]) (by kernel_rfl) ?_)
  |(with_reducible refine S.lit (t:=23) (e:=43) (cs:=[.string ByteArray.empty,.int .i64 0,.slice none 0 0,.int .i64 0,.slice (some ⟨b7,0,none⟩) 3 3,.slice (some ⟨b8,0,none⟩) 3 3,.slice (some ⟨b19,0,none⟩) 4 4]) (by kernel_rfl) fun b21 w9 S=>?_)
  |(with_reducible refine zy (t:=25) (cs:=#[.slice none 0 0,.slice (some ⟨b21,0,none⟩) 1 1,.int .i64 0]) (by kernel_rfl) ?_)
  |(with_reducible refine And.intro ?_ ?_)
  |(refine S.stB (b:=b0) fun w9 S=>?_;refine S.ceB (b:=b0) ?_ rfl;exact fin (b7:=b7) (b8:=b8) (b19:=b19) (b21:=b21) S a9 t9)
)
end Go.Proofs
end
