/-
  Contracts and plain laws that the last text leans on.
-/
import Derived.Test.YthmakcmiggpoeaaGreatDoorQBf
import Derived.Test.YthmakcmiggpoeaaGreatDoorQBb
import Derived.Test.YthmakcmiggpoeaaGreatDoorQBe
import Derived.WideKeyRuns
set_option maxRecDepth 100000
set_option maxHeartbeats 8000000
set_option linter.unusedVariables false
set_option linter.unusedSimpArgs false
namespace Go.Proofs
open Go.Sh Go.RowKit Go.BM
section
variable {w:World} {r:Gh} {K:Value→World→Prop} {ws:List (BitVec 64)} {c:List Value}
def Tab(w:World):Prop:=∀j,j<64→w.cell? ⟨0,j,none⟩=some (.int .u8 (Lib.deBruijn64tab.getD j 0:Nat))
def TabG(r:Gh):Prop:=Ob r Tab∧∃o,r 0 o
theorem TabG.up{s:Gh}(h:TabG r)[le:Le r s]:TabG s:=⟨h.1.up,h.2.imp λo=>le.le 0 o⟩
theorem abr{x:BitVec 64}{t:Nat}(hT:Tab w)(hx:x≠0#64)(ht:t<64)(ha:(x &&& -x).toNat=2 ^ t)(h:K (.int .i64 t) w):
  zd Tryz.prog Tryz.xC #[u64 x] w K:=by
 refine Tryz.Z2 ?_
 unfold Tryz.k8
 refine amh ?_
 refine zh (λh0=>absurd (BitVec.eq_of_toNat_eq (by have :(0#64).toNat=0:=rfl;omega)) hx) (λh0=>?_)
 refine amy (aef ?_)
 rw[agW]
 refine anm 285870213051353865 rfl ?_
 refine anl 58 rfl ?_
 have hta:=alY ht ha
 generalize ((x &&& -x)*BitVec.ofNat 64 285870213051353865) >>> 58=z at hta⊢
 refine ag1 (l:=64) (e:=5) (n:=1) (by kernel_rfl) (by omega) (by omega) ?_
 have hc:=hT _ hta.1
 rw[hta.2]at hc
 refine zf (v:=.int .u8 (t:Int)) (by rw[show 0+Int.toNat (z.toNat:Int)*1=z.toNat by omega];exact hc) ?_
 refine amz (k1:=.u8) (by kernel_rfl) (by kernel_rfl) (by omega) h
abbrev acF(k:Nat):List Value:=[.int .i64 (k:Int)]
noncomputable def Yb(W:Int)(ws:List (BitVec 64)):List Nat:=if BM.mayB W ws then X2 ws else []
theorem afK{W:Int}(h:BM.May W ws):Yb W ws=X2 ws:=by simp[Yb,BM.mayB_true h]
theorem akR{W:Int}(h:BM.mayB W ws=false):Yb W ws=[]:=by simp[Yb,h]
theorem al2{α:Type}{l:List α}{k:Nat}{x:α}{r:List α}(h:l.drop k=x::r):l[k]? = some x∧l.drop (k+1)=r:=by
 constructor
 ·have :(l.drop k)[0]? = some x:=by rw[h];rfl
  rwa[List.getElem?_drop,Nat.add_zero]at this
 ·rw[← List.drop_drop,h];rfl
theorem StX.frzNew{w0:World}{L M:List Asr}{T:TypeId}(S:StX noX w0 r w L)(b:Nat)[h:ZT b L c T M]:StX noX w0 (r.or (Go.Sh.one b c T)) w M∧Above w0 (Go.Sh.one b c T):=
 ⟨S.frzAt b,λk o ho=>by
  obtain⟨rfl,_⟩:=ho
  exact((S.permO h.h.symm).mine _ List.mem_cons_self k rfl).1.resolve_right id⟩
theorem y9{q:Gh}{b i:Nat}{T:TypeId}{v:Value}[Le (Go.Sh.one b c T) q](h:c[i]? = some v):Ob q λw=>w.cell? ⟨b,i,none⟩=some v:=λw hw=>by
 have B:Blk w b c T:=xj w (hw.le (h:=inferInstance))
 show w.cell? ⟨b,i,none⟩=some v
 rw[B.cell];exact h
theorem akS{q:Gh}{b1 b3 cap:Nat}{p:Option Addr}{D0:Nat→Prop}{w2:World}(B3:Ob q λw=>w.cell? ⟨b3,0,none⟩=some (.int .i64 0))(B1:Ob q λw=>w.cell? ⟨b1,1,none⟩=some (.slice p ws.length cap))
  (hw:SlG 1 q WdC (.slice p ws.length cap) ws) (hl:ws.length≤100000) (hT:TabG q) (hD:∀b,D0 b→∀o,¬q b o) (h2:Holds q w2):
  agG Tryz.prog (.func (.func Tryz.Vl) #[] #[.pointer (some ⟨b3,0,none⟩),.pointer (some ⟨b1,0,none⟩)]) w2 ((X2 ws).map acF) D0:=by
 refine⟨_,_,rfl,by kernel_rfl,λl W J Jx hW hlw hlt hJ hJx hround hJ0=>?_⟩
 generalize hxs:(X2 ws).map acF=xs at hround
 refine Calls.mono (Tryz.JE (t0:=.func (.yield l) #[] #[]) (t1:=.pointer (some ⟨b3,0,none⟩)) (t2:=.pointer (some ⟨b1,0,none⟩)) (K:=λ_ W'=>(∃D,J xs.length D W')∨Jx W') ?_) (λe W' hh=>by obtain⟨v,he,hk⟩:=hh;exact⟨⟨v,he⟩,hk⟩)
 unfold Tryz.YM
 have hq:=h2.ext hW
 refine zf (B3 _ hq) ?_
 refine gp_ ?_
 refine c_f rfl ?_
 refine gg_ ?_
 refine zf (B1 _ hq) ?_
 refine gg_ ?_
 refine zj (ι:=Nat) (λi=>[.int .i64 i])
  (λi w'=>i≤ws.length∧Holds q w'∧∃k D,xs.drop k=(jt i (ws.drop i)).map acF∧k≤xs.length∧J k D w'∧∀b,D b→∀o,¬q b o)
  (λi=>ws.length-i) 0 rfl ⟨gzl _,hq,0,D0,by rw[← hxs];rfl,gzl _,hJ0,hD⟩ ?_
 rintro i d w7 ⟨hi,hq7,k,D,hdrop,hkl,hJk,hDk⟩ K8 hK8
 simp only[gdz]
 refine gp_ ?_
 refine zh (λhlt=>?_) (λhge=>?_)
 ·have hlt:i<ws.length:=by omega
  obtain⟨bw,ow,hpw,_,hcw⟩:=JD hw hlt
  subst hpw
  refine gg_ ?_
  refine zf (by rw[tnc];exact hcw _ hq7) ?_
  rw[ago hlt,List.map_append,List.map_map]at hdrop
  refine zj (ι:=BitVec 64) (λx=>[u64 x])
   (λx w'=>Holds q w'∧∃k D,xs.drop k=(Xg x).map (acF ∘ (64*i + ·))++(jt (i+1) (ws.drop (i+1))).map acF∧k≤xs.length∧J k D w'∧∀b,D b→∀o,¬q b o)
   (λx=>(Xg x).length) ws[i] rfl ⟨hq7,k,D,hdrop,hkl,hJk,hDk⟩ ?_
  clear hdrop hkl hJk hDk hq7 k D
  rintro x d w8 ⟨hq8,k,D,hdrop,hkl,hJk,hDk⟩ K9 hK9
  simp only[gdz]
  refine ajm ?_
  refine zh (λhx=>?_) (λhx=>?_)
  ·have hx:x≠0#64:=by rintro rfl;exact hx rfl
   obtain⟨t,ht,hlow,hwb⟩:=amR hx
   refine gp_ ?_
   refine abr (hT.1 _ hq8) hx ht hlow ?_
   refine gp_ ?_
   refine amw ?_
   rw[hwb,List.map_cons,List.cons_append]at hdrop
   have hd:=al2 hdrop
   have hkk:k<xs.length:=(List.getElem?_eq_some_iff.1 hd.1).1
   refine YieldC.mono (hround k _ D w8 hd.1 hJk) ?_
   rintro e w9 ⟨bb,rfl,x9,hJb⟩
   refine⟨_,rfl,?_⟩
   refine gp_ ?_
   refine c_b (λhbb=>?_) (λhbb=>?_)
   ·have hbb:bb=false:=by simpa using hbb
    subst hbb
    exact .inr hJb
   ·have hbb:bb=true:=by simpa using hbb
    subst hbb
    obtain⟨D2,hD2,hJ2⟩:=hJb
    refine gp_ ?_
    refine aef ?_
    rw[agW]
    refine hK9 _ _ ⟨hq8.but x9 ?_,k+1,D2,hd.2,hkk,hJ2,?_⟩ (by rw[hwb];exact Nat.lt_succ_self _)
    ·rintro b o hb (hn|rfl)
     ·exact hDk b hn o hb
     ·have:=h2.lt hb;omega
    ·intro b hb o ho
     rcases hD2 b hb with h|⟨h,_⟩
     ·exact hDk b h o ho
     ·have:=hq8.lt ho;omega
  ·have hx:x=0#64:=BitVec.eq_of_toNat_eq (by have :(0#64).toNat=0:=rfl;omega)
   subst hx
   refine gg_ ?_
   rw[ajN,List.map_nil,List.nil_append]at hdrop
   exact hK8 (i+1) w8 ⟨hlt,hq8,k,D,hdrop,hkl,hJk,hDk⟩ (by omega)
 ·have hi':i=ws.length:=by omega
  subst hi'
  rw[List.drop_length]at hdrop
  have :k=xs.length:=by
   have h1:(xs.drop k).length=0:=by rw[hdrop];rfl
   rw[List.length_drop]at h1;omega
  subst this
  exact .inl ⟨D,hJk⟩
theorem aiF{x:xM}{K:Value→World→Prop}(hr:Holds r w)(hx:RwbC r c x)(hT:TabG r)
  (h:∀g s w',Ext w w'→New w s w'→jT s→(∀(D:Nat→Prop)(w2:World),(∀b,D b→∀o,¬(r.or s) b o)→Holds (r.or s) w2→agG Tryz.prog g w2 ((Yb x.1 x.2).map acF) D)→K g w'):zd Tryz.prog Tryz.QQ #[.agg c.toArray] w K:=by
 refine Tryz.ahW ?_
 unfold Tryz.abQ
 have hx0:=hx
 obtain⟨W,ws⟩:=x
 simp only at h
 obtain⟨p,cap,rfl,hS⟩:=hx
 have S:=St.start hr
 refine S.box λb1 w1 S=>?_
 have S:StX noX w r w1 [.cell b1 [.int .i64 W,.slice p ws.length cap] 48]:=S
 refine S.ldB (b:=b1) ?_ rfl
 refine ajQ S.holds hx0 (λhm w2 e2=>?_) (λhm v2 w2 e2 h2=>?_)
 ·have S:=S.go e2
  refine gS_ ?_
  refine S.al λb3 w3 S=>?_
  refine S.stB (b:=b1) λw4 S=>?_
  refine S.st (b:=b3) λw5 S=>?_
  refine gp_ ?_
  have S:StX noX w r w5 [.cell b3 [.int .i64 2] 29,.cell b1 [.int .i64 0,.slice none 0 0] 48]:=S
  obtain⟨S,a3⟩:=StX.frzNew S b3
  rw[akR hm]at h
  refine h _ _ _ S.ext (S.newOf a3) inferInstance λD w6 hD h6=>⟨_,_,rfl,by kernel_rfl,λl W1 J Jx hW hl hlt hJ hJx hround hJ0=>?_⟩
  refine Calls.mono (Tryz.JE (t0:=.func (.yield l) #[] #[]) (t1:=.pointer (some ⟨b3,0,none⟩)) (t2:=.pointer (some ⟨b1,0,none⟩)) (K:=λ_ W'=>(∃D,J 0 D W')∨Jx W') ?_) (λe W' hh=>by obtain⟨v,he,hk⟩:=hh;exact⟨⟨v,he⟩,hk⟩)
  unfold Tryz.YM
  refine zf (y9 (q:=r.or (Go.Sh.one b3 [.int .i64 2] 29)) (c:=[.int .i64 2]) (T:=29) (v:=.int .i64 2) rfl _ (h6.ext hW)) ?_
  refine gp_ ?_
  exact c_t rfl (.inl ⟨D,hJ0⟩)
 ·have S:=S.take e2 h2
  simp only at S
  have hM:BM.May W ws:=akP hm
  have hl:ws.length≤100000:=by have:=hM.2.1;have:=hM.2.2.1;omega
  obtain⟨p2,cap2,rfl,_⟩:=S.rowS v2
  refine gS_ ?_
  refine S.al λb3 w3 S=>?_
  refine S.stB (b:=b1) λw4 S=>?_
  refine S.st (b:=b3) λw5 S=>?_
  refine gp_ ?_
  have S:StX noX w r w5 [.cell b3 [.int .i64 0] 29,.row (.slice p2 ws.length cap2) 205 1 ws.length (wcs ws),.cell b1 [.int .i64 W,.slice p2 ws.length cap2] 48]:=S
  obtain⟨S,a3⟩:=StX.frzNew S b3
  obtain⟨s2,S,hw,hnb,a2⟩:=S.doneRow (l:=ws) vZ (by decide) rfl
  obtain⟨S,a1⟩:=StX.frzNew S b1
  have a2:Above w s2:=λb o ho=>(a2 b o ho).resolve_right id
  have nb2:jT s2:=⟨λb o ho=>by obtain⟨c,rfl⟩:=hnb b o ho;rfl⟩
  have S:StX noX w (r.or (((Go.Sh.one b3 [.int .i64 0] 29).or s2).or (Go.Sh.one b1 [.int .i64 W,.slice p2 ws.length cap2] 48))) w5 []:=S.less (by
   rintro b o (h|(h|h)|h)
   ·exact .inl (.inl (.inl h))
   ·exact .inl (.inl (.inr h))
   ·exact .inl (.inr h)
   ·exact .inr h) (List.Sublist.refl _)
  rw[afK hM]at h
  refine h _ _ _ S.ext (S.newOf ((a3.or' a2).or' a1)) inferInstance λD w6 hD h6=>?_
  exact akS (y9 (c:=[.int .i64 0]) (T:=29) rfl) (y9 (c:=[.int .i64 W,.slice p2 ws.length cap2]) (T:=48) rfl) hw.cells hl hT.up hD h6
theorem acG{P:Program}{s:Sem Value}(h:opQ P w s λv=>K v w):opW P w s λv w'=>NC w w'∧K v w':=w_q (by
 obtain⟨v,h1,h2⟩:=h
 exact⟨v,h1,NC.of_ext (Ext.refl w),h2⟩)
end
end Go.Proofs
namespace Go.Proofs
open Go.Sh Go.RowKit
section
section
variable {σ:Type} {X:Nat→Prop} {w0:World} {r:Gh} {fv:Value} {Lc:σ→List Asr} {J:σ→List CnD→Prop} {ss:List StD} {tys:List TyD} {rgs:List Int} {b5 b6 b9 b10:Nat}
def Two(t u:TyD):Prop:=isB t=true∧isB u=true∧bare t=bare u
end
noncomputable abbrev tyD(u:UnD)(g:GrD)(p:PlD):TyD:=qB u.ss (allD u g).tys p
theorem amW{ss:List StD}{tys:List TyD}{o:OpD}(h:(zs ss tys o).2=true)(hp:X0 o=true):(zm ss tys o.pl).2.2=true∧(zs ss tys o).1=(zm ss tys o.pl).1:=by
 rw[X0,Bool.or_eq_true,gdt,gdt]at hp
 rw[zs]at h⊢
 rcases hp with hk|hk
 ·rw[if_neg (by omega),if_neg (by omega),if_pos hk]at h⊢
  simp only[gba]at h
  exact⟨h.1.1,rfl⟩
 ·rw[if_neg (by omega),if_neg (by omega),if_neg (by omega),if_pos hk]at h⊢
  simp only[gba]at h
  exact⟨h.1.1.1,rfl⟩
structure al3(u:UnD)(g:GrD)(p:PlD):Prop where
 l0:0≤p.l
 l1:p.l.toNat<(allD u g).tys.length
 is:isB (tyD u g p)=true
 bare:bare (tyD u g p)=bare (zm u.ss g.tys p).1
 all:yx u.ss (allD u g).tys p=(tyD u g p,0)
section
variable {u:UnD} {g:GrD} {fn:Nat} {p:PtD}
theorem ajR(hM:MayU u)(hH:HeadU u fn g){p:PlD}(ho:(zm u.ss g.tys p).2.2=true):al3 u g p:=by
 obtain⟨h2,_,h3,h4⟩:=anO (n:=0) hM hH ho
 have hl:=al0 ho
 exact⟨hl.1,by rw[(ZZ).1];omega,h3,h4,h2⟩
theorem amX(hM:MayU u)(hH:HeadU u fn g){p:PlD}(ho:(zm u.ss g.tys p).2.2=true):isB (zm u.ss g.tys p).1=true:=
 (kZ (hH.fine hM.ok) ho).is (hH.fine hM.ok).few
theorem akT{a:Int}(hM:MayU u)(hH:HeadU u fn g)(hp:zG u g p=true)(hop:p.op=4)(ha: -1≤a):al3 u g p.to∧al3 u g p.fr∧(zm u.ss g.tys p.fr).2.2=true∧Two (.mk 4 p.mu a 0 [tyD u g p.fr]) (tyD u g p.to):=by
 have h2:=Z0 hp
 rw[ptG]at h2
 simp only[hop,Int.reduceEq,if_false,if_true,gba,gdt,isK]at h2
 obtain⟨⟨⟨⟨⟨_,hto,_⟩,hfr⟩,hk⟩,hm⟩,hal,_⟩:=h2
 have h:=ajR hM hH hto
 have hf:=ajR hM hH hfr
 refine⟨h,hf,hfr,?_⟩
 have hs:=amX hM hH hto
 obtain⟨k1,k2,k3⟩:=afH h.bare
 rcases akH (n:=47) h.is hs h.bare with⟨h1,h3,h4⟩|⟨x,y,h1,h3,h4,h5,h6⟩
 ·omega
 ·rw[h3]at hal
  have hal:=(ais hal).2.2
  have hb:bare (tyD u g p.to)=bare (.mk 4 p.mu a 0 [tyD u g p.fr]):=by
   refine aeK (u:=x) (x:=tyD u g p.fr) (by rw[k1];exact hk) (by rw[k2];exact hm) ?_ (λh=>absurd (by rw[k1];exact hk) h) h1 rfl (by rw[h6,hf.bare];exact hal)
   show(tyD u g p.to).st=0
   have:=h.is
   rw[isB,yv,if_neg (by omega),if_neg (by omega),if_neg (by omega),if_pos (by omega)]at this
   simp only[gba,gdt]at this
   omega
  refine⟨akC 48 h.is hb (λh=>absurd rfl h) (λz hz=>?_) (λ_=>ha),h.is,hb.symm⟩
  cases hz;exact⟨48,hf.is⟩
end
section
variable {σ:Type} {X:Nat→Prop} {w0:World} {r ρ:Gh} {fv:Value} {Lc:σ→List Asr} {J:σ→List CnD→Prop} {u:UnD} {g:GrD} {q a:Int} {b5 b6 b8 b9 b10:Nat}
theorem akU{P:Program}{t e:TypeId}{n:Nat}{p:Option Addr}{len cap:Nat}{kd:IntKind}{i:Int}{K:Value→Prop}(h:slT P t=some (e,n))(h0:0≤i)(h1:i≤cap)
  (k:K (.slice p i.toNat i.toNat)):opP P (Instr.sliceAt t (.slice p len cap) none (some (.int kd i)) (some (.int kd i))) K:=by
 refine ye (λw=>?_) k
 unfold slT at h
 cases hu:P.underlying t with
 |none=>rw [hu]at h;cases h
 |some d=>
  rw[hu]at h
  cases d<;>first|cases h|skip
  rename_i e'
  simp only[Option.map_eq_some_iff,Prod.mk.injEq]at h
  obtain⟨m,hs,rfl,rfl⟩:=h
  cases p with
  |none=>simp [Instr.sliceAt,Instr.slice,Instr.sliceBounds,Instr.sliceBound,asIntOf,Sem.run_bind,zz hu,Result.andThen,Sem.run,pure,h0,h1,Int.max_eq_left h0,z8 hs]
  |some a=>simp [Instr.sliceAt,Instr.slice,Instr.sliceBounds,Instr.sliceBound,asIntOf,Sem.run_bind,zz hu,Result.andThen,Sem.run,pure,h0,h1,Int.max_eq_left h0,z8 hs,Addr.add]
theorem al4{ρ:Gh}{q1:Option Addr}{c1 n:Nat}{ps:List Int}(h:SlB 1 ρ xp (.slice q1 ps.length c1) ps)(hn:n≤ps.length):SlB 1 ρ xp (.slice q1 n n) (ps.take n):=by
 obtain⟨⟨p',cap',hE,h2,h3,h4⟩,h5⟩:=h
 cases hE
 have hl:(ps.take n).length=n:=by rw[List.length_take];omega
 refine⟨⟨q1,n,by rw[hl],λe=>?_,by omega,λi hi=>?_⟩,by omega⟩
 ·have:=h2 e;omega
 ·obtain⟨c,k1,k2,k3⟩:=h4 i (by omega)
  exact⟨c,k1,k2,by rw[List.getElem_take];exact k3⟩
end
end
end Go.Proofs
namespace Go.Proofs
open Go.Sh
section
variable {K:Value→World→Prop}
theorem acH:∀(n:Nat){t:TyD}{c:Int}{w:World}{r:Gh}{v:Value}{K:Value→World→Prop},t.ht≤n→isB t=true→0≤c→c+n≤1000000→Holds r w→TyG r v t→
  (∀v' sn w',Ext w w'→New w sn w'→TyG sn v' (t.lay (yN t.regs c))→K (.tuple #[v',.int .i64 (c+yo t.regs)]) w')→zd Tryz.prog Tryz.qg #[v,.int .i64 c] w K:=by
 intro n
 induction n with
 |zero=>intro t c w r v K h;cases t;simp[TyD.ht]at h
 |succ n ih=>
  intro t c w r v K hn hB hc0 hcn hr hv h
  obtain⟨p,cap,rfl,hp,hc,hof⟩:=hv
  refine Tryz.abq ?_
  unfold Tryz.XY
  have hlow:t.k=4→-1≤t.re:=λhk=>aeC (n:=47) hB hk
  have S:=St.start hr
  refine S.box λb1 w1 S=>?_
  have S:StX noX w r w1 [.cell b1 (tyL t p cap) 43]:=S
  refine S.al λb2 w2 S=>?_
  refine gg_ ?_
  refine S.al λb3 w3 S=>?_
  refine S.stB (b:=b3) λw4 S=>?_
  refine gg_ ?_
  refine S.st (b:=b3) λw5 S=>?_
  refine zk (λs w'=>s=[.int .i64 (if t.k=4∧t.re = -1 then c+1 else c)]∧StX noX w r w' [.cell b3 [.int .u8 t.k,.bool t.m,.int .i64 (if t.k=4∧t.re = -1 then c else t.re),.int .i64 t.st,.slice none 0 0] 43,.cell b2 je 43,.cell b1 [.int .u8 t.k,.bool t.m,.int .i64 t.re,.int .i64 t.st,.slice p t.of.length cap] 43]) (λK3 hK3=>?_) ?_
  ·refine gg_ ?_
   refine zg (c:=decide (t.re = -1)) (λ_ K2 hK2=>by refine gg_ ?_;exact hK2) ?_
   refine c_b (λhk=>?_) (λhk=>?_)
   ·have hk:t.k=4∧t.re = -1:=by simpa using hk
    refine gg_ ?_
    refine S.st (b:=b3) λw3 S=>?_
    refine gg_ ?_
    refine hK3 _ _ ⟨?_,?_⟩
    ·rw[if_pos hk]
    ·rw[if_pos hk];exact S
   ·have hk:¬(t.k=4∧t.re = -1):=by simpa using hk
    refine hK3 _ _ ⟨?_,?_⟩
    ·rw[if_neg hk]
    ·rw[if_neg hk];exact S
  clear S
  rintro _ w6 ⟨rfl,S⟩ d6
  simp only[gdz]
  rcases akp hB with ho|⟨u,ho,hu⟩
  ·have hl:t.of.length=0:=by rw[ho];rfl
   have hk4:¬t.k=4:=alr hB ho
   rw[Jp ho,XM ho,if_neg hk4,if_neg hk4]at h
   rw[if_neg (λhh=>hk4 hh.1)]at S
   rw[if_neg (λhh=>hk4 hh.1)]
   refine zk (λs w'=>s=[.int .i64 c]∧w'=w6) (λK3 hK3=>?_) ?_
   ·refine gg_ ?_
    refine c_f (by simp[hl]) ?_
    exact hK3 _ _ ⟨rfl,rfl⟩
   rintro _ _ ⟨rfl,rfl⟩ d7
   refine S.ldB (b:=b3) ?_ rfl
   refine S.stB (b:=b2) λw7 S=>?_
   refine S.ceB (b:=b2) ?_ rfl
   have:=h _ nothing _ S.ext New.nothing yH
   rw[yo,Int.add_zero]at this
   exact this
  ·obtain⟨ba,oa,rfl,cc,hc1,hcell,ht⟩:=NdG.of hof (i:=0) (by rw[ho];exact Nat.one_pos)
   have ht:TyG r (.agg cc.toArray) u:=by simpa [ho]using ht
   have hl:t.of.length=1:=by rw[ho];rfl
   have hlay:t.lay (yN t.regs c)=.mk t.k t.m (if t.k=4∧t.re = -1 then c else t.re) t.st [u.lay (yN u.regs (if t.k=4∧t.re = -1 then c+1 else c))]∧c+yo t.regs=(if t.k=4∧t.re = -1 then c+1 else c)+yo u.regs:=by
    rw[vS ho,ZU ho]
    by_cases h4:t.k=4
    ·have:=hlow h4
     by_cases h1:t.re = -1
     ·simp[h4,h1,yN,yo];omega
     ·have hre:¬t.re<0:=by omega
      simp[h4,h1,yN,yo,hre]
    ·simp[h4]
   rw[hlay.1,hlay.2]at h
   generalize (if t.k=4∧t.re = -1 then c else t.re)=re' at S h
   generalize hc2:(if t.k=4∧t.re = -1 then c+1 else c)=c2 at h⊢
   have hc2b:0≤c2∧c2+n≤1000000:=by split at hc2<;>omega
   rw[hl]at S
   refine zk (λs w'=>s=[.int .i64 (c2+yo u.regs)]∧∃b9 sn c',StX noX w (r.or (sn.or (Go.Sh.one b9 c' 43))) w' [.cell b3 [.int .u8 t.k,.bool t.m,.int .i64 re',.int .i64 t.st,.slice (some ⟨b9,0,none⟩) 1 1] 43,.cell b2 je 43,.cell b1 [.int .u8 t.k,.bool t.m,.int .i64 t.re,.int .i64 t.st,.slice (some ⟨ba,oa,none⟩) 1 cap] 43]∧
    TyG sn (.agg c'.toArray) (u.lay (yN u.regs c2))∧Above w (sn.or (Go.Sh.one b9 c' 43))) (λK3 hK3=>?_) ?_
   ·refine gg_ ?_
    refine c_t (by decide) ?_
    refine S.al λb7 w7 S=>?_
    refine gg_ ?_
    refine zo (n:=5) hc1 (λj v hj=>by simpa using S.at (hcell j v hj)) ?_
    refine ih (by have:=TyD.ht_of (t:=t) (u:=u) (by rw[ho];exact List.mem_singleton.2 rfl);omega) hu hc2b.1 hc2b.2 S.holds ht λv' sn w13 e13 n13 hv'=>?_
    obtain⟨S,dx,ax⟩:=S.tell e13 n13
    obtain⟨q',cap',rfl,_⟩:=id hv'
    refine gS_ ?_
    refine S.stB (b:=b7) λw14 S=>?_
    refine S.ldB (b:=b7) ?_ rfl
    refine S.lit (aks (c:=tyL (u.lay (yN u.regs c2)) q' cap') hv') λb9 w15 S=>?_
    have hm:=S.mine (.cell b9 (tyL (u.lay (yN u.regs c2)) q' cap') 43) (by simp) b9 rfl
    refine gp_ ?_
    refine S.st (b:=b3) λw16 S=>?_
    refine hK3 _ _ ⟨rfl,b9,sn,_,((S.frzAt b9).drop b7).reGh,hv',?_⟩
    rintro b o (hb|⟨rfl,_⟩)
    ·exact ax b o hb
    ·exact hm.1.resolve_right id
   clear S
   rintro _ w7 ⟨rfl,b9,sn,c',S,hv',hab⟩ d7
   refine S.ldB (b:=b3) ?_ rfl
   refine S.stB (b:=b2) λw8 S=>?_
   refine S.ceB (b:=b2) ?_ rfl
   exact h _ (sn.or (Go.Sh.one b9 c' 43)) _ S.ext (S.newOf hab) (adh hv')
theorem aiG{u:UnD}{fn:Int}{v:Value}{w:World}{r:Gh}{K:Value→World→Prop}(hM:MayU u)(hf0:0≤fn)(hlt:fn.toNat<u.fs.length)(hr:Holds r w)(hu:UnG r v u)
  (h:∀v' s w',Ext w w'→New w s w'→RgG s v' (allD u u.fs[fn.toNat])→K v' w'):zd Tryz.prog Tryz.QP #[v,.int .i64 fn] w K:=by
 refine Tryz.ahG ?_
 unfold Tryz.abP
 obtain⟨p0,cap0,vf,rfl,_,_,hst,hsl,hfn⟩:=hu
 obtain⟨qf,capf,rfl,_,_⟩:=hfn.sl.shape
 have hfl:u.fs.length≤9223372036854775807:=hfn.few
 obtain⟨bf,of,cf,rfl,hcf,hgc,hfo⟩:=hfn.sl.get (by decide) hlt
 have hH:=hM.hd hlt
 have hgm:=gem hlt
 have hfin:=hH.fine hM.ok
 have hptN:=λp hp=>hM.ptN hgm (p:=p) hp
 have hpg:=hM.pts _ hgm
 generalize u.fs[fn.toNat]=g at h hgc hH hgm hfin hptN hpg
 obtain⟨vo,vt,vn,vp,rfl,h1,h2,h3,h4⟩:=id hgc
 obtain⟨qo,capo,rfl,_,_⟩:=h1.sl.shape
 obtain⟨qt,capt,rfl,_,hct⟩:=h2.sl.shape
 obtain⟨qn,capn,rfl,_,_⟩:=h3.sl.shape
 obtain⟨qp,capp,rfl,_,_⟩:=h4.sl.shape
 have hlv0:=hH.lv0;have hlv8:=hH.lv8;have hty:=hH.ty512;have hp1024:=hH.pt1024
 have hloc0:=vz g.tys
 have hloc1:=abc g.tys
 have hat0:=XS (u:=u) (l:=g.pts) (λp hp=>(hptN p hp).1) g.pts.length
 rw[List.take_length]at hat0
 have hat1:=ahy (u:=u) (l:=g.pts) λp hp=>(hptN p hp).2
 have S:=St.start hr
 refine S.box λb2 w1 S=>?_
 have S:StX noX w r w1 [.cell b2 [.slice p0 u.ss.length cap0,.slice (some ⟨bf,of,none⟩) u.fs.length capf,.int .i64 u.mn] 25]:=S
 refine S.al λb4 w2 S=>?_
 refine gg_ ?_
 refine zo (n:=7) hcf (λj v hj=>S.at (hfo j v hj)) ?_
 refine S.al λb5 w3 S=>?_
 refine S.stB (b:=b5) λw4 S=>?_
 refine gg_ ?_
 refine S.al λb6 w5 S=>?_
 refine S.stB (b:=b6) λw6 S=>?_
 refine gg_ ?_
 have S:=(S.ownNil 3 1).ownNil 43 5
 have S:StX noX w (r.or nothing) w6 [.row (.slice none 0 0) 43 5 0 [],.row (.slice none 0 0) 3 1 0 [],.cell b6 (rgL g.lv g.pts.length 0 (.slice none 0 0) (.slice none 0 0)) 74,.cell b5 [.string g.name,.int .i64 g.lv,.slice qo g.outs.length capo,.int .i64 g.pn,.slice qt g.tys.length capt,.slice qn g.nms.length capn,.slice qp g.pts.length capp] 101,
  .cell b4 rgZ 74,.cell b2 [.slice p0 u.ss.length cap0,.slice (some ⟨bf,of,none⟩) u.fs.length capf,.int .i64 u.mn] 25]:=S.to _
 refine zj (ι:=Nat×Value×Gh×List Value) (λi=>[.int .i64 (g.lv+zU (g.tys.take i.1)),.int .i64 (i.1:Nat)]) (λi w'=>i.1≤g.tys.length∧RowOf 5 (TyC i.2.2.1) i.2.2.2 ((kc g.tys g.lv).take i.1)∧Above w i.2.2.1∧
  StX noX w (r.or i.2.2.1) w' [.row i.2.1 43 5 i.1 i.2.2.2,.row (.slice none 0 0) 3 1 0 [],.cell b6 (rgL g.lv g.pts.length 0 i.2.1 (.slice none 0 0)) 74,.cell b5 [.string g.name,.int .i64 g.lv,.slice qo g.outs.length capo,.int .i64 g.pn,.slice qt g.tys.length capt,.slice qn g.nms.length capn,.slice qp g.pts.length capp] 101,
   .cell b4 rgZ 74,.cell b2 [.slice p0 u.ss.length cap0,.slice (some ⟨bf,of,none⟩) u.fs.length capf,.int .i64 u.mn] 25]) (λi=>g.tys.length-i.1) (0,.slice none 0 0,nothing,[]) (by simp[zU]) ⟨gzl _,by simpa using RowOf.nil,Above.no,S⟩ ?_
 clear S
 rintro⟨i,vl,s',xs⟩ d w7 ⟨hi,hrow,hab,S⟩ K7 hK7
 simp only at hi hrow hab S⊢
 simp only[gdz,gds]
 refine gg_ ?_
 refine zh (λhlt2=>?_) (λhge=>?_)
 ·have hlt2:i<g.tys.length:=by omega
  obtain⟨bt,ot,ct,rfl,hct2,htc,hcell⟩:=h2.sl.get (by decide) hlt2
  obtain⟨q2,cap2,rfl,ht2⟩:=yj htc
  have hfi:Fine u.ss g.tys[i]:=hfin.all _ (gem hlt2)
  have hB:=hfi.is hfin.few
  have hrT:regsT g.tys[i]=g.tys[i].regs:=by rw[regsT,hB];rfl
  have hl0:=vz (g.tys.take i)
  have hl1:=abc (g.tys.take i)
  rw[List.length_take]at hl1
  have hkt:=afx hlt2
  rw[hrT]at hkt
  have hht:g.tys[i].ht≤48:=ahh hB
  refine S.al λb9 w8 S=>?_
  refine gg_ ?_
  refine zo (n:=5) hct2 (λj v hj=>by rw[tnc];exact S.at (hcell j v hj)) ?_
  refine acH 48 hht hB (by omega) (by omega) S.holds ht2.up λv' sn w9 e9 n9 hv'=>?_
  obtain⟨S,d9,a9⟩:=S.tell e9 n9
  obtain⟨q6,cap6,rfl,_⟩:=id hv'
  refine gS_ ?_
  refine S.stB (b:=b9) λw10 S=>?_
  refine gg_ ?_
  refine S.lit (aks (c:=tyL (g.tys[i].lay (yN g.tys[i].regs (g.lv+zU (g.tys.take i)))) q6 cap6) hv') λb15 w14 S=>?_
  refine S.ap (m':=1) (Sl.blk (S.blk b15)) (λv15 w15 S=>?_) (by omega)
  have S:=((S.drop b15).drop b9).reGh
  refine gg_ ?_
  have hvo:=S.row1 v15
  refine S.st (b:=b6) (λw16 S=>?_) (by simp) hvo
  refine gg_ ?_
  rw[show ((i:Int)+1)=((i+1:Nat):Int)by omega,show g.lv+zU (g.tys.take i)+yo g.tys[i].regs=g.lv+zU (g.tys.take (i+1))by rw[hkt];omega]
  refine hK7 (i+1,v15,s'.or sn,xs++tyL (g.tys[i].lay (yN g.tys[i].regs (g.lv+zU (g.tys.take i)))) q6 cap6) _ ⟨hlt2,?_,hab.or' a9,S⟩ (by show g.tys.length-(i+1)<g.tys.length-i;omega)
  show RowOf 5 (TyC (s'.or sn)) (xs++tyL _ q6 cap6) ((kc g.tys g.lv).take (i+1))
  rw[List.take_succ_eq_append_getElem (by rw[kC];exact hlt2),aeE hlt2,hrT]
  exact(hrow.mono λc x hx=>TyG.up hx).snoc rfl (TyG.up hv')
 have hie:i=g.tys.length:=by omega
 subst hie
 rw[List.take_length]at *
 have hlk:(kc g.tys g.lv).take g.tys.length=kc g.tys g.lv:=List.take_of_length_le (by rw[kC];exact Nat.le_refl _)
 rw[hlk]at hrow
 clear hK7 K7 hge hi
 generalize hbase:g.lv+zU g.tys=base
 have hb0:0≤base∧base≤8+48*512:=by omega
 have key:∀q,atC u (g.pts.take q)≤8*1024∧0≤atC u (g.pts.take q):=λq=>by
  have e1:=ahy (u:=u) (l:=g.pts.take q) λp hp=>(hptN p (List.mem_of_mem_take hp)).2
  have e2:=(XS (u:=u) (l:=g.pts) (λp hp=>(hptN p hp).1) q).1
  rw[List.length_take]at e1
  omega
 refine zj (ι:=Nat×Value) (λi=>[.int .i64 (base+atC u (g.pts.take i.1)),.int .i64 (i.1:Nat)]) (λi w'=>i.1≤g.pts.length∧StX noX w (r.or s') w' [.row i.2 3 1 i.1 (ints ((atK u g.pts base).take i.1)),.row vl 43 5 g.tys.length xs,.cell b6 (rgL g.lv g.pts.length 0 vl i.2) 74,.cell b5 [.string g.name,.int .i64 g.lv,.slice qo g.outs.length capo,.int .i64 g.pn,.slice qt g.tys.length capt,.slice qn g.nms.length capn,.slice qp g.pts.length capp] 101,
   .cell b4 rgZ 74,.cell b2 [.slice p0 u.ss.length cap0,.slice (some ⟨bf,of,none⟩) u.fs.length capf,.int .i64 u.mn] 25]) (λi=>g.pts.length-i.1) (0,.slice none 0 0) (by simp[atC]) ⟨gzl _,by
    have:=S.swap
    simpa [ints]using this⟩ ?_
 clear S
 rintro⟨q,va⟩ d w20 ⟨hq,S⟩ K17 hK17
 simp only at hq S⊢
 simp only[gdz,gds]
 have hkq:=key q
 refine gg_ ?_
 refine zh (λhlt2=>?_) (λhge=>?_)
 ·have hlt2:q<g.pts.length:=by omega
  obtain⟨bp,op,cp,rfl,hcp,hpc,hpo⟩:=h4.sl.get (by decide) hlt2
  obtain⟨x1,x2,x3,x4,x5,y1,y2,y3,y4,y5,rfl,_⟩:=xm hpc
  have hNi:=hptN g.pts[q] (gem hlt2)
  have hpt:=hpg g.pts[q] (gem hlt2)
  have htk:=acn (u:=u) hlt2
  have hati:=akv (u:=u) (c:=base) hlt2
  have hlen:q<(atK u g.pts base).length:=by rw[ZX];exact hlt2
  have lop:Ob r λw=>w.cell? ⟨bp,op+q*21,none⟩=some (.int .u8 g.pts[q].op):=by simpa using hpo 0 _ rfl
  have lfn:Ob r λw=>w.cell? ⟨bp,op+q*21+16,none⟩=some (.int .i64 g.pts[q].fn):=hpo 16 _ rfl
  have hins:ints ((atK u g.pts base).take (q+1))=ints ((atK u g.pts base).take q)++[.int .i64 (if ptN u g.pts[q]=0 then -1 else base+atC u (g.pts.take q))]:=by
   rw[List.take_succ_eq_append_getElem hlen,hati,ints,ints,List.map_append];rfl
  generalize g.pts[q]=p at hNi hpt htk lop lfn hins
  refine zk (λs w'=>s=[.int .i64 (if p.op=4 then 1 else 0)]∧w'=w20) (λK9 hK9=>?_) ?_
  ·refine gg_ ?_
   refine zf (by simpa using S.at lop) ?_
   refine gg_ ?_
   refine zh (λho=>hK9 _ _ ⟨by rw[if_pos ho],rfl⟩) (λho=>hK9 _ _ ⟨by rw[if_neg ho],rfl⟩)
  rintro _ w20 ⟨rfl,rfl⟩ d18
  refine zk (λs w'=>s=[.int .i64 (ptN u p)]∧Ext w20 w') (λK9 hK9=>?_) ?_
  ·refine gg_ ?_
   refine zf (by simpa using S.at lop) ?_
   refine gg_ ?_
   refine zh (λho=>?_) (λho=>?_)
   ·have hcc:=Xd hpt ho
    have hlt3:p.fn.toNat<u.fs.length:=by omega
    obtain⟨bf2,of2,cf2,hbe,hcf2,hgc2,hfo2⟩:=hfn.sl.get (by decide) hlt3
    cases hbe
    obtain⟨vo',vt',vn',vp',rfl,_⟩:=hgc2
    have S:=S.go (Ext.drew _)
    refine gg_ ?_
    refine zf (by simpa using S.at lfn) ?_
    refine gg_ ?_
    refine zf (v:=.int .i64 u.fs[p.fn.toNat].lv) (by simpa using S.at (hfo2 1 _ rfl)) ?_
    refine hK9 _ _ ⟨by rw[ptN,if_neg (by omega),if_pos ho,ajx,gqg hlt3],Ext.drew _⟩
   ·refine hK9 _ _ ⟨by rw[ptN,if_neg ho],Ext.refl _⟩
  rintro _ w21 ⟨rfl,e21⟩ d19
  have S:=S.go e21
  simp only[gdz]
  refine zk (λ_ w'=>∃va',StX noX w (r.or s') w' [.row va' 3 1 (q+1) (ints ((atK u g.pts base).take (q+1))),.row vl 43 5 g.tys.length xs,.cell b6 (rgL g.lv g.pts.length 0 vl va') 74,.cell b5 [.string g.name,.int .i64 g.lv,.slice qo g.outs.length capo,.int .i64 g.pn,.slice qt g.tys.length capt,.slice qn g.nms.length capn,.slice (some ⟨bp,op,none⟩) g.pts.length capp] 101,
   .cell b4 rgZ 74,.cell b2 [.slice p0 u.ss.length cap0,.slice (some ⟨bf,of,none⟩) u.fs.length capf,.int .i64 u.mn] 25]) (λK29 hK29=>?_) ?_
  ·refine gg_ ?_
   refine zh (λhz=>?_) (λhz=>?_)
   ·rw[if_pos hz]at hins
    refine gg_ ?_
    refine S.lit (e:=3) (cs:=[.int .i64 (-1)]) (by kernel_rfl) λb15 w14 S=>?_
    refine S.ap (m':=1) (Sl.blk (S.blk b15)) (λv15 w15 S=>?_) (by omega)
    have S:=S.drop b15
    have hvo:=S.row1 v15
    refine gg_ ?_
    refine S.st (b:=b6) (λw16 S=>?_) (by simp) hvo
    rw[← hins]at S
    exact hK29 [] _ ⟨v15,S⟩
   ·rw[if_neg hz]at hins
    refine gg_ ?_
    refine S.lit (e:=3) (cs:=[.int .i64 (base+atC u (g.pts.take q))]) (by kernel_rfl) λb15 w14 S=>?_
    refine S.ap (m':=1) (Sl.blk (S.blk b15)) (λv15 w15 S=>?_) (by omega)
    have S:=S.drop b15
    have hvo:=S.row1 v15
    refine gg_ ?_
    refine S.st (b:=b6) (λw16 S=>?_) (by simp) hvo
    rw[← hins]at S
    exact hK29 [] _ ⟨v15,S⟩
  clear S
  rintro _ w22 ⟨va',S⟩ d22
  refine gg_ ?_
  rw[show ((q:Int)+1)=((q+1:Nat):Int)by omega,show base+atC u (g.pts.take q)+ptN u p=base+atC u (g.pts.take (q+1))by rw[htk];omega]
  exact hK17 (q+1,va') _ ⟨hlt2,S⟩ (by show g.pts.length-(q+1)<g.pts.length-q;omega)
 have hqe:q=g.pts.length:=by omega
 subst hqe
 have hak:(atK u g.pts base).take g.pts.length=atK u g.pts base:=List.take_of_length_le (by rw[ZX];exact Nat.le_refl _)
 rw[hak]at S
 rw[List.take_length]
 obtain⟨pl,cl,rfl,_⟩:=S.rowS vl
 obtain⟨pa,ca,rfl,_⟩:=S.rowS va
 refine gg_ ?_
 refine S.st (b:=b6) λw23 S=>?_
 refine S.ldB (b:=b6) ?_ rfl
 refine S.stB (b:=b4) λw24 S=>?_
 refine S.ceB (b:=b4) ?_ rfl
 have hrA:RowOf 1 yz (ints (atK u g.pts base)) (atK u g.pts base):=⟨by rw[yh,Nat.mul_one],λj hj=>by
  show _=_
  rw[Nat.mul_one,ints,← List.map_drop,← List.map_take,List.drop_eq_getElem_cons hj];rfl⟩
 have hal:(atK u g.pts base).length=g.pts.length:=ZX _ _ _
 have hll:(kc g.tys g.lv).length=g.tys.length:=kC _ _
 obtain⟨s2,S,hsA,_,habA⟩:=S.doneRow hrA (by decide) hal.symm
 obtain⟨s3,S,hsL,_,habL⟩:=S.doneRow hrow (by decide) hll.symm
 have habA:Above w s2:=λb o ho=>(habA b o ho).resolve_right id
 have habL:Above w s3:=λb o ho=>(habL b o ho).resolve_right id
 have hgA:SlG 1 ((s'.or s2).or s3) yz (.slice pa g.pts.length ca) (allD u g).at':=by
  have:=hsA.cells (s:=(s'.or s2).or s3)
  rw[← hbase]at this
  exact this
 have hgL:SlG 5 ((s'.or s2).or s3) (TyC ((s'.or s2).or s3)) (.slice pl g.tys.length cl) (allD u g).tys:=hsL.up' inferInstance λc x hx=>TyG.up hx
 have hN:New w ((s'.or s2).or s3) w24:=StX.newOf (q:=(s'.or s2).or s3) S ((hab.or' habA).or' habL)
 have hv:(.agg ((rgL g.lv g.pts.length 0 (.slice pl g.tys.length cl) (.slice pa g.pts.length ca)).set 2 (.int .i64 (base+atC u g.pts))).toArray:Value)=.agg #[.int .i64 (allD u g).lv,.int .i64 (allD u g).pt,.int .i64 (allD u g).ct,.slice pl g.tys.length cl,.slice pa g.pts.length ca]:=by
  rw[← hbase];rfl
 have:=h _ _ _ S.ext hN ⟨_,_,rfl,hgL,hgA⟩
 rw[← hv]at this
 exact this
theorem Xh{u:UnD}{fn q:Int}{v:Value}{w:World}{r:Gh}{K:Value→World→Prop}(hr:Holds r w)(hu:UnG r v u)
  (h:∀v' s w',Ext w w'→New w s w'→RgG s v' (zL (zH u fn q)).1→K (.tuple #[v',.int .i64 (zL (zH u fn q)).2]) w'):zd Tryz.prog Tryz.Y5 #[v,.int .i64 fn,.int .i64 q] w K:=by
 refine Tryz.aiv ?_
 unfold Tryz.adL
 have hu0:=hu
 obtain⟨p0,cap0,vf,rfl,_,_,hst,hsl,hfn⟩:=hu
 obtain⟨qf,capf,rfl,_,_⟩:=hfn.sl.shape
 have S:=St.start hr
 refine S.box λb3 w1 S=>?_
 have S:StX noX w r w1 [.cell b3 [.slice p0 u.ss.length cap0,.slice qf u.fs.length capf,.int .i64 u.mn] 25]:=S
 refine S.al λb6 w2 S=>?_
 refine S.ldB (b:=b3) ?_ rfl
 refine ajK S.holds hu0 λw3 e3=>?_
 have S:=S.go e3
 refine gp_ ?_
 refine c_b (λhc=>?_) (λhc=>?_)
 ·have hc:isU u fn q=false:=by simpa using hc
  have hz:zL (zH u fn q)=(jZ,2):=by rw[adE hc];rfl
  rw[hz]at h
  refine zq (cs:=rgZ.toArray) (by kernel_rfl) ?_
  refine S.stB (b:=b6) λw4 S=>?_
  refine S.ceB (b:=b6) ?_ rfl
  exact h _ nothing _ S.ext New.nothing RgG.zero
 have hc:isU u fn q=true:=by simpa using hc
 obtain⟨hM,hf0,hlt,hql,hT⟩:=xL hc
 rw[hT]at h
 refine S.ldB (b:=b3) ?_ rfl
 refine aiG hM hf0 hlt S.holds hu0 λv' s w4 e4 n4 hd=>?_
 obtain⟨S,d4,a4⟩:=S.tell e4 n4
 have hd0:=hd
 obtain⟨q1,c1,q2,c2,rfl,g1,g2⟩:=hd.shape
 refine S.al λb8 w5 S=>?_
 refine S.stB (b:=b8) λw6 S=>?_
 generalize allD u u.fs[fn.toNat]=rd at h hd0 S
 refine gg_ ?_
 refine zh (λhbig=>?_) (λhsm=>?_)
 ·have hz:zL (rd,0)=(jZ,5):=by rw[zL,if_pos rfl,if_pos (show 512<rd.ct by omega)]
  rw[hz]at h
  refine zq (cs:=rgZ.toArray) (by kernel_rfl) ?_
  refine S.stB (b:=b6) λw7 S=>?_
  refine S.ceB (b:=b6) ?_ rfl
  exact h _ nothing _ S.ext New.nothing RgG.zero
 ·have hz:zL (rd,0)=(rd,0):=by rw[zL,if_pos rfl,if_neg (show¬512<rd.ct by omega)]
  rw[hz]at h
  refine S.ldB (b:=b8) ?_ rfl
  refine S.stB (b:=b6) λw7 S=>?_
  refine S.ceB (b:=b6) ?_ rfl
  exact h _ s _ S.ext (S.newOf a4) hd0
end
theorem akV{ss:List StD}{tys:List TyD}{p:PlD}{x:TyD×List Int}(h:zK ss tys p=some x):x.2.length=p.ps.length:=by
 unfold zK at h
 split at h
 ·exact Ym h
 ·cases h
end Go.Proofs
namespace Go.Proofs.Tryz
open Go.Sh
section
variable {t0 t1 t2 t3 t4:Value} {w:World} {K:VW}
def abR(t0 t1 t2:Value)(w:World)(K:VW):Prop:=
 pw w (Instr.box 25 t0) λt3 w1=>
 pw w1 (Instr.box 74 t2) λt5 w2=>
 fl w2 t3 25 1 23 λt13=>xl w2 23 t13 t1 101 λt16=>pw w2 (Instr.alloc 101 true (.tuple #[])) λt8 w3=>
 so w3 101 t8 t16 λw4=>zp [(Value.slice Option.none 0 0),(i6 0)] w4 (λs6 _d7 w8 K5=>
 fl w8 t8 101 6 99 λt19=>pp (Builtin.len_ #[99] 3 #[t19]) λt20=>bf .lss 3 (s6.getD 1 u_) t20 λt21=>zc t21 (za (λK9=>
 fl w8 t8 101 6 99 λt25=>xl w8 99 t25 (s6.getD 1 u_) 96 λt28=>pw w8 (Instr.alloc 96 true (.tuple #[])) λt10 w13=>
 so w13 96 t10 t28 λw14=>fl w14 t10 96 0 90 λt30=>bt .eql 90 t30 (Value.int .u8 4) λt31=>zc t31 (fl w14.drew t10 96 7 4 λt34=>fl w14.drew t5 74 4 55 λt36=>xl w14.drew 55 t36 (s6.getD 1 u_) 3 λt39=>pp (Instr.build 82 #[(0,(s6.getD 1 u_)),(2,t34),(3,t39)]) λt40=>pw w14.drew (Instr.alloc 82 true (.tuple #[])) λt11 w15=>
 Ext w14.drew w15∧
 so w15 82 t11 t40 λw16=>pf 96 t10 6 λt41=>fl w16 t41 80 0 3 λt43=>pf 82 t11 1 λt44=>pf 80 t44 0 λt45=>so w16 3 t45 t43 λw17=>pf 82 t11 1 λt46=>fl w17 t46 80 1 78 λt48=>pf 96 t10 6 λt49=>fl w17 t49 80 1 78 λt51=>pw w17 (Builtin.append_ #[78,78] 78 #[t48,t51]) λt52 w18=>
 pf 82 t11 1 λt53=>pf 80 t53 1 λt54=>so w18 78 t54 t52 λw19=>lo w19 82 t11 λt56=>pw w19 (Instr.buildSlice 66 1 #[(0,t56)]) λt57 w20=>
 pw w20 (Builtin.append_ #[66,66] 66 #[(s6.getD 0 u_),t57]) λt58 w21=>
 K9 [t58] w21) (K9 [(s6.getD 0 u_)] w14)) (λs10 _d11 w12=>
 bt .add 3 (s6.getD 1 u_) (i6 1) λt23=>K5 [(s10.getD 0 u_),t23] w12)) (K (s6.getD 0 u_) w8))
theorem ahX(h:abR t0 t1 t2 w K):zd prog QR #[t0,t1,t2] w K:=
 okC false (.s (.r (rz 3 0 10)) (.s (.r (rz 1 0 0)) (.s (.r (rz 7 0 10500)) (.s (.s (.r (rz 1 0 0)) (.b (.lp [7,9] (.s (.s (.r (rz 5 0 16)) (.c (.n) (.n))) (.j [7] (.b (.s (.r (rz 7 0 10500)) (.s (.r (rz 3 0 4)) (.c (.s (.r (rz 11 0 2900240)) (.s (.r (rz 6 0 2064)) (.s (.r (rz 10 0 533520)) (.r (rz 5 0 164))))) (.n))))) (.r (rz 3 0 0))))))) (.s (.r (rz 2 0 0)) (.n)))))) func34 rfl (by kernel_rfl) (by kernel_rfl) h
def VG(t0 t1 t2:Value)(w:World)(K:VW):Prop:=
 pw w (Instr.box 25 t0) λt3 w1=>
 fl w1 t3 25 1 23 λt15=>xl w1 23 t15 t1 101 λt18=>pw w1 (Instr.alloc 101 true (.tuple #[])) λt7 w2=>
 so w2 101 t7 t18 λw3=>fl w3 t7 101 6 99 λt20=>xl w3 99 t20 t2 96 λt23=>pw w3 (Instr.alloc 96 true (.tuple #[])) λt8 w4=>
 so w4 96 t8 t23 λw5=>lo w5 96 t8 λt24=>ca vv #[t24] w5 λt25 w6=>
 zp [(Value.slice Option.none 0 0),(i6 0)] w6 (λs8 _d9 w10 K7=>
 pp (Builtin.len_ #[94] 3 #[t25]) λt28=>bf .lss 3 (s8.getD 1 u_) t28 λt29=>zc t29 (za (λK11=>
 px 94 t25 (s8.getD 1 u_) λt34=>fl w10 t34 93 0 91 λt36=>bt .eql 91 t36 (Value.int .u8 3) λt37=>za (λK15=>gIf t37 false (px 94 t25 (s8.getD 1 u_) λt41=>fl w10 t41 93 0 91 λt43=>bt .eql 91 t43 (Value.int .u8 4) λt44=>K15 [t44] w10) (K15 [u_] w10)) (λs16 _d17 w18=>
 zb t37 tr_ (s16.getD 0 u_) λt45=>zc t45 (px 94 t25 (s8.getD 1 u_) λt49=>fl w18.drew t49 93 2 80 λt51=>px 94 t25 (s8.getD 1 u_) λt54=>fl w18.drew t54 93 0 91 λt56=>bt .eql 91 t56 (Value.int .u8 4) λt57=>ca yG #[t51,(Value.int .u8 3),t57] w18.drew λt58 w19=>
 pw w19 (Instr.buildSlice 69 1 #[(0,t58)]) λt59 w20=>
 pw w20 (Builtin.append_ #[69,69] 69 #[(s8.getD 0 u_),t59]) λt60 w21=>
 K11 [t60] w21) (K11 [(s8.getD 0 u_)] w18))) (λs12 _d13 w14=>
 bt .add 3 (s8.getD 1 u_) (i6 1) λt31=>K7 [(s12.getD 0 u_),t31] w14)) (za (λK22=>
 fl w10 t8 96 0 90 λt62=>bt .eql 90 t62 (Value.int .u8 4) λt64=>zc t64 (fl w10 t8 96 6 80 λt67=>fl w10 t8 96 7 4 λt69=>ca yG #[t67,(Value.int .u8 3),t69] w10 λt70 w26=>
 pw w26 (Instr.buildSlice 69 1 #[(0,t70)]) λt71 w27=>
 pw w27 (Builtin.append_ #[69,69] 69 #[(s8.getD 0 u_),t71]) λt72 w28=>
 K22 [t72] w28) (za (λK29=>
 bt .eql 90 t62 (Value.int .u8 10) λt74=>zc t74 (K29 [t74] w10) (bt .eql 90 t62 (Value.int .u8 11) λt75=>K29 [t75] w10)) (λs30 _d31 w32=>
 zc (s30.getD 0 u_) (fl w32 t8 96 6 80 λt78=>ca yG #[t78,(Value.int .u8 2),tr_] w32 λt79 w33=>
 pw w33 (Instr.buildSlice 69 1 #[(0,t79)]) λt80 w34=>
 pw w34 (Builtin.append_ #[69,69] 69 #[(s8.getD 0 u_),t80]) λt81 w35=>
 K22 [t81] w35) (bt .eql 90 t62 (Value.int .u8 14) λt83=>zc t83 (pp (Instr.build 80 #[]) λt85=>ca yG #[t85,(Value.int .u8 3),tr_] w32 λt86 w36=>
 pw w36 (Instr.buildSlice 69 1 #[(0,t86)]) λt87 w37=>
 pw w37 (Builtin.append_ #[69,69] 69 #[(s8.getD 0 u_),t87]) λt88 w38=>
 zp [t88,(i6 1)] w38 (λs40 _d41 w42 K39=>
 fl w42 t7 101 4 41 λt91=>pp (Builtin.len_ #[41] 3 #[t91]) λt92=>bf .lss 3 (s40.getD 1 u_) t92 λt93=>zc t93 (pp (Instr.build 80 #[(0,(s40.getD 1 u_))]) λt98=>ca yG #[t98,(Value.int .u8 2),tr_] w42 λt99 w43=>
 pw w43 (Instr.buildSlice 69 1 #[(0,t99)]) λt100 w44=>
 pw w44 (Builtin.append_ #[69,69] 69 #[(s40.getD 0 u_),t100]) λt101 w45=>
 bt .add 3 (s40.getD 1 u_) (i6 1) λt95=>K39 [t101,t95] w45) (K22 [(s40.getD 0 u_)] w42))) (K22 [(s8.getD 0 u_)] w32))))) (λs23 _d24 w25=>
 za (λK46=>
 lo w25 96 t8 λt102=>ca jc #[t102] w25 λt103 w50=>
 zc t103 (za (λK51=>
 lo w50 25 t3 λt104=>fl w50 t8 96 1 80 λt107=>ca YE #[t104,t1,t107] w50 λt108 w55=>
 zc t108 (K51 [(Value.int .u8 2)] w55) (K51 [(Value.int .u8 1)] w55)) (λs52 _d53 w54=>
 fl w54 t8 96 1 80 λt111=>ca yG #[t111,(s52.getD 0 u_),tr_] w54 λt113 w56=>
 pw w56 (Instr.buildSlice 69 1 #[(0,t113)]) λt114 w57=>
 pw w57 (Builtin.append_ #[69,69] 69 #[(s23.getD 0 u_),t114]) λt115 w58=>
 K46 [t115] w58)) (K46 [(s23.getD 0 u_)] w50)) (λs47 _d48 w49=>
 K (s47.getD 0 u_) w49))))
theorem aeX(h:VG t0 t1 t2 w K):zd prog YD #[t0,t1,t2] w K:=
 okC false (.s (.r (rz 2 0 2)) (.s (.r (rz 7 0 10500)) (.s (.r (rz 7 0 10500)) (.s (.r (rz 1 0 0)) (.s (.r (rz 3 0 9)) (.s (.s (.r (rz 1 0 0)) (.b (.lp [9,11] (.s (.s (.r (rz 4 0 0)) (.c (.n) (.n))) (.j [9] (.b (.s (.r (ra 7 0 256 (.grp 38 false (ri 6 7 256) [44] (rz 1 13 0)))) (.c (.r (rz 16 0 705692672)) (.n)))) (.r (rz 3 0 0))))))) (.j [9] (.s (.r (rz 2 0 4)) (.b (.s (.r (rz 2 0 0)) (.c (.r (rz 9 0 43280)) (.j [73] (.s (.r (rz 2 0 0)) (.c (.n) (.r (rz 2 0 0)))) (.c (.r (rz 7 0 2704)) (.s (.r (rz 2 0 0)) (.c (.s (.r (rz 6 0 672)) (.s (.r (rz 1 0 0)) (.b (.lp [9,12] (.s (.s (.r (rz 5 0 16)) (.c (.n) (.n))) (.s (.b (.r (rz 7 0 2688))) (.r (rz 3 0 0)))))))) (.n))))))))) (.j [9] (.s (.r (rz 2 0 9)) (.c (.s (.r (rz 1 0 0)) (.j [13] (.s (.r (rz 5 0 577)) (.c (.r (rz 1 0 0)) (.n))) (.r (rz 8 0 10768)))) (.n))) (.s (.r (rz 2 0 0)) (.n)))))))))) func36 rfl (by kernel_rfl) (by kernel_rfl) h
def JF(t0 t1:Value)(w:World)(K:VW):Prop:=
 pw w (Instr.box 96 t0) λt2 w1=>
 pw w1 (Instr.box 82 t1) λt3 w2=>
 fl w2 t2 96 0 90 λt6=>bt .eql 90 t6 (Value.int .u8 11) λt7=>zc t7 (pf 82 t3 1 λt8=>fl w2 t8 80 0 3 λt10=>pf 96 t2 6 λt11=>fl w2 t11 80 0 3 λt13=>bf .eql 3 t10 t13 λt14=>K t14 w2) (lo w2 96 t2 λt15=>ca jc #[t15] w2 λt16 w3=>
 za (λK4=>gIf t16 true (fl w3 t2 96 1 80 λt19=>fl w3 t3 82 1 80 λt21=>ca ZR #[t19,t21] w3 λt22 w8=>
 K4 [t22] w8) (K4 [u_] w3)) (λs5 _d6 w7=>
 zb t16 (s5.getD 0 u_) fa_ λt23=>K t23 w7))
theorem adY(h:JF t0 t1 w K):zd prog ZQ #[t0,t1] w K:=
 okC false (.s (.r (rz 3 0 10)) (.s (.s (.r (rz 3 0 4)) (.c (.s (.r (rz 8 0 1040)) (.n)) (.n))) (.s (.r (ra 3 0 9 (.grp 17 true (ri 5 3 580) [22] (rz 2 8 0)))) (.n)))) func37 rfl (by kernel_rfl) (by kernel_rfl) h
def JG(t0 t1 t2:Value)(w:World)(K:VW):Prop:=
 pw w (Instr.box 80 t0) λt3 w1=>
 pw w1 (Instr.alloc 88 true (.tuple #[])) λt6 w2=>
 pp (Instr.build 88 #[(1,t1),(2,t2)]) λt10=>pw w2 (Instr.alloc 88 true (.tuple #[])) λt7 w3=>
 so w3 88 t7 t10 λw4=>fl w4 t3 80 0 3 λt12=>pf 88 t7 0 λt13=>pf 80 t13 0 λt14=>so w4 3 t14 t12 λw5=>pf 88 t7 0 λt15=>fl w5 t15 80 1 78 λt17=>fl w5 t3 80 1 78 λt19=>pw w5 (Builtin.append_ #[78,78] 78 #[t17,t19]) λt20 w6=>
 pf 88 t7 0 λt21=>pf 80 t21 1 λt22=>so w6 78 t22 t20 λw7=>lo w7 88 t7 λt23=>so w7 88 t6 t23 λw8=>pq w8 (zi 88 t6) λr9=>K r9 w8
theorem adZ(h:JG t0 t1 t2 w K):zd prog yG #[t0,t1,t2] w K:=
 okC false (.s (.r (rz 2 0 10)) (.s (.r (rz 5 0 640)) (.s (.r (rz 5 0 516)) (.s (.r (rz 9 0 133392)) (.s (.r (rz 2 0 9)) (.n)))))) func86 rfl (by kernel_rfl) (by kernel_rfl) h
def VH(t0 t1 t2:Value)(w:World)(K:VW):Prop:=
 pw w (Instr.box 25 t0) λt3 w1=>
 pw w1 (Instr.box 80 t2) λt5 w2=>
 lo w2 25 t3 λt13=>lo w2 80 t5 λt15=>ca Yx #[t13,t1,t15] w2 λt16 w3=>
 pe t16 0 λt17=>pe t16 1 λ_t18=>pe t16 2 λ_t19=>pw w3 (Instr.alloc 43 true (.tuple #[])) λt7 w4=>
 so w4 43 t7 t17 λw5=>fl w5 t3 25 0 22 λt22=>lo w5 43 t7 λt23=>ca j7 #[t22,t23] w5 λt24 w6=>
 pe t24 0 λt25=>pe t24 1 λ_t26=>K t25 w6
theorem aeY(h:VH t0 t1 t2 w K):zd prog YE #[t0,t1,t2] w K:=
 okC false (.s (.r (rz 3 0 10)) (.s (.r (rz 12 0 655505)) (.s (.r (rz 9 0 148)) (.s (.r (rz 2 0 0)) (.n))))) func88 rfl (by kernel_rfl) (by kernel_rfl) h
def JH(t0 t1:Value)(w:World)(K:VW):Prop:=
 pw w (Instr.box 80 t0) λt2 w1=>
 pw w1 (Instr.box 80 t1) λt3 w2=>
 fl w2 t2 80 0 3 λt7=>fl w2 t3 80 0 3 λt9=>bf .neq 3 t7 t9 λt10=>za (λK3=>gIf t10 false (fl w2 t2 80 1 78 λt13=>pp (Builtin.len_ #[78] 3 #[t13]) λt14=>fl w2 t3 80 1 78 λt16=>pp (Builtin.len_ #[78] 3 #[t16]) λt17=>bf .gtr 3 t14 t17 λt18=>K3 [t18] w2) (K3 [u_] w2)) (λs4 _d5 w6=>
 zb t10 tr_ (s4.getD 0 u_) λt19=>zc t19 (K fa_ w6) (zp [(i6 0)] w6 (λs8 _d9 w10 K7=>
 fl w10 t2 80 1 78 λt22=>pp (Builtin.len_ #[78] 3 #[t22]) λt23=>bf .lss 3 (s8.getD 0 u_) t23 λt24=>zc t24 (fl w10.drew t2 80 1 78 λt28=>xl w10.drew 78 t28 (s8.getD 0 u_) 84 λt31=>fl w10.drew t3 80 1 78 λt33=>xl w10.drew 78 t33 (s8.getD 0 u_) 84 λt36=>bf .neq 84 t31 t36 λt37=>zc t37 (K fa_ w10.drew) (bt .add 3 (s8.getD 0 u_) (i6 1) λt26=>K7 [t26] w10.drew)) (K tr_ w10))))
theorem ad0(h:JH t0 t1 w K):zd prog ZR #[t0,t1] w K:=
 okC false (.s (.r (rz 3 0 10)) (.s (.s (.r (ra 6 0 68 (.grp 11 false (ri 7 6 260) [18] (rz 1 13 0)))) (.c (.s (.r (rz 1 0 0)) (.n)) (.n))) (.s (.s (.r (rz 1 0 0)) (.b (.lp [5] (.s (.s (.r (rz 5 0 16)) (.c (.n) (.n))) (.s (.b (.s (.r (rz 11 0 266500)) (.c (.s (.r (rz 1 0 0)) (.n)) (.n)))) (.r (rz 3 0 0))))))) (.s (.r (rz 1 0 0)) (.n))))) func89 rfl (by kernel_rfl) (by kernel_rfl) h
def afL(t0 t1:Value)(w:World)(K:VW):Prop:=
 pw w (Instr.box 25 t0) λt2 w1=>
 lo w1 25 t2 λt9=>ca xD #[t9,t1] w1 λt11 w2=>
 pe t11 0 λt12=>pe t11 1 λt13=>za (λK3=>
 bt .eql 29 t13 (i6 0) λt15=>zc t15 (ff w2 t12 155 4 29 λt19=>K3 [t19] w2) (K3 [t13] w2)) (λs4 _d5 w6=>
 bt .neq 29 (s4.getD 0 u_) (i6 0) λt21=>zc t21 (K (.tuple #[(Value.slice Option.none 0 0),(s4.getD 0 u_)]) w6) (ff w6 t12 155 3 66 λt26=>K (.tuple #[t26,(s4.getD 0 u_)]) w6))
theorem ajS(h:afL t0 t1 w K):zd prog vI #[t0,t1] w K:=
 okC false (.s (.r (rz 3 0 2)) (.s (.r (rz 8 0 33)) (.j [7] (.s (.r (rz 2 0 0)) (.c (.r (rz 5 0 64)) (.n))) (.s (.s (.r (rz 2 0 0)) (.c (.s (.r (rz 3 0 0)) (.n)) (.n))) (.s (.r (rz 7 0 64)) (.n)))))) func30 rfl (by kernel_rfl) (by kernel_rfl) h
def aaJ(t0 t1 t2:Value)(w:World)(K:VW):Prop:=
 pw w (Instr.box 25 t0) λt3 w1=>
 lo w1 25 t3 λt11=>ca xD #[t11,t1] w1 λt13 w2=>
 pe t13 0 λt14=>pe t13 1 λt15=>za (λK3=>
 bt .eql 29 t15 (i6 0) λt17=>zc t17 (ca xO #[t14,t2] w2 λt21 w7=>
 ca yg #[t14,t21] w7 λt22 w8=>
 K3 [t22] w8) (K3 [t15] w2)) (λs4 _d5 w6=>
 bt .neq 29 (s4.getD 0 u_) (i6 0) λt24=>zc t24 (K (.tuple #[(Value.slice Option.none 0 0),(s4.getD 0 u_)]) w6) (ca kI #[t14,t2] w6 λt28 w9=>
 K (.tuple #[t28,(s4.getD 0 u_)]) w9))
theorem ags(h:aaJ t0 t1 t2 w K):zd prog jl #[t0,t1,t2] w K:=
 okC false (.s (.r (rz 3 0 2)) (.s (.r (rz 8 0 33)) (.j [9] (.s (.r (rz 2 0 0)) (.c (.r (rz 6 0 640)) (.n))) (.s (.s (.r (rz 2 0 0)) (.c (.s (.r (rz 3 0 0)) (.n)) (.n))) (.s (.r (rz 6 0 32)) (.n)))))) func31 rfl (by kernel_rfl) (by kernel_rfl) h
def aaK(t0 t1 t2:Value)(w:World)(K:VW):Prop:=
 pw w (Instr.box 25 t0) λt3 w1=>
 lo w1 25 t3 λt14=>ca xD #[t14,t1] w1 λt16 w2=>
 pe t16 0 λt17=>pe t16 1 λt18=>za (λK3=>
 bt .eql 29 t18 (i6 0) λt20=>zc t20 (ca xO #[t17,t2] w2 λt24 w7=>
 ca yg #[t17,t24] w7 λt25 w8=>
 K3 [t25] w8) (K3 [t18] w2)) (λs4 _d5 w6=>
 bt .neq 29 (s4.getD 0 u_) (i6 0) λt27=>zc t27 (K (.tuple #[(Value.slice Option.none 0 0),(s4.getD 0 u_)]) w6) (ff w6 t17 155 3 66 λt32=>pp (Builtin.len_ #[66] 3 #[t32]) λt33=>zp [(Value.slice Option.none 0 0),(i6 0)] w6 (λs10 _d11 w12 K9=>
 bf .lss 3 (s10.getD 1 u_) t33 λt35=>zc t35 (za (λK13=>
 xl w12 66 t32 (s10.getD 1 u_) 82 λt38=>pw w12 (Instr.alloc 82 true (.tuple #[])) λt12 w17=>
 so w17 82 t12 t38 λw18=>lo w18 82 t12 λt41=>ca xk #[t17,t2,t41] w18 λt42 w19=>
 zc t42 (pw w19 (Instr.buildSlice 55 1 #[(0,(s10.getD 1 u_))]) λt45 w20=>
 pw w20 (Builtin.append_ #[55,55] 55 #[(s10.getD 0 u_),t45]) λt46 w21=>
 K13 [t46] w21) (K13 [(s10.getD 0 u_)] w19)) (λs14 _d15 w16=>
 bt .add 3 (s10.getD 1 u_) (i6 1) λt47=>K9 [(s14.getD 0 u_),t47] w16)) (K (.tuple #[(s10.getD 0 u_),(s4.getD 0 u_)]) w12))))
theorem agt(h:aaK t0 t1 t2 w K):zd prog jm #[t0,t1,t2] w K:=
 okC false (.s (.r (rz 3 0 2)) (.s (.r (rz 8 0 33)) (.j [9] (.s (.r (rz 2 0 0)) (.c (.r (rz 6 0 640)) (.n))) (.s (.s (.r (rz 2 0 0)) (.c (.s (.r (rz 3 0 0)) (.n)) (.n))) (.s (.r (rz 1 0 0)) (.s (.s (.r (rz 6 0 64)) (.b (.lp [10,34] (.s (.r (rz 1 0 0)) (.s (.c (.n) (.n)) (.j [10] (.b (.s (.r (rz 6 0 2192)) (.s (.r (rz 4 0 144)) (.c (.r (rz 5 0 160)) (.n))))) (.r (rz 2 0 0)))))))) (.s (.r (rz 4 0 0)) (.n)))))))) func32 rfl (by kernel_rfl) (by kernel_rfl) h
def VI(t0 t1 t2 t3:Value)(w:World)(K:VW):Prop:=
 pw w (Instr.box 25 t0) λt4 w1=>
 pw w1 (Instr.box 88 t3) λt7 w2=>
 lo w2 25 t4 λt13=>ca xD #[t13,t1] w2 λt15 w3=>
 pe t15 0 λt16=>pe t15 1 λt17=>za (λK4=>
 bt .eql 29 t17 (i6 0) λt19=>zc t19 (ca qh #[t16,t2] w3.drew λt23 w8=>
 za (λK9=>gIf t23 true (fl w8 t4 25 0 22 λt26=>fa t16 155 1 λt29=>fl w8 t29 101 4 41 λt31=>fl w8 t7 88 0 80 λt33=>ca Z5 #[t26,t31,t33] w8 λt34 w13=>
 K9 [t34] w13) (K9 [u_] w8)) (λs10 _d11 w12=>
 zb t23 (s10.getD 0 u_) fa_ λt35=>za (λK14=>gIf t35 true (fl w12 t7 88 1 86 λt38=>bt .geq 86 t38 (Value.int .u8 1) λt39=>K14 [t39] w12) (K14 [u_] w12)) (λs15 _d16 w17=>
 zb t35 (s15.getD 0 u_) fa_ λt40=>za (λK18=>gIf t40 true (fl w17 t7 88 1 86 λt43=>bt .leq 86 t43 (Value.int .u8 3) λt44=>K18 [t44] w17) (K18 [u_] w17)) (λs19 _d20 w21=>
 zb t40 (s19.getD 0 u_) fa_ λt45=>ca yg #[t16,t45] w21 λt46 w22=>
 K4 [t46] w22)))) (K4 [t17] w3)) (λs5 _d6 w7=>
 bt .eql 29 (s5.getD 0 u_) (i6 0) λt48=>za (λK23=>gIf t48 true (ff w7.drew t16 155 3 66 λt54=>xl w7.drew 66 t54 t2 82 λt57=>lo w7.drew 88 t7 λt58=>ca ku #[t16,t57,t58] w7.drew λt59 w27=>
 K23 [t59] w27) (K23 [u_] w7.drew)) (λs24 _d25 w26=>
 zb t48 (s24.getD 0 u_) fa_ λt60=>K (.tuple #[t60,(s5.getD 0 u_)]) w26))
theorem aeZ(h:VI t0 t1 t2 t3 w K):zd prog Yz #[t0,t1,t2,t3] w K:=
 okC false (.s (.r (rz 4 0 10)) (.s (.r (rz 8 0 33)) (.j [11] (.s (.r (rz 2 0 0)) (.c (.r (ra 5 0 128 (.grp 24 true (ri 10 5 593924) [34] (ra 2 15 0 (.grp 36 true (ri 3 17 4) [39] (ra 2 20 0 (.grp 41 true (ri 3 22 4) [44] (rz 3 25 8)))))))) (.n))) (.s (.r (ra 3 0 0 (ra 1 14 0 (.grp 49 true (ri 10 3 606464) [59] (ra 1 13 0 (rz 2 15 0)))))) (.n))))) func38 rfl (by kernel_rfl) (by kernel_rfl) h
def VJ(t0 t1 t2:Value)(w:World)(K:VW):Prop:=
 pw w (Instr.box 25 t0) λt3 w1=>
 lo w1 25 t3 λt14=>ca xD #[t14,t1] w1 λt16 w2=>
 pe t16 0 λt17=>pe t16 1 λt18=>za (λK3=>
 bt .eql 29 t18 (i6 0) λt20=>zc t20 (ca xv #[t17,t2] w2 λt24 w7=>
 ca yg #[t17,t24] w7 λt25 w8=>
 K3 [t25] w8) (K3 [t18] w2)) (λs4 _d5 w6=>
 bt .neq 29 (s4.getD 0 u_) (i6 0) λt27=>zc t27 (K (.tuple #[(Value.slice Option.none 0 0),(s4.getD 0 u_)]) w6) (ff w6 t17 155 3 66 λt32=>pp (Builtin.len_ #[66] 3 #[t32]) λt33=>zp [(Value.slice Option.none 0 0),(i6 0)] w6 (λs10 _d11 w12 K9=>
 bf .lss 3 (s10.getD 1 u_) t33 λt35=>zc t35 (xl w12 66 t32 (s10.getD 1 u_) 82 λt37=>pw w12 (Instr.alloc 82 true (.tuple #[])) λt12 w13=>
 so w13 82 t12 t37 λw14=>lo w14.drew 82 t12 λt40=>fl w14.drew t12 82 3 3 λt43=>xl w14.drew 44 t2 t43 48 λt45=>ca qR #[t17,t40,t45] w14.drew λt46 w15=>
 pw w15 (Instr.buildSlice 44 1 #[(0,t46)]) λt47 w16=>
 pw w16 (Builtin.append_ #[44,44] 44 #[(s10.getD 0 u_),t47]) λt48 w17=>
 bt .add 3 (s10.getD 1 u_) (i6 1) λt49=>K9 [t48,t49] w17) (K (.tuple #[(s10.getD 0 u_),(s4.getD 0 u_)]) w12))))
theorem ae0(h:VJ t0 t1 t2 w K):zd prog YA #[t0,t1,t2] w K:=
 okC false (.s (.r (rz 3 0 2)) (.s (.r (rz 8 0 33)) (.j [9] (.s (.r (rz 2 0 0)) (.c (.r (rz 6 0 640)) (.n))) (.s (.s (.r (rz 2 0 0)) (.c (.s (.r (rz 3 0 0)) (.n)) (.n))) (.s (.r (rz 1 0 0)) (.s (.s (.r (rz 6 0 64)) (.b (.lp [10,34] (.s (.r (rz 1 0 0)) (.s (.c (.n) (.n)) (.s (.b (.s (.r (rz 4 0 164)) (.r (rz 12 0 2769936)))) (.r (rz 2 0 0)))))))) (.s (.r (rz 4 0 0)) (.n)))))))) func44 rfl (by kernel_rfl) (by kernel_rfl) h
def VK(t0 t1 t2 t3:Value)(w:World)(K:VW):Prop:=
 pw w (Instr.box 25 t0) λt4 w1=>
 NC w w1∧
 lo w1 25 t4 λt21=>ca xD #[t21,t1] w1 λt23 w2=>
 NC w1 w2∧
 pe t23 0 λt24=>pe t23 1 λt25=>pw w2 (Instr.alloc 151 true (.tuple #[])) λt12 w3=>
 NC w2 w3∧
 so w3 151 t12 t24 λw4=>NC w3 w4∧
 za (λK5=>
 bt .eql 29 t25 (i6 0) λt27=>zc t27 (lo w4.drew 151 t12 λt28=>lo w4.drew 151 t12 λt29=>ca xv #[t29,t2] w4.drew λt31 w9=>
 NC w4.drew w9∧
 Ext w4.drew w9∧
 za (λK10=>gIf t31 true (lo w9 151 t12 λt33=>ca kv #[t33,t3] w9 λt35 w14=>
 NC w9 w14∧
 Ext w9 w14∧
 K10 [t35] w14) (K10 [u_] w9)) (λs11 _d12 w13=>
 zb t31 (s11.getD 0 u_) fa_ λt36=>ca yg #[t28,t36] w13 λt37 w15=>
 NC w13 w15∧
 K5 [t37] w15)) (K5 [t25] w4)) (λs6 _d7 w8=>
 bt .neq 29 (s6.getD 0 u_) (i6 0) λt39=>zc t39 (∀w16,Shuts w.heap.size w8 w16→K (.tuple #[(i6 0),(i6 0),fa_,(s6.getD 0 u_)]) w16) (lo w8 151 t12 λt41=>ff w8 t41 155 3 66 λt44=>pp (Builtin.len_ #[66] 3 #[t44]) λt45=>zp [(s6.getD 0 u_),(i6 0)] w8 (λs18 d19 w20 K17=>
 bf .lss 3 (s18.getD 1 u_) t45 λt47=>zc t47 (xl w20 66 t44 (s18.getD 1 u_) 82 λt50=>pw w20 (Instr.alloc 82 true (.tuple #[])) λt14 w21=>
 NC w20 w21∧
 so w21 82 t14 t50 λw22=>NC w21 w22∧
 za (λK23=>
 fl w22.drew t14 82 3 3 λt53=>xl w22.drew 44 t2 t53 48 λt55=>px 44 t3 (s18.getD 1 u_) λt58=>((pw w22.drew (Instr.loadAt 48 t58) λt59 w27=>
 NC w22.drew w27∧
 Ext w22.drew w27∧
 ((pw w27 (Instr.alloc 48 true (.tuple #[])) λt15 w28=>
 NC w27 w28∧
 Ext w27 w28∧
 pw w28 (Instr.alloc 48 true (.tuple #[])) λt16 w29=>
 NC w28 w29∧
 Ext w28 w29∧
 so w29 48 t15 t55 λw30=>NC w29 w30∧
 so w30 48 t16 t59 λw31=>NC w30 w31∧
 K23 [t15,t16] w31)∧
 (pw w27 (Instr.alloc 48 true (.tuple #[])) λt16_33 w32=>
 NC w27 w32∧
 Ext w27 w32∧
 pw w32 (Instr.alloc 48 true (.tuple #[])) λt15_35 w34=>
 NC w32 w34∧
 Ext w32 w34∧
 so w34 48 t15_35 t55 λw36=>NC w34 w36∧
 so w36 48 t16_33 t59 λw37=>NC w36 w37∧
 K23 [t15_35,t16_33] w37)))∧
 (((pw w22.drew (Instr.alloc 48 true (.tuple #[])) λt15_39 w38=>
 NC w22.drew w38∧
 Ext w22.drew w38∧
 ((pw w38 (Instr.loadAt 48 t58) λt59_41 w40=>
 NC w38 w40∧
 Ext w38 w40∧
 pw w40 (Instr.alloc 48 true (.tuple #[])) λt16_43 w42=>
 NC w40 w42∧
 Ext w40 w42∧
 so w42 48 t15_39 t55 λw44=>NC w42 w44∧
 so w44 48 t16_43 t59_41 λw45=>NC w44 w45∧
 K23 [t15_39,t16_43] w45)∧
 (pw w38 (Instr.alloc 48 true (.tuple #[])) λt16_47 w46=>
 NC w38 w46∧
 Ext w38 w46∧
 ((pw w46 (Instr.loadAt 48 t58) λt59_49 w48=>
 NC w46 w48∧
 Ext w46 w48∧
 so w48 48 t15_39 t55 λw50=>NC w48 w50∧
 so w50 48 t16_47 t59_49 λw51=>NC w50 w51∧
 K23 [t15_39,t16_47] w51)∧
 (so w46 48 t15_39 t55 λw52=>NC w46 w52∧
 pw w52 (Instr.loadAt 48 t58) λt59_54 w53=>
 NC w52 w53∧
 Ext w52 w53∧
 so w53 48 t16_47 t59_54 λw55=>NC w53 w55∧
 K23 [t15_39,t16_47] w55)))))∧
 (pw w22.drew (Instr.alloc 48 true (.tuple #[])) λt16_57 w56=>
 NC w22.drew w56∧
 Ext w22.drew w56∧
 ((pw w56 (Instr.loadAt 48 t58) λt59_59 w58=>
 NC w56 w58∧
 Ext w56 w58∧
 pw w58 (Instr.alloc 48 true (.tuple #[])) λt15_61 w60=>
 NC w58 w60∧
 Ext w58 w60∧
 so w60 48 t15_61 t55 λw62=>NC w60 w62∧
 so w62 48 t16_57 t59_59 λw63=>NC w62 w63∧
 K23 [t15_61,t16_57] w63)∧
 (pw w56 (Instr.alloc 48 true (.tuple #[])) λt15_65 w64=>
 NC w56 w64∧
 Ext w56 w64∧
 ((pw w64 (Instr.loadAt 48 t58) λt59_67 w66=>
 NC w64 w66∧
 Ext w64 w66∧
 so w66 48 t15_65 t55 λw68=>NC w66 w68∧
 so w68 48 t16_57 t59_67 λw69=>NC w68 w69∧
 K23 [t15_65,t16_57] w69)∧
 (so w64 48 t15_65 t55 λw70=>NC w64 w70∧
 pw w70 (Instr.loadAt 48 t58) λt59_72 w71=>
 NC w70 w71∧
 Ext w70 w71∧
 so w71 48 t16_57 t59_72 λw73=>NC w71 w73∧
 K23 [t15_65,t16_57] w73))))))))) (λs24 _d25 w26=>
 lo w26 151 t12 λt60=>fa t60 155 1 λt62=>fl w26 t62 101 6 99 λt64=>pp (Builtin.len_ #[99] 3 #[t64]) λt65=>pw w26 (Instr.alloc 3 true (.tuple #[])) λt17 w74=>
 NC w26 w74∧
 so w74 3 t17 t65 λw75=>NC w74 w75∧
 pp (Instr.makeFunc (.func 100) #[] #[t12,(s24.getD 0 u_),(s24.getD 1 u_),t17]) λt66=>pw w75 (Instr.alloc 178 true (.tuple #[])) λt18 w76=>
 NC w75 w76∧
 so w76 178 t18 t66 λw77=>NC w76 w77∧
 lo w77 178 t18 λt67=>fl w77 t14 82 0 3 λt69=>cv t67 #[t69] w77 λ_t70 w78=>
 NC w77 w78∧
 lo w78 48 (s24.getD 1 u_) λt71=>ca QQ #[t71] w78 λt72 w79=>
 NC w78 w79∧
 acW prog 1 t72 w79 (λx80 w81 S82 KR83=>
 (Ext w81 w81∧∀w84,Nl w79.heap.size w81 w84→
 lo w84 151 t12 λt74=>lo w84 82 t14 λt76=>ca xk #[t74,(x80.getD 0 u_),t76] w84 λt77 w85=>
 NC w84 w85∧
 pp (Op.unary .not t77) λt78=>zc t78 (lo w85 178 t18 λt79=>cv t79 #[(x80.getD 0 u_)] w85 λ_t81 w86=>
 NC w85 w86∧
 (ExtBut S82 w84 w86∧KR83 .normal w86)) ((ExtBut S82 w84 w85∧KR83 .normal w85)))) (λw87=>
 lo w87.drew 3 t17 λt82=>lo w87.drew 151 t12 λt83=>fa t83 155 1 λt85=>fl w87.drew t85 101 6 99 λt87=>pp (Builtin.len_ #[99] 3 #[t87]) λt88=>bf .lss 3 t82 t88 λt89=>zc t89 (lo w87.drew.drew 3 t17 λt91=>∀w88,Shuts w.heap.size w87.drew.drew w88→K (.tuple #[(s18.getD 1 u_),t91,fa_,(s18.getD 0 u_)]) w88) (bt .add 3 (s18.getD 1 u_) (i6 1) λt93=>K17 [(s18.getD 0 u_),t93] w87.drew)) (λw89=>
 ∀w90,Shuts w.heap.size w89 w90→K (.tuple #[(d19.getD 8 u_),(d19.getD 9 u_),(d19.getD 10 u_),(s18.getD 0 u_)]) w90) [])) (∀w91,Shuts w.heap.size w20 w91→K (.tuple #[(i6 0),(i6 0),tr_,(s18.getD 0 u_)]) w91))))
theorem ae1(h:VK t0 t1 t2 t3 w K):zd prog YB #[t0,t1,t2,t3] w K:=
 okC true (.s (.r (rz 5 0 2)) (.s (.r (rz 9 0 40993)) (.j [11] (.s (.r (rz 2 0 0)) (.c (.r (ra 5 0 197 (.grp 32 true (ri 3 5 49) [35] (rz 3 8 8)))) (.n))) (.s (.s (.r (rz 2 0 0)) (.c (.s (.r (rz 5 0 0)) (.n)) (.n))) (.s (.s (.r (rz 6 0 65)) (.b (.lp [11,46] (.s (.r (rz 1 0 0)) (.s (.c (.n) (.n)) (.s (.b (.s (.r (rz 6 0 2192)) (.j [15,16] (.r (ra 8 0 272 (.alt 8 .u (.alt 9 .u (rz 3 10 43) (ra 1 10 3 (ra 1 9 3 (rz 2 11 10)))) (.alt 9 .u (.alt 8 .u (rz 3 10 43) (ra 1 10 3 (.alt 8 .u (rz 2 11 10) (ra 1 11 2 (ra 1 8 3 (rz 1 12 2)))))) (ra 1 10 3 (.alt 8 .u (ra 1 9 3 (rz 2 11 10)) (ra 1 9 3 (.alt 8 .u (rz 2 11 10) (ra 1 11 2 (ra 1 8 3 (rz 1 12 2))))))))))) (.s (.r (rz 8 0 41217)) (.s (.r (rz 3 0 40)) (.s (.r (rz 4 0 145)) (.s (.s (.r (rz 2 0 9)) (.b (.rf [] (.r (rz 1 0 0)) (.b (.s (.r (rz 5 0 145)) (.c (.r (rz 3 0 33)) (.n))))))) (.s (.r (rz 8 0 1029)) (.c (.s (.r (rz 7 0 4)) (.n)) (.n)))))))))) (.r (rz 2 0 0)))))))) (.s (.r (rz 5 0 0)) (.n))))))) func45 rfl (by kernel_rfl) (by kernel_rfl) h
def VL(t0 t1 t2:Value)(w:World)(K:VW):Prop:=
 pw w (Instr.box 25 t0) λt3 w1=>
 lo w1 25 t3 λt16=>ca xD #[t16,t1] w1 λt18 w2=>
 pe t18 0 λt19=>pe t18 1 λt20=>pw w2 (Instr.alloc 151 true (.tuple #[])) λt10 w3=>
 so w3 151 t10 t19 λw4=>za (λK5=>
 bt .eql 29 t20 (i6 0) λt22=>zc t22 (lo w4.drew 151 t10 λt23=>lo w4.drew 151 t10 λt24=>ca kv #[t24,t2] w4.drew λt26 w9=>
 Ext w4.drew w9∧
 ca yg #[t23,t26] w9 λt27 w10=>
 K5 [t27] w10) (K5 [t20] w4)) (λs6 _d7 w8=>
 bt .neq 29 (s6.getD 0 u_) (i6 0) λt29=>zc t29 (K (.tuple #[(i6 0),(i6 0),fa_,(s6.getD 0 u_)]) w8) (za (λK11=>
 lo w8 151 t10 λt31=>fa t31 155 1 λt33=>fl w8 t33 101 6 99 λt35=>pp (Builtin.len_ #[99] 3 #[t35]) λt36=>zp [(i6 0),(i6 0),fa_,(i6 0)] w8 (λs16 _d17 w18 K15=>
 bf .lss 3 (s16.getD 3 u_) t36 λt38=>zc t38 (lo w18 151 t10 λt40=>ff w18 t40 155 3 66 λt43=>pp (Builtin.len_ #[66] 3 #[t43]) λt44=>zp [(s16.getD 0 u_),(s16.getD 1 u_),(s16.getD 2 u_),(Value.slice Option.none 0 0),(i6 0)] w18 (λs20 _d21 w22 K19=>
 bf .lss 3 (s20.getD 4 u_) t44 λt46=>zc t46 (za (λK23=>
 xl w22 66 t43 (s20.getD 4 u_) 82 λt49=>pw w22 (Instr.alloc 82 true (.tuple #[])) λt14 w27=>
 so w27 82 t14 t49 λw28=>xl w28 44 t2 (s20.getD 4 u_) 48 λt53=>ca ky #[t53,(s16.getD 3 u_)] w28 λt55 w29=>
 pp (Op.unary .not t55) λt56=>zc t56 (K23 [(s20.getD 0 u_),(s20.getD 1 u_),(s20.getD 2 u_),(s20.getD 3 u_)] w29) (za (λK30=>
 bt .eql 69 (s20.getD 3 u_) (Value.slice Option.none 0 0) λt58=>zc t58 (lo w29 151 t10 λt59=>ca kI #[t59,(s16.getD 3 u_)] w29 λt61 w34=>
 K30 [t61] w34) (K30 [(s20.getD 3 u_)] w29)) (λs31 _d32 w33=>
 pp (Instr.makeFunc (.func 105) #[] #[t10,t14]) λt63=>ca yf #[(s31.getD 0 u_),t63] w33 λt64 w35=>
 zc t64 (K11 [(s20.getD 4 u_),(s16.getD 3 u_),tr_] w35) (K23 [(s20.getD 0 u_),(s20.getD 1 u_),(s20.getD 2 u_),(s31.getD 0 u_)] w35)))) (λs24 _d25 w26=>
 bt .add 3 (s20.getD 4 u_) (i6 1) λt67=>K19 [(s24.getD 0 u_),(s24.getD 1 u_),(s24.getD 2 u_),(s24.getD 3 u_),t67] w26)) (bt .add 3 (s16.getD 3 u_) (i6 1) λt68=>K15 [(s20.getD 0 u_),(s20.getD 1 u_),(s20.getD 2 u_),t68] w22))) (K11 [(s16.getD 0 u_),(s16.getD 1 u_),(s16.getD 2 u_)] w18))) (λs12 _d13 w14=>
 pp (Op.unary .not (s12.getD 2 u_)) λt72=>K (.tuple #[(s12.getD 0 u_),(s12.getD 1 u_),t72,(s6.getD 0 u_)]) w14)))
theorem ae2(h:VL t0 t1 t2 w K):zd prog YC #[t0,t1,t2] w K:=
 okC false (.s (.r (rz 5 0 2)) (.b (.s (.r (rz 9 0 40993)) (.j [9] (.s (.r (rz 2 0 0)) (.c (.r (rz 6 0 709)) (.n))) (.s (.s (.r (rz 2 0 0)) (.c (.s (.r (rz 5 0 0)) (.n)) (.n))) (.s (.n) (.j [6,7,8] (.s (.r (rz 7 0 257)) (.b (.lp [6,7,8,37] (.s (.r (rz 1 0 0)) (.s (.c (.n) (.n)) (.s (.b (.s (.r (rz 2 0 0)) (.s (.r (rz 1 0 0)) (.s (.r (rz 6 0 65)) (.b (.lp [6,7,8,12,45] (.s (.r (rz 1 0 0)) (.s (.c (.n) (.n)) (.j [6,7,8,12] (.b (.s (.r (rz 6 0 2192)) (.s (.s (.r (rz 7 0 2112)) (.c (.n) (.n))) (.j [12] (.s (.r (rz 2 0 0)) (.c (.r (rz 4 0 33)) (.n))) (.s (.r (rz 3 0 32)) (.c (.s (.r (rz 5 0 0)) (.n)) (.n))))))) (.r (rz 2 0 0))))))))))) (.r (rz 2 0 0)))))))) (.s (.r (rz 9 0 0)) (.n))))))))) func46 rfl (by kernel_rfl) (by kernel_rfl) h
def ad1(t0 t1 t2 t3 t4:Value)(w:World)(K:VW):Prop:=
 pw w (Instr.box 25 t0) λt5 w1=>
 lo w1 25 t5 λt26=>ca xD #[t26,t1] w1 λt28 w2=>
 pe t28 0 λt29=>pe t28 1 λt30=>za (λK3=>
 bt .eql 29 t30 (i6 0) λt32=>zc t32 (ca xv #[t29,t2] w2 λt36 w7=>
 za (λK8=>gIf t36 true (ca qh #[t29,t3] w7 λt40 w12=>
 K8 [t40] w12) (K8 [u_] w7)) (λs9 _d10 w11=>
 zb t36 (s9.getD 0 u_) fa_ λt41=>za (λK13=>gIf t41 true (ca xO #[t29,t4] w11 λt45 w17=>
 K13 [t45] w17) (K13 [u_] w11)) (λs14 _d15 w16=>
 zb t41 (s14.getD 0 u_) fa_ λt46=>ca yg #[t29,t46] w16 λt47 w18=>
 K3 [t47] w18))) (K3 [t30] w2)) (λs4 _d5 w6=>
 bt .neq 29 (s4.getD 0 u_) (i6 0) λt49=>zc t49 (K (.tuple #[(Value.slice Option.none 0 0),fa_,(s4.getD 0 u_)]) w6) (ff w6 t29 155 3 66 λt54=>xl w6 66 t54 t3 82 λt57=>pw w6 (Instr.alloc 82 true (.tuple #[])) λt14 w19=>
 so w19 82 t14 t57 λw20=>fl w20 t14 82 3 3 λt60=>xl w20 44 t2 t60 48 λt62=>pw w20 (Instr.alloc 48 true (.tuple #[])) λt15 w21=>
 so w21 48 t15 t62 λw22=>pw w22 (Instr.makeMap 218 none) λt63 w23=>
 fl w23 t14 82 0 3 λt65=>pw w23 (Instr.buildSlice 55 1 #[(0,t65)]) λt66 w24=>
 pw w24 (Instr.buildSlice 219 1 #[(0,t66)]) λt67 w25=>
 zp [t67] w25 (λs27 _d28 w29 K26=>
 pp (Builtin.len_ #[219] 3 #[(s27.getD 0 u_)]) λt69=>bt .gtr 3 t69 (i6 0) λt70=>za (λK30=>gIf t70 true (pq w29 (Instr.lookup 218 t63 t4 false) λt74=>bt .eql 55 t74 (Value.slice Option.none 0 0) λt75=>K30 [t75] w29) (K30 [u_] w29)) (λs31 _d32 w33=>
 zb t70 (s31.getD 0 u_) fa_ λt76=>zc t76 (pp (Builtin.len_ #[219] 3 #[(s27.getD 0 u_)]) λt78=>zp [(Value.slice Option.none 0 0),(i6 0)] w33 (λs35 _d36 w37 K34=>
 bf .lss 3 (s35.getD 1 u_) t78 λt80=>zc t80 (za (λK38=>
 xl w37 219 (s27.getD 0 u_) (s35.getD 1 u_) 55 λt83=>pp (Builtin.len_ #[55] 3 #[t83]) λt86=>bt .sub 3 t86 (i6 1) λt87=>xl w37 55 t83 t87 3 λt89=>pp (Builtin.len_ #[55] 3 #[t83]) λt91=>bt .gtr 3 t91 (i6 1) λt92=>za (λK42=>gIf t92 true (lo w37 82 t14 λt96=>ca xk #[t29,t89,t96] w37 λt97 w46=>
 K42 [t97] w46) (K42 [u_] w37)) (λs43 _d44 w45=>
 zb t92 (s43.getD 0 u_) fa_ λt98=>zc t98 (K38 [(s35.getD 0 u_)] w45) (ca xZ #[t29,t89] w45 λt101 w47=>
 ca vE #[t101] w47 λ_t103 w48=>
 pp (Builtin.len_ #[55] 3 #[t101]) λt105=>zp [(s35.getD 0 u_),(i6 0)] w48 (λs50 _d51 w52 K49=>
 bf .lss 3 (s50.getD 1 u_) t105 λt107=>zc t107 (za (λK53=>
 xl w52 55 t101 (s50.getD 1 u_) 3 λt109=>lo w52 48 t15 λt110=>ca ky #[t110,t109] w52 λt112 w57=>
 za (λK58=>gIf t112 true (pq w57 (Instr.lookup 218 t63 t109 false) λt116=>bt .eql 55 t116 (Value.slice Option.none 0 0) λt117=>K58 [t117] w57) (K58 [u_] w57)) (λs59 _d60 w61=>
 zb t112 (s59.getD 0 u_) fa_ λt118=>zc t118 (xl w61 219 (s27.getD 0 u_) (s35.getD 1 u_) 55 λt124=>ca jU #[t124] w61 λt125 w62=>
 pw w62 (Instr.buildSlice 55 1 #[(0,t109)]) λt127 w63=>
 pw w63 (Builtin.append_ #[55,55] 55 #[t125,t127]) λt128 w64=>
 pu w64 (Instr.mapUpdate 218 t63 t109 t128) λw65=>pq w65 (Instr.lookup 218 t63 t109 false) λt132=>pw w65 (Instr.buildSlice 219 1 #[(0,t132)]) λt133 w66=>
 pw w66 (Builtin.append_ #[219,219] 219 #[(s50.getD 0 u_),t133]) λt134 w67=>
 K53 [t134] w67) (K53 [(s50.getD 0 u_)] w61))) (λs54 _d55 w56=>
 bt .add 3 (s50.getD 1 u_) (i6 1) λt135=>K49 [(s54.getD 0 u_),t135] w56)) (K38 [(s50.getD 0 u_)] w52))))) (λs39 _d40 w41=>
 bt .add 3 (s35.getD 1 u_) (i6 1) λt136=>K34 [(s39.getD 0 u_),t136] w41)) (K26 [(s35.getD 0 u_)] w37))) (pq w33.drew (Instr.lookup 218 t63 t4 false) λt140=>pq w33.drew (Instr.lookup 218 t63 t4 false) λt143=>bt .neq 55 t143 (Value.slice Option.none 0 0) λt144=>K (.tuple #[t140,t144,(s4.getD 0 u_)]) w33.drew)))))
theorem aiH(h:ad1 t0 t1 t2 t3 t4 w K):zd prog JW #[t0,t1,t2,t3,t4] w K:=
 okC false (.s (.r (rz 4 0 2)) (.s (.r (rz 8 0 33)) (.j [12] (.s (.r (rz 2 0 0)) (.c (.r (ra 5 0 128 (.grp 37 true (ri 3 5 32) [40] (ra 2 8 0 (.grp 42 true (ri 3 10 32) [45] (rz 3 13 8)))))) (.n))) (.s (.s (.r (rz 2 0 0)) (.c (.s (.r (rz 4 0 0)) (.n)) (.n))) (.s (.r (rz 9 0 168000)) (.s (.r (rz 7 0 10512)) (.s (.r (rz 2 0 2)) (.s (.r (rz 5 0 164)) (.s (.b (.lp [17] (.s (.s (.r (ra 4 0 0 (.grp 71 true (ri 4 4 16) [75] (rz 1 8 0)))) (.c (.n) (.n))) (.b (.s (.r (rz 1 0 0)) (.s (.s (.r (rz 3 0 0)) (.b (.lp [18,79] (.s (.r (rz 1 0 0)) (.s (.c (.n) (.n)) (.j [18] (.b (.s (.r (rz 5 0 16)) (.s (.r (rz 7 0 1024)) (.s (.s (.r (ra 4 0 0 (.grp 93 true (ri 4 4 144) [97] (rz 1 8 0)))) (.c (.n) (.n))) (.s (.r (rz 4 0 32)) (.s (.r (rz 2 0 8)) (.s (.r (rz 3 0 0)) (.b (.lp [18,106] (.s (.r (rz 1 0 0)) (.s (.c (.n) (.n)) (.j [18] (.b (.s (.r (rz 3 0 4)) (.s (.r (ra 4 0 33 (.grp 113 true (ri 4 4 16) [117] (rz 1 8 0)))) (.c (.s (.r (rz 11 0 2761728)) (.r (rz 7 0 2624))) (.n))))) (.r (rz 2 0 0)))))))))))))) (.r (rz 2 0 0)))))))) (.r (rz 2 0 0)))))))) (.s (.r (rz 11 0 1040)) (.n))))))))))) func76 rfl (by kernel_rfl) (by kernel_rfl) h
def afM(t0 t1:Value)(w:World)(K:VW):Prop:=
 pw w (Instr.box 25 t0) λt2 w1=>
 bt .lss 3 t1 (i6 0) λt13=>za (λK2=>gIf t13 false (fl w1 t2 25 1 23 λt17=>pp (Builtin.len_ #[23] 3 #[t17]) λt18=>bf .geq 3 t1 t18 λt19=>K2 [t19] w1) (K2 [u_] w1)) (λs3 _d4 w5=>
 zb t13 tr_ (s3.getD 0 u_) λt20=>zc t20 (K (.tuple #[(Value.pointer Option.none),(i6 2)]) w5) (lo w5 25 t2 λt22=>ca QN #[t22,t1] w5 λt24 w6=>
 pe t24 0 λt25=>pe t24 1 λt26=>pw w6 (Instr.alloc 74 true (.tuple #[])) λt6 w7=>
 so w7 74 t6 t25 λw8=>bt .eql 29 t26 (i6 2) λt28=>zc t28 (K (.tuple #[(Value.pointer Option.none),t26]) w8) (lo w8.drew 25 t2 λt30=>fl w8.drew t2 25 1 23 λt32=>xl w8.drew 23 t32 t1 101 λt35=>lo w8.drew 74 t6 λt36=>pp (Instr.build 155 #[(0,t30),(1,t35),(2,t36),(4,t26)]) λt38=>pw w8.drew (Instr.box 155 t38) λt39 w9=>
 fa t39 155 1 λt42=>fl w9 t42 101 6 99 λt44=>pp (Builtin.len_ #[99] 3 #[t44]) λt45=>zp [(i6 0)] w9 (λs11 _d12 w13 K10=>
 bf .lss 3 (s11.getD 0 u_) t45 λt47=>zc t47 (za (λK14=>
 xl w13 99 t44 (s11.getD 0 u_) 96 λt50=>pw w13 (Instr.alloc 96 true (.tuple #[])) λt10 w18=>
 so w18 96 t10 t50 λw19=>fl w19 t10 96 0 90 λt52=>bt .eql 90 t52 (Value.int .u8 4) λt53=>zc t53 (za (λK20=>
 fl w19.drew t10 96 6 80 λt56=>fl w19.drew t10 96 7 4 λt59=>((ca Zn #[t56] w19.drew λt57 w24=>
 Ext w19.drew w24∧
 pp (Instr.build 82 #[(0,(s11.getD 0 u_)),(1,t57),(2,t59)]) λt60=>pw w24 (Instr.alloc 82 true (.tuple #[])) λt11 w25=>
 Ext w24 w25∧
 so w25 82 t11 t60 λw26=>K20 [t11] w26)∧
 (pw w19.drew (Instr.alloc 82 true (.tuple #[])) λt11_28 w27=>
 Ext w19.drew w27∧
 ca Zn #[t56] w27 λt57_30 w29=>
 Ext w27 w29∧
 pp (Instr.build 82 #[(0,(s11.getD 0 u_)),(1,t57_30),(2,t59)]) λt60_31=>so w29 82 t11_28 t60_31 λw32=>K20 [t11_28] w32))) (λs21 _d22 w23=>
 za (λK33=>
 bt .eql 29 t26 (i6 0) λt62=>zc t62 (fl w23 t6 74 4 55 λt64=>xl w23 55 t64 (s11.getD 0 u_) 3 λt67=>pf 82 (s21.getD 0 u_) 3 λt68=>so w23 3 t68 t67 λw37=>K33 [] w37) (K33 [] w23)) (λ_s34 _d35 w36=>
 ff w36.drew t39 155 3 66 λt73=>lo w36.drew 82 (s21.getD 0 u_) λt74=>pw w36.drew (Instr.buildSlice 66 1 #[(0,t74)]) λt75 w38=>
 Ext w36.drew w38∧
 pw w38 (Builtin.append_ #[66,66] 66 #[t73,t75]) λt76 w39=>
 fa t39 155 3 λt78=>so w39 66 t78 t76 λw40=>K14 [] w40))) (K14 [] w19)) (λ_s15 _d16 w17=>
 bt .add 3 (s11.getD 0 u_) (i6 1) λt79=>K10 [t79] w17)) (K (.tuple #[t39,(i6 0)]) w13)))))
theorem ajT(h:afM t0 t1 w K):zd prog xD #[t0,t1] w K:=
 okC false (.s (.r (rz 3 0 2)) (.s (.s (.r (ra 3 0 0 (.grp 14 false (ri 5 3 16) [19] (rz 1 8 0)))) (.c (.s (.r (rz 2 0 0)) (.n)) (.n))) (.s (.r (rz 9 0 40993)) (.s (.s (.r (rz 2 0 0)) (.c (.s (.r (rz 3 0 0)) (.n)) (.n))) (.s (.r (rz 11 0 529425)) (.s (.s (.r (rz 7 0 256)) (.b (.lp [46] (.s (.r (rz 1 0 0)) (.s (.c (.n) (.n)) (.j [] (.b (.s (.r (rz 6 0 2192)) (.s (.r (rz 3 0 4)) (.c (.j [11] (.r (ra 3 0 16 (ra 2 4 4 (.alt 3 .u (rz 3 6 44) (ra 1 7 3 (ra 1 3 3 (ra 1 6 0 (rz 1 8 2)))))))) (.j [] (.s (.r (rz 2 0 0)) (.c (.r (rz 7 0 8452)) (.n))) (.r (rz 11 0 2143488)))) (.n))))) (.r (rz 2 0 0)))))))) (.s (.r (rz 3 0 0)) (.n)))))))) func78 rfl (by kernel_rfl) (by kernel_rfl) h
def ad2(t0:Value)(w:World)(K:VW):Prop:=
 pw w (Instr.box 80 t0) λt1 w1=>
 pw w1 (Instr.alloc 80 true (.tuple #[])) λt2 w2=>
 fl w2.drew t1 80 0 3 λt4=>fl w2.drew t1 80 1 78 λt6=>ca yW #[t6] w2.drew λt7 w3=>
 Ext w2.drew w3∧
 pp (Instr.build 80 #[(0,t4),(1,t7)]) λt8=>so w3 80 t2 t8 λw4=>pq w4 (zi 80 t2) λr5=>K r5 w4
theorem aiI(h:ad2 t0 w K):zd prog Zn #[t0] w K:=
 okC false (.s (.r (rz 2 0 10)) (.s (.r (rz 7 0 9028)) (.n))) func141 rfl (by kernel_rfl) (by kernel_rfl) h
def YX(t0 t1:Value)(w:World)(K:VW):Prop:=
 pp (Op.unary .not t1) λt6=>zc t6 (K (i6 2) w) (ff w t0 155 4 29 λt10=>K t10 w)
theorem aaL(h:YX t0 t1 w K):zd prog yg #[t0,t1] w K:=
 okC false (.s (.r (rz 1 0 0)) (.s (.s (.r (rz 2 0 0)) (.c (.s (.r (rz 1 0 0)) (.n)) (.n))) (.s (.r (rz 5 0 64)) (.n)))) func79 rfl (by kernel_rfl) (by kernel_rfl) h
def YY(t0 t1:Value)(w:World)(K:VW):Prop:=
 bt .geq 3 t1 (i6 0) λt6=>za (λK1=>gIf t6 true (fa t0 155 1 λt11=>fl w t11 101 6 99 λt13=>pp (Builtin.len_ #[99] 3 #[t13]) λt14=>bf .lss 3 t1 t14 λt15=>K1 [t15] w) (K1 [u_] w)) (λs2 _d3 w4=>
 zb t6 (s2.getD 0 u_) fa_ λt16=>K t16 w4)
theorem aaM(h:YY t0 t1 w K):zd prog xO #[t0,t1] w K:=
 okC false (.s (.r (rz 1 0 0)) (.s (.r (ra 3 0 0 (.grp 7 true (ri 8 3 1024) [15] (rz 2 11 0)))) (.n))) func80 rfl (by kernel_rfl) (by kernel_rfl) h
def X3(t0 t1:Value)(w:World)(K:VW):Prop:=
 bt .geq 3 t1 (i6 0) λt6=>za (λK1=>gIf t6 true (ff w t0 155 3 66 λt12=>pp (Builtin.len_ #[66] 3 #[t12]) λt13=>bf .lss 3 t1 t13 λt14=>K1 [t14] w) (K1 [u_] w)) (λs2 _d3 w4=>
 zb t6 (s2.getD 0 u_) fa_ λt15=>K t15 w4)
theorem abs(h:X3 t0 t1 w K):zd prog qh #[t0,t1] w K:=
 okC false (.s (.r (rz 1 0 0)) (.s (.r (ra 3 0 0 (.grp 7 true (ri 7 3 256) [14] (rz 2 10 0)))) (.n))) func90 rfl (by kernel_rfl) (by kernel_rfl) h
def YZ(t0 t1:Value)(w:World)(K:VW):Prop:=
 fa t0 155 1 λt18=>fl w t18 101 6 99 λt20=>xl w 99 t20 t1 96 λt23=>pw w (Instr.alloc 96 true (.tuple #[])) λt5 w1=>
 so w1 96 t5 t23 λw2=>pw w2 (Instr.alloc 69 true (.tuple #[])) λt6 w3=>
 pp (Instr.makeFunc (.func 142) #[] #[t6]) λt24=>fl w3 t5 96 2 93 λt26=>fl w3 t5 96 3 93 λt28=>pw w3 (Instr.buildSlice 94 2 #[(0,t26),(1,t28)]) λt29 w4=>
 fl w4 t5 96 4 94 λt31=>pw w4 (Builtin.append_ #[94,94] 94 #[t29,t31]) λt32 w5=>
 pp (Builtin.len_ #[94] 3 #[t32]) λt33=>zp [(i6 0)] w5 (λs7 _d8 w9 K6=>
 bf .lss 3 (s7.getD 0 u_) t33 λt35=>zc t35 (za (λK10=>
 xl w9 94 t32 (s7.getD 0 u_) 93 λt37=>pw w9 (Instr.alloc 93 true (.tuple #[])) λt9 w14=>
 so w14 93 t9 t37 λw15=>fl w15 t9 93 0 91 λt39=>bt .eql 91 t39 (Value.int .u8 3) λt40=>za (λK16=>gIf t40 false (fl w15 t9 93 0 91 λt43=>bt .eql 91 t43 (Value.int .u8 4) λt44=>K16 [t44] w15) (K16 [u_] w15)) (λs17 _d18 w19=>
 zb t40 tr_ (s17.getD 0 u_) λt45=>zc t45 (fl w19 t9 93 2 80 λt48=>fl w19 t9 93 0 91 λt50=>bt .eql 91 t50 (Value.int .u8 4) λt51=>cv t24 #[t48,(Value.int .u8 3),t51] w19 λ_t52 w20=>
 K10 [] w20) (K10 [] w19))) (λ_s11 _d12 w13=>
 bt .add 3 (s7.getD 0 u_) (i6 1) λt53=>K6 [t53] w13)) (za (λK21=>
 fl w9 t5 96 0 90 λt55=>bt .eql 90 t55 (Value.int .u8 4) λt57=>zc t57 (fl w9 t5 96 6 80 λt60=>fl w9 t5 96 7 4 λt62=>cv t24 #[t60,(Value.int .u8 3),t62] w9 λ_t63 w25=>
 K21 [] w25) (za (λK26=>
 bt .eql 90 t55 (Value.int .u8 10) λt65=>zc t65 (K26 [t65] w9) (bt .eql 90 t55 (Value.int .u8 11) λt66=>K26 [t66] w9)) (λs27 _d28 w29=>
 zc (s27.getD 0 u_) (fl w29 t5 96 6 80 λt69=>cv t24 #[t69,(Value.int .u8 2),tr_] w29 λ_t70 w30=>
 K21 [] w30) (bt .eql 90 t55 (Value.int .u8 14) λt72=>zc t72 (pp (Instr.build 80 #[]) λt74=>cv t24 #[t74,(Value.int .u8 3),tr_] w29 λ_t75 w31=>
 fa t0 155 1 λt78=>fl w31 t78 101 4 41 λt80=>pp (Instr.sliceAt 41 t80 (some (i6 1)) none none) λt81=>pp (Builtin.len_ #[41] 3 #[t81]) λt82=>zp [(i6 0)] w31 (λs33 _d34 w35 K32=>
 bf .lss 3 (s33.getD 0 u_) t82 λt84=>zc t84 (bt .add 3 (s33.getD 0 u_) (i6 1) λt88=>pp (Instr.build 80 #[(0,t88)]) λt89=>cv t24 #[t89,(Value.int .u8 2),tr_] w35 λ_t90 w36=>
 bt .add 3 (s33.getD 0 u_) (i6 1) λt91=>K32 [t91] w36) (K21 [] w35))) (K21 [] w29))))) (λ_s22 _d23 w24=>
 za (λK37=>
 lo w24 96 t5 λt92=>ca jA #[t92] w24 λt93 w41=>
 zc t93 (za (λK42=>
 fa t0 155 0 λt97=>fl w41.drew t97 25 0 22 λt99=>fa t0 155 1 λt102=>fl w41.drew t102 101 4 41 λt104=>pf 96 t5 1 λt105=>fl w41.drew t105 80 0 3 λt107=>pf 96 t5 1 λt108=>fl w41.drew t108 80 0 3 λt110=>bt .add 3 t110 (i6 1) λt111=>pp (Instr.sliceAt 41 t104 (some t107) (some t111) none) λt112=>pf 96 t5 1 λt113=>fl w41.drew t113 80 1 78 λt115=>pp (Instr.build 80 #[(1,t115)]) λt116=>((ca Zi #[t99,t112,t116] w41.drew λt117 w46=>
 pe t117 0 λt118=>pe t117 1 λ_t119=>pw w46 (Instr.alloc 43 true (.tuple #[])) λt11 w47=>
 Ext w46 w47∧
 so w47 43 t11 t118 λw48=>K42 [t11] w48)∧
 (pw w41.drew (Instr.alloc 43 true (.tuple #[])) λt11_50 w49=>
 Ext w41.drew w49∧
 ca Zi #[t99,t112,t116] w49 λt117_52 w51=>
 pe t117_52 0 λt118_53=>pe t117_52 1 λ_t119_54=>so w51 43 t11_50 t118_53 λw55=>K42 [t11_50] w55))) (λs43 _d44 w45=>
 za (λK56=>
 fa t0 155 0 λt123=>fl w45.drew t123 25 0 22 λt125=>lo w45.drew 43 (s43.getD 0 u_) λt126=>ca j4 #[t125,t126] w45.drew λt127 w60=>
 pe t127 0 λt128=>pe t127 1 λ_t129=>zc t128 (K56 [(Value.int .u8 2)] w60) (K56 [(Value.int .u8 1)] w60)) (λs57 _d58 w59=>
 fl w59 t5 96 1 80 λt133=>cv t24 #[t133,(s57.getD 0 u_),tr_] w59 λ_t135 w61=>
 K37 [] w61))) (K37 [] w41)) (λ_s38 _d39 w40=>
 lo w40 69 t6 λt136=>K t136 w40))))
theorem aaN(h:YZ t0 t1 w K):zd prog kI #[t0,t1] w K:=
 okC false (.s (.r (rz 1 0 0)) (.s (.r (rz 10 0 672000)) (.s (.r (rz 1 0 2)) (.s (.r (rz 2 0 0)) (.s (.s (.r (rz 10 0 37444)) (.b (.lp [34] (.s (.r (rz 1 0 0)) (.s (.c (.n) (.n)) (.j [] (.b (.s (.r (rz 4 0 164)) (.s (.r (ra 4 0 4 (.grp 41 false (ri 3 4 4) [44] (rz 1 7 0)))) (.c (.r (rz 7 0 8464)) (.n))))) (.r (rz 2 0 0)))))))) (.j [] (.s (.r (rz 2 0 4)) (.b (.s (.r (rz 2 0 0)) (.c (.r (rz 6 0 2320)) (.j [64] (.s (.r (rz 2 0 0)) (.c (.n) (.r (rz 2 0 0)))) (.c (.r (rz 4 0 144)) (.s (.r (rz 2 0 0)) (.c (.s (.r (rz 3 0 32)) (.s (.r (rz 8 0 256)) (.b (.lp [83] (.s (.r (rz 1 0 0)) (.s (.c (.n) (.n)) (.s (.b (.s (.r (rz 2 0 0)) (.r (rz 5 0 512)))) (.r (rz 2 0 0))))))))) (.n))))))))) (.j [] (.s (.r (rz 2 0 9)) (.c (.j [11] (.r (ra 22 0 1100602409216 (.alt 22 .l (rz 6 23 704) (ra 1 26 3 (ra 4 22 2 (rz 2 27 2)))))) (.s (.r (rz 1 0 0)) (.j [13] (.s (.r (rz 12 0 9472)) (.s (.r (rz 1 0 0)) (.c (.r (rz 1 0 0)) (.n)))) (.r (rz 5 0 528))))) (.n))) (.s (.r (rz 2 0 1)) (.n))))))))) func81 rfl (by kernel_rfl) (by kernel_rfl) h
def ZI(t0 t1 t2 t3:Value)(w:World)(K:VW):Prop:=
 pw w (Instr.box 80 t0) λt4 w1=>
 lo w1.drew 69 t3 λt7=>lo w1.drew 80 t4 λt8=>ca Zn #[t8] w1.drew λt9 w2=>
 Ext w1.drew w2∧
 pp (Instr.build 88 #[(0,t9),(1,t1),(2,t2)]) λt12=>pw w2 (Instr.buildSlice 69 1 #[(0,t12)]) λt13 w3=>
 Ext w2 w3∧
 pw w3 (Builtin.append_ #[69,69] 69 #[t7,t13]) λt14 w4=>
 so w4 69 t3 t14 λw5=>K (.tuple #[]) w5
theorem Vg(h:ZI t0 t1 t2 t3 w K):zd prog ZC #[t0,t1,t2,t3] w K:=
 okC false (.s (.r (rz 1 0 2)) (.r (ra 2 0 5 (ra 2 3 0 (ra 1 2 3 (rz 4 5 172)))))) func142 rfl (by kernel_rfl) (by kernel_rfl) h
def Y0(t0 t1 t2:Value)(w:World)(K:VW):Prop:=
 pw w (Instr.box 82 t2) λt5 w1=>
 fa t0 155 1 λt10=>fl w1 t10 101 6 99 λt12=>xl w1 99 t12 t1 96 λt15=>pw w1 (Instr.alloc 96 true (.tuple #[])) λt7 w2=>
 so w2 96 t7 t15 λw3=>fl w3 t7 96 0 90 λt18=>bt .eql 90 t18 (Value.int .u8 11) λt19=>zc t19 (pf 96 t7 6 λt20=>fl w3 t20 80 0 3 λt22=>pf 82 t5 1 λt23=>fl w3 t23 80 0 3 λt25=>bf .eql 3 t22 t25 λt26=>K t26 w3) (lo w3 96 t7 λt28=>ca jA #[t28] w3 λt29 w4=>
 zc t29 (fl w4 t7 96 1 80 λt31=>fl w4 t5 82 1 80 λt33=>ca xU #[t31,t33] w4 λt34 w5=>
 K t34 w5) (K fa_ w4))
theorem aaO(h:Y0 t0 t1 t2 w K):zd prog xk #[t0,t1,t2] w K:=
 okC false (.s (.r (rz 2 0 2)) (.s (.s (.r (rz 10 0 672000)) (.b (.s (.r (rz 4 0 4)) (.c (.s (.r (rz 8 0 1040)) (.n)) (.s (.r (rz 3 0 9)) (.c (.s (.r (rz 6 0 580)) (.n)) (.n))))))) (.s (.r (rz 1 0 0)) (.n)))) func82 rfl (by kernel_rfl) (by kernel_rfl) h
def Yq(t0 t1 t2:Value)(w:World)(K:VW):Prop:=
 pw w (Instr.box 82 t1) λt4 w1=>
 pw w1 (Instr.box 88 t2) λt5 w2=>
 fl w2 t5 88 2 4 λt11=>pp (Op.unary .not t11) λt12=>za (λK3=>gIf t12 true (fl w2 t4 82 2 4 λt15=>pp (Op.unary .not t15) λt16=>K3 [t16] w2) (K3 [u_] w2)) (λs4 _d5 w6=>
 zb t12 (s4.getD 0 u_) fa_ λt17=>zc t17 (K fa_ w6) (fl w6 t4 82 1 80 λt19=>fl w6 t5 88 0 80 λt21=>ca xU #[t19,t21] w6 λt22 w7=>
 zc t22 (K tr_ w7) (fl w7 t5 88 0 80 λt24=>fl w7 t4 82 1 80 λt26=>ca xU #[t24,t26] w7 λt27 w8=>
 pp (Op.unary .not t27) λt28=>zc t28 (K fa_ w8) (pf 88 t5 0 λt29=>fl w8 t29 80 0 3 λt31=>fa t0 155 0 λt35=>fl w8.drew t35 25 0 22 λt37=>fa t0 155 1 λt40=>fl w8.drew t40 101 4 41 λt42=>bt .add 3 t31 (i6 1) λt45=>pp (Instr.sliceAt 41 t42 (some t31) (some t45) none) λt46=>pf 88 t5 0 λt47=>fl w8.drew t47 80 1 78 λt49=>pp (Instr.build 80 #[(1,t49)]) λt50=>pf 82 t4 1 λt51=>fl w8.drew t51 80 1 78 λt53=>pp (Instr.build 80 #[(1,t53)]) λt54=>fl w8.drew t5 88 1 86 λt56=>ca ZN #[t37,t46,t50,t54,t56] w8.drew λt57 w9=>
 pe t57 0 λt58=>pe t57 1 λ_t59=>K t58 w9))))
theorem VZ(h:Yq t0 t1 t2 w K):zd prog ku #[t0,t1,t2] w K:=
 okC false (.s (.r (rz 3 0 10)) (.s (.s (.r (ra 4 0 4 (.grp 13 true (ri 3 4 4) [16] (rz 1 7 0)))) (.c (.s (.r (rz 1 0 0)) (.n)) (.n))) (.s (.s (.r (rz 5 0 580)) (.c (.s (.r (rz 1 0 0)) (.n)) (.n))) (.s (.s (.r (rz 6 0 580)) (.c (.s (.r (rz 1 0 0)) (.n)) (.n))) (.s (.r (rz 4 0 16)) (.s (.r (rz 30 0 634422504456448)) (.s (.r (rz 2 0 0)) (.n)))))))) func92 rfl (by kernel_rfl) (by kernel_rfl) h
def X4(t0 t1:Value)(w:World)(K:VW):Prop:=
 fa t0 155 2 λt8=>fl w t8 74 2 3 λt10=>za (λK1=>
 ff w t0 155 4 29 λt14=>bt .neq 29 t14 (i6 0) λt15=>zc t15 (ca jQ #[t0] w λt17 w5=>
 K1 [t17] w5) (K1 [t10] w)) (λs2 _d3 w4=>
 fa t0 155 1 λt22=>fl w4.drew t22 101 6 99 λt24=>pp (Builtin.len_ #[99] 3 #[t24]) λt25=>fa t0 155 1 λt28=>fl w4.drew t28 101 1 3 λt30=>bf .add 3 t25 t30 λt31=>ca Z8 #[t1,(s2.getD 0 u_),t31] w4.drew λt32 w6=>
 K t32 w6)
theorem abt(h:X4 t0 t1 w K):zd prog xv #[t0,t1] w K:=
 okC false (.s (.r (rz 1 0 0)) (.s (.r (rz 6 0 256)) (.j [5] (.s (.r (rz 5 0 64)) (.c (.r (rz 3 0 8)) (.n))) (.s (.r (rz 16 0 553652224)) (.n))))) func97 rfl (by kernel_rfl) (by kernel_rfl) h
def ZJ(t0 t1 t2:Value)(w:World)(K:VW):Prop:=
 pw w (Instr.box 151 t0) λt3 w1=>
 pw w1 (Instr.box 82 t1) λt4 w2=>
 pw w2 (Instr.box 48 t2) λt5 w3=>
 pw w3 (Instr.alloc 48 true (.tuple #[])) λt6 w4=>
 lo w4 151 t3 λt14=>fa t14 155 1 λt16=>fl w4 t16 101 6 99 λt18=>pp (Builtin.len_ #[99] 3 #[t18]) λt19=>ca JT #[t19] w4 λt20 w5=>
 pe t20 0 λt21=>pe t20 1 λ_t22=>pw w5 (Instr.alloc 48 true (.tuple #[])) λt7 w6=>
 so w6 48 t7 t21 λw7=>pw w7 (Instr.alloc 238 true (.tuple #[])) λt9 w8=>
 pp (Instr.makeFunc (.func 155) #[] #[t3,t5,t7,t9]) λt23=>fl w8 t4 82 0 3 λt26=>cv t23 #[t26] w8 λ_t27 w9=>
 zp [] w9 (λ_s11 _d12 w13 K10=>
 ca qi #[t9] w13 λt29 w14=>
 pe t29 0 λt30=>pe t29 1 λt31=>pp (Op.unary .not t31) λt33=>zc t33 (lo w14 48 t7 λt34=>so w14 48 t6 t34 λw15=>pq w15 (zi 48 t6) λr16=>K r16 w15) (lo w14 151 t3 λt35=>lo w14 82 t4 λt37=>ca xk #[t35,t30,t37] w14 λt38 w17=>
 pp (Op.unary .not t38) λt39=>zc t39 (cv t23 #[t30] w17 λ_t42 w18=>
 K10 [] w18) (K10 [] w17)))
theorem Vh(h:ZJ t0 t1 t2 w K):zd prog qR #[t0,t1,t2] w K:=
 okC false (.s (.r (rz 4 0 170)) (.s (.r (rz 13 0 10494209)) (.s (.r (rz 1 0 2)) (.s (.r (rz 2 0 0)) (.s (.r (rz 4 0 144)) (.b (.lp [] (.b (.s (.r (rz 6 0 2)) (.s (.s (.r (rz 2 0 0)) (.c (.s (.r (rz 2 0 9)) (.n)) (.n))) (.s (.r (rz 5 0 145)) (.c (.r (rz 3 0 32)) (.n))))))))))))) func98 rfl (by kernel_rfl) (by kernel_rfl) h
def Za(t0 t1 t2 t3 t4:Value)(w:World)(K:VW):Prop:=
 lo w 151 t1 λt8=>ca xZ #[t8,t0] w λt10 w1=>
 pp (Builtin.len_ #[55] 3 #[t10]) λt11=>zp [(i6 0)] w1 (λs3 _d4 w5 K2=>
 bf .lss 3 (s3.getD 0 u_) t11 λt13=>zc t13 (za (λK6=>
 xl w5 55 t10 (s3.getD 0 u_) 3 λt15=>lo w5 48 t2 λt16=>ca ky #[t16,t15] w5 λt18 w10=>
 za (λK11=>gIf t18 true (lo w10 48 t3 λt20=>ca ky #[t20,t15] w10 λt22 w15=>
 pp (Op.unary .not t22) λt23=>K11 [t23] w15) (K11 [u_] w10)) (λs12 _d13 w14=>
 zb t18 (s12.getD 0 u_) fa_ λt24=>zc t24 (fl w14.drew t3 48 1 46 λt26=>bt .quo 3 t15 (i6 64) λt28=>xl w14.drew 46 t26 t28 205 λt30=>bt .rem 3 t15 (i6 64) λt32=>bt .shl 205 (Value.int .u64 1) t32 λt33=>bf .or 205 t30 t33 λt34=>px 46 t26 t28 λt35=>so w14.drew 205 t35 t34 λw16=>ca kP #[t4,t15] w16 λ_t37 w17=>
 K6 [] w17) (K6 [] w14))) (λ_s7 _d8 w9=>
 bt .add 3 (s3.getD 0 u_) (i6 1) λt38=>K2 [t38] w9)) (K (.tuple #[]) w5))
theorem Q3(h:Za t0 t1 t2 t3 t4 w K):zd prog vJ #[t0,t1,t2,t3,t4] w K:=
 okC false (.s (.r (rz 5 0 33)) (.b (.lp [12] (.s (.r (rz 1 0 0)) (.s (.c (.n) (.n)) (.j [] (.b (.s (.r (rz 3 0 4)) (.s (.r (ra 4 0 33 (.grp 19 true (ri 4 4 33) [23] (rz 1 8 0)))) (.c (.s (.r (rz 12 0 8389636)) (.r (rz 2 0 8))) (.n))))) (.r (rz 2 0 0)))))))) func155 rfl (by kernel_rfl) (by kernel_rfl) h
def Yr(t0 t1:Value)(w:World)(K:VW):Prop:=
 ff w.drew t0 155 3 66 λt9=>pp (Builtin.len_ #[66] 3 #[t9]) λt10=>fa t0 155 1 λt13=>fl w.drew t13 101 6 99 λt15=>pp (Builtin.len_ #[99] 3 #[t15]) λt16=>ca Z8 #[t1,t10,t16] w.drew λt17 w1=>
 K t17 w1
theorem V0(h:Yr t0 t1 w K):zd prog kv #[t0,t1] w K:=
 okC false (.s (.r (rz 1 0 0)) (.s (.r (rz 14 0 34603264)) (.n))) func99 rfl (by kernel_rfl) (by kernel_rfl) h
def QH(t0 t1 t2 t3 t4:Value)(w:World)(K:VW):Prop:=
 lo w 151 t1 λt8=>ca xZ #[t8,t0] w λt10 w1=>
 NC w w1∧
 pp (Builtin.len_ #[55] 3 #[t10]) λt11=>zp [(i6 0)] w1 (λs3 _d4 w5 K2=>
 bf .lss 3 (s3.getD 0 u_) t11 λt13=>zc t13 (za (λK6=>
 xl w5 55 t10 (s3.getD 0 u_) 3 λt15=>lo w5 48 t2 λt16=>ca ky #[t16,t15] w5 λt18 w10=>
 NC w5 w10∧
 za (λK11=>gIf t18 true (lo w10 48 t3 λt20=>ca ky #[t20,t15] w10 λt22 w15=>
 NC w10 w15∧
 pp (Op.unary .not t22) λt23=>K11 [t23] w15) (K11 [u_] w10)) (λs12 _d13 w14=>
 zb t18 (s12.getD 0 u_) fa_ λt24=>zc t24 (lo w14 3 t4 λt25=>pp (Builtin.min_ #[3,3] 3 #[t25,t15]) λt27=>so w14 3 t4 t27 λw16=>NC w14 w16∧
 K6 [] w16) (K6 [] w14))) (λ_s7 _d8 w9=>
 bt .add 3 (s3.getD 0 u_) (i6 1) λt28=>K2 [t28] w9)) (∀w17,Shuts w.heap.size w5 w17→K (.tuple #[]) w17))
theorem acI(h:QH t0 t1 t2 t3 t4 w K):zd prog Qg #[t0,t1,t2,t3,t4] w K:=
 okC true (.s (.r (rz 5 0 33)) (.b (.lp [12] (.s (.r (rz 1 0 0)) (.s (.c (.n) (.n)) (.j [] (.b (.s (.r (rz 3 0 4)) (.s (.r (ra 4 0 33 (.grp 19 true (ri 4 4 33) [23] (rz 1 8 0)))) (.c (.r (rz 4 0 129)) (.n))))) (.r (rz 2 0 0)))))))) func100 rfl (by kernel_rfl) (by kernel_rfl) h
def X5(t0 t1:Value)(w:World)(K:VW):Prop:=
 fa t0 155 1 λt8=>fl w t8 101 6 99 λt10=>xl w 99 t10 t1 96 λt13=>pw w (Instr.alloc 96 true (.tuple #[])) λt5 w1=>
 so w1 96 t5 t13 λw2=>fl w2 t5 96 0 90 λt19=>bt .eql 90 t19 (Value.int .u8 14) λt20=>zc t20 (K (Value.slice Option.none 0 0) w2) (fl w2 t5 96 0 90 λt23=>bt .eql 90 t23 (Value.int .u8 12) λt24=>za (λK3=>gIf t24 true (fl w2 t5 96 11 3 λt27=>fl w2 t5 96 10 3 λt29=>bf .neq 3 t27 t29 λt30=>K3 [t30] w2) (K3 [u_] w2)) (λs4 _d5 w6=>
 zb t24 (s4.getD 0 u_) fa_ λt31=>zc t31 (fl w6 t5 96 10 3 λt33=>fl w6 t5 96 11 3 λt35=>pw w6 (Instr.buildSlice 55 2 #[(0,t33),(1,t35)]) λt36 w7=>
 K t36 w7) (fl w6 t5 96 10 3 λt15=>pw w6 (Instr.buildSlice 55 1 #[(0,t15)]) λt16 w8=>
 K t16 w8)))
theorem abu(h:X5 t0 t1 w K):zd prog xZ #[t0,t1] w K:=
 okC false (.s (.r (rz 1 0 0)) (.s (.r (rz 10 0 672000)) (.b (.s (.r (rz 4 0 4)) (.c (.s (.r (rz 1 0 0)) (.n)) (.s (.r (ra 4 0 4 (.grp 25 true (ri 5 4 68) [30] (rz 2 9 0)))) (.c (.s (.r (rz 6 0 580)) (.n)) (.s (.r (rz 4 0 36)) (.n))))))))) func101 rfl (by kernel_rfl) (by kernel_rfl) h
def ad3(t0 t1:Value)(w:World)(K:VW):Prop:=
 pw w (Instr.box 48 t0) λt2 w1=>
 fl w1 t2 48 1 46 λt6=>bt .quo 3 t1 (i6 64) λt8=>xl w1 46 t6 t8 205 λt10=>bt .rem 3 t1 (i6 64) λt12=>bf .shr 205 t10 t12 λt13=>bt .and 205 t13 (Value.int .u64 1) λt14=>bt .eql 205 t14 (Value.int .u64 1) λt15=>K t15 w1
theorem aiJ(h:ad3 t0 t1 w K):zd prog ky #[t0,t1] w K:=
 okC false (.s (.r (rz 2 0 2)) (.s (.r (rz 12 0 1028)) (.n))) func102 rfl (by kernel_rfl) (by kernel_rfl) h
def QJ(t0 t1 t2:Value)(w:World)(K:VW):Prop:=
 pw w (Instr.box 88 t0) λt3 w1=>
 lo w1 151 t1 λt5=>lo w1 82 t2 λt6=>lo w1 88 t3 λt7=>ca ku #[t5,t6,t7] w1 λt8 w2=>
 K t8 w2
theorem acJ(h:QJ t0 t1 t2 w K):zd prog Qh #[t0,t1,t2] w K:=
 okC false (.s (.r (rz 2 0 2)) (.s (.r (rz 5 0 149)) (.n))) func105 rfl (by kernel_rfl) (by kernel_rfl) h
def JI(t0:Value)(w:World)(K:VW):Prop:=
 pw w (Instr.box 96 t0) λt1 w1=>
 fl w1 t1 96 0 90 λt4=>bt .geq 90 t4 (Value.int .u8 1) λt5=>za (λK2=>gIf t5 true (fl w1 t1 96 0 90 λt8=>bt .leq 90 t8 (Value.int .u8 8) λt9=>K2 [t9] w1) (K2 [u_] w1)) (λs3 _d4 w5=>
 zb t5 (s3.getD 0 u_) fa_ λt10=>K t10 w5)
theorem ad4(h:JI t0 w K):zd prog jA #[t0] w K:=
 okC false (.s (.r (rz 2 0 2)) (.s (.r (ra 4 0 4 (.grp 6 true (ri 3 4 4) [9] (rz 2 7 0)))) (.n))) func143 rfl (by kernel_rfl) (by kernel_rfl) h
def Y1(t0:Value)(w:World)(K:VW):Prop:=
 fa t0 155 1 λt12=>fl w t12 101 1 3 λt14=>fa t0 155 1 λt17=>fl w t17 101 4 41 λt19=>pp (Builtin.len_ #[41] 3 #[t19]) λt20=>zp [t14,(i6 0)] w (λs2 _d3 w4 K1=>
 bf .lss 3 (s2.getD 1 u_) t20 λt22=>zc t22 (xl w4 41 t19 (s2.getD 1 u_) 43 λt24=>pw w4 (Instr.alloc 43 true (.tuple #[])) λt5 w5=>
 so w5 43 t5 t24 λw6=>lo w6 43 t5 λt25=>ca xc #[t25] w6 λt26 w7=>
 pp (Builtin.len_ #[55] 3 #[t26]) λt27=>zp [(s2.getD 0 u_),(i6 0)] w7 (λs9 _d10 w11 K8=>
 bf .lss 3 (s9.getD 1 u_) t27 λt29=>zc t29 (za (λK12=>
 xl w11 55 t26 (s9.getD 1 u_) 3 λt31=>bt .lss 3 t31 (i6 0) λt33=>zc t33 (bt .add 3 (s9.getD 0 u_) (i6 1) λt35=>K12 [t35] w11) (K12 [(s9.getD 0 u_)] w11)) (λs13 _d14 w15=>
 bt .add 3 (s9.getD 1 u_) (i6 1) λt36=>K8 [(s13.getD 0 u_),t36] w15)) (bt .add 3 (s2.getD 1 u_) (i6 1) λt37=>K1 [(s9.getD 0 u_),t37] w11))) (fa t0 155 1 λt40=>fl w4 t40 101 6 99 λt42=>pp (Builtin.len_ #[99] 3 #[t42]) λt43=>zp [(s2.getD 0 u_),(i6 0)] w4 (λs17 _d18 w19 K16=>
 bf .lss 3 (s17.getD 1 u_) t43 λt45=>zc t45 (za (λK20=>
 xl w19 99 t42 (s17.getD 1 u_) 96 λt47=>pw w19 (Instr.alloc 96 true (.tuple #[])) λt9 w24=>
 so w24 96 t9 t47 λw25=>fl w25 t9 96 0 90 λt49=>bt .eql 90 t49 (Value.int .u8 7) λt50=>zc t50 (fa t0 155 0 λt54=>fl w25.drew t54 25 1 23 λt56=>fl w25.drew t9 96 8 3 λt58=>px 23 t56 t58 λt59=>fl w25.drew t59 101 1 3 λt61=>bf .add 3 (s17.getD 0 u_) t61 λt62=>K20 [t62] w25.drew) (K20 [(s17.getD 0 u_)] w25)) (λs21 _d22 w23=>
 bt .add 3 (s17.getD 1 u_) (i6 1) λt63=>K16 [(s21.getD 0 u_),t63] w23)) (ff w19 t0 155 3 66 λt68=>pp (Builtin.len_ #[66] 3 #[t68]) λt69=>bf .add 3 (s17.getD 0 u_) t69 λt70=>K t70 w19))))
theorem aaP(h:Y1 t0 w K):zd prog jQ #[t0] w K:=
 okC false (.s (.r (rz 1 0 0)) (.s (.r (rz 6 0 256)) (.s (.s (.r (rz 7 0 256)) (.b (.lp [3,21] (.s (.r (rz 1 0 0)) (.s (.c (.n) (.n)) (.s (.b (.s (.r (rz 4 0 164)) (.s (.r (rz 4 0 9)) (.b (.lp [3,28] (.s (.r (rz 1 0 0)) (.s (.c (.n) (.n)) (.j [3] (.b (.s (.r (rz 3 0 4)) (.s (.r (rz 2 0 0)) (.c (.r (rz 3 0 0)) (.n))))) (.r (rz 2 0 0)))))))))) (.r (rz 2 0 0)))))))) (.s (.s (.r (rz 7 0 256)) (.b (.lp [3,44] (.s (.r (rz 1 0 0)) (.s (.c (.n) (.n)) (.j [3] (.b (.s (.r (rz 4 0 164)) (.s (.r (rz 3 0 4)) (.c (.r (rz 13 0 1065984)) (.n))))) (.r (rz 2 0 0)))))))) (.s (.r (rz 8 0 256)) (.n)))))) func152 rfl (by kernel_rfl) (by kernel_rfl) h
def abS(t0 t1 t2:Value)(w:World)(K:VW):Prop:=
 pw w (Instr.box 3 t2) λt5 w1=>
 pp (Builtin.len_ #[44] 3 #[t0]) λt8=>bf .eql 3 t8 t1 λt10=>za (λK2=>gIf t10 true (pp (Instr.makeFunc (.func 200) #[] #[t5]) λt13=>ca yy #[t0,t13] w1 λt14 w6=>
 pp (Op.unary .not t14) λt15=>K2 [t15] w6) (K2 [u_] w1)) (λs3 _d4 w5=>
 zb t10 (s3.getD 0 u_) fa_ λt16=>K t16 w5)
theorem ahY(h:abS t0 t1 t2 w K):zd prog Z8 #[t0,t1,t2] w K:=
 okC false (.s (.r (rz 2 0 2)) (.s (.r (ra 5 0 0 (.grp 11 true (ri 4 5 32) [15] (rz 2 9 0)))) (.n))) func153 rfl (by kernel_rfl) (by kernel_rfl) h
def VM(t0 t1:Value)(w:World)(K:VW):Prop:=
 pw w (Instr.box 48 t0) λt2 w1=>
 lo w1 48 t2 λt4=>ca Y6 #[t4] w1 λt5 w2=>
 pp (Op.unary .not t5) λt6=>za (λK3=>gIf t6 false (fl w2 t2 48 0 3 λt9=>lo w2 3 t1 λt10=>bf .neq 3 t9 t10 λt11=>K3 [t11] w2) (K3 [u_] w2)) (λs4 _d5 w6=>
 zb t6 tr_ (s4.getD 0 u_) λt12=>K t12 w6)
theorem ae3(h:VM t0 t1 w K):zd prog Vm #[t0,t1] w K:=
 okC false (.s (.r (rz 2 0 2)) (.s (.r (ra 4 0 9 (.grp 7 false (ri 4 4 20) [11] (rz 2 8 0)))) (.n))) func200 rfl (by kernel_rfl) (by kernel_rfl) h
def Zb(t0 t1:Value)(w:World)(K:VW):Prop:=
 ff w t0 238 0 55 λt8=>pw w (Instr.buildSlice 55 1 #[(0,t1)]) λt10 w1=>
 pw w1 (Builtin.append_ #[55,55] 55 #[t8,t10]) λt11 w2=>
 fa t0 238 0 λt13=>so w2 55 t13 t11 λw3=>K (.tuple #[]) w3
theorem Q4(h:Zb t0 t1 w K):zd prog kP #[t0,t1] w K:=
 okC false (.r (rz 11 0 2138368)) func156 rfl (by kernel_rfl) (by kernel_rfl) h
def Zz(t0:Value)(w:World)(K:VW):Prop:=
 ff w t0 238 0 55 λt8=>pp (Builtin.len_ #[55] 3 #[t8]) λt9=>bt .eql 3 t9 (i6 0) λt10=>zc t10 (K (.tuple #[(i6 0),fa_]) w) (ff w t0 238 0 55 λt15=>pp (Builtin.len_ #[55] 3 #[t15]) λt16=>bt .sub 3 t16 (i6 1) λt17=>ff w t0 238 0 55 λt21=>xl w 55 t21 t17 3 λt24=>ff w t0 238 0 55 λt29=>pp (Instr.sliceAt 55 t29 none (some t17) none) λt31=>fa t0 238 0 λt33=>so w 55 t33 t31 λw1=>K (.tuple #[t24,tr_]) w1)
theorem JJ(h:Zz t0 w K):zd prog qi #[t0] w K:=
 okC false (.s (.r (rz 2 0 0)) (.s (.s (.r (rz 6 0 64)) (.c (.s (.r (rz 3 0 0)) (.n)) (.n))) (.s (.r (rz 7 0 64)) (.s (.r (rz 8 0 4160)) (.s (.r (rz 10 0 524544)) (.s (.r (rz 3 0 0)) (.n))))))) func157 rfl (by kernel_rfl) (by kernel_rfl) h
def yV(t0 t1:Value)(w:World)(K:VW):Prop:=
 ca yn #[t0,t1] w λt7 w1=>
 bt .geq 3 t7 (i6 0) λt8=>K t8 w1
theorem kD(h:yV t0 t1 w K):zd prog yf #[t0,t1] w K:=
 okC false (.s (.r (rz 1 0 0)) (.s (.r (rz 5 0 32)) (.n))) func104 rfl (by kernel_rfl) (by kernel_rfl) h
def xg(t0 t1:Value)(w:World)(K:VW):Prop:=
 pp (Builtin.len_ #[69] 3 #[t0]) λt7=>zp [(i6 0)] w (λs2 _d3 w4 K1=>
 bf .lss 3 (s2.getD 0 u_) t7 λt9=>zc t9 (xl w4 69 t0 (s2.getD 0 u_) 88 λt15=>cv t1 #[t15] w4 λt16 w5=>
 zc t16 (K (s2.getD 0 u_) w5) (bt .add 3 (s2.getD 0 u_) (i6 1) λt18=>K1 [t18] w5)) (K (i6 (-1)) w4))
theorem kV(h:xg t0 t1 w K):zd prog yn #[t0,t1] w K:=
 okC false (.s (.r (rz 1 0 0)) (.s (.s (.r (rz 3 0 0)) (.b (.lp [8] (.s (.r (rz 1 0 0)) (.s (.c (.n) (.n)) (.s (.b (.s (.r (rz 2 0 0)) (.s (.r (rz 6 0 2304)) (.c (.s (.r (rz 2 0 0)) (.n)) (.n))))) (.r (rz 2 0 0)))))))) (.s (.r (rz 1 0 0)) (.n)))) func161 rfl (by kernel_rfl) (by kernel_rfl) h
def ke(t0 t1:Value)(w:World)(K:VW):Prop:=
 pp (Builtin.len_ #[78] 3 #[t0]) λt7=>pp (Builtin.len_ #[78] 3 #[t1]) λt9=>bf .neq 3 t7 t9 λt10=>zc t10 (K fa_ w) (pp (Builtin.len_ #[78] 3 #[t0]) λt12=>zp [(i6 0)] w (λs2 _d3 w4 K1=>
 bf .lss 3 (s2.getD 0 u_) t12 λt14=>zc t14 (xl w4.drew 78 t0 (s2.getD 0 u_) 84 λt19=>xl w4.drew 78 t1 (s2.getD 0 u_) 84 λt23=>bf .neq 84 t19 t23 λt24=>zc t24 (K fa_ w4.drew) (bt .add 3 (s2.getD 0 u_) (i6 1) λt25=>K1 [t25] w4.drew)) (K tr_ w4)))
theorem j2(h:ke t0 t1 w K):zd prog yX #[t0,t1] w K:=
 okC false (.s (.r (rz 1 0 0)) (.s (.s (.r (rz 5 0 0)) (.c (.s (.r (rz 1 0 0)) (.n)) (.n))) (.s (.s (.r (rz 3 0 0)) (.b (.lp [13] (.s (.r (rz 1 0 0)) (.s (.c (.n) (.n)) (.s (.b (.s (.r (rz 2 0 0)) (.s (.r (rz 9 0 16448)) (.c (.s (.r (rz 1 0 0)) (.n)) (.n))))) (.r (rz 2 0 0)))))))) (.s (.r (rz 1 0 0)) (.n))))) func94 rfl (by kernel_rfl) (by kernel_rfl) h
end
end Go.Proofs.Tryz
namespace Go.Proofs
open Go.Sh Go.RowKit
section
def xA(p q:PlD):Bool:=decide (p.l=q.l)&&(decide (p.ps.length≤q.ps.length)&&decide (p.ps=q.ps.take p.ps.length))
theorem aiK{l m:List Int}{v vm:Value}{w:World}{r:Gh}{K:Value→World→Prop}(hr:Holds r w)(hl:SlB 1 r xp v l)(hm:SlB 1 r xp vm m)(h:∀w',Ext w w'→K (.bool (decide (l=m))) w'):zd Tryz.prog Tryz.yX #[v,vm] w K:=by
 refine Tryz.j2 ?_
 unfold Tryz.ke
 have hlf:=hl.lt
 have hmf:=hm.lt
 obtain⟨p,cap,rfl,_,_⟩:=hl.sl.shape
 obtain⟨pm,cm,rfl,_,_⟩:=hm.sl.shape
 have S:=St.start hr
 refine gg_ ?_
 refine zh (λhne=>?_) (λheq=>?_)
 ·have:=h _ S.ext
  have hn:¬l=m:=λe=>hne (by rw[e])
  rwa[decide_eq_false hn]at this
 have heq:l.length=m.length:=by omega
 refine gg_ ?_
 refine zj (ι:=Nat) (λi=>[.int .i64 (i:Nat)]) (λi w'=>i≤l.length∧(∀k (h1:k<l.length) (h2:k<m.length),k<i→l[k]=m[k])∧StX noX w r w' []) (λi=>l.length-i) 0 rfl ⟨gzl _,λk _ _ h0=>absurd h0 (Nat.not_lt_zero _),S⟩ ?_
 repeat clear S
 rintro i d w6 ⟨hi,hno,S⟩ K4 hK4
 rw[gdz]
 refine gp_ ?_
 refine zh (λhlt=>?_) (λhge=>?_)
 ·have hlt:i<l.length:=by omega
  have hlt2:i<m.length:=by omega
  have S:=S.go (Ext.drew _)
  obtain⟨b,off,hE,_,hc⟩:=abf hl.sl hlt
  obtain⟨b2,off2,hE2,_,hc2⟩:=abf hm.sl hlt2
  subst hE
  subst hE2
  refine gg_ ?_
  refine zf (by rw[tnc];exact S.at hc) ?_
  refine gg_ ?_
  refine zf (by rw[tnc];exact S.at hc2) ?_
  refine gp_ ?_
  refine zh (λhb=>?_) (λhb=>?_)
  ·have:=h _ S.ext
   have hne:¬l=m:=λe=>by subst e;exact hb rfl
   rwa[decide_eq_false hne]at this
  ·refine gp_ ?_
   refine hK4 (i+1) _ ⟨hlt,λk h1 h2 hk=>?_,S⟩ (by omega)
   rcases Nat.lt_or_ge k i with h|h
   ·exact hno k h1 h2 h
   ·obtain rfl:k=i:=by omega
    exact Decidable.not_not.1 hb
 ·have hil:i=l.length:=by omega
  have:=h _ S.ext
  have hy:l=m:=List.ext_getElem heq λk h1 h2=>hno k h1 h2 (by omega)
  rwa[gde hy]at this
theorem jL{p q:PlD}{c d:List Value}{w:World}{r:Gh}{K:Value→World→Prop}(hr:Holds r w)(hp:PlG r c p)(hq:PlG r d q)(h:∀w',Ext w w'→K (.bool (xA p q)) w'):zd Tryz.prog Tryz.xU #[.agg c.toArray,.agg d.toArray] w K:=by
 refine Tryz.adu ?_
 unfold Tryz.Jv
 obtain⟨v,rfl,hl⟩:=hp
 obtain⟨v2,rfl,hm⟩:=hq
 have hl0:=hl;have hm0:=hm
 have hlf:=hl.lt
 have hmf:=hm.lt
 obtain⟨x,cx,rfl,_,_⟩:=hl.sl.shape
 obtain⟨y,cy,rfl,_,hcy⟩:=hm.sl.shape
 have S:=St.start hr
 refine S.box λb2 w1 S=>?_
 refine S.box λb3 w2 S=>?_
 have S:=S.go (Ext.drew _)
 have S:StX noX w r _ [.cell b3 [.int .i64 q.l,.slice y q.ps.length cy] 80,.cell b2 [.int .i64 p.l,.slice x p.ps.length cx] 80]:=S
 refine gg_ ?_
 refine zg (c:=decide ((p.ps.length:Int)≤(q.ps.length:Int))) (λ_ K2 hK2=>by refine gg_ ?_;exact hK2) ?_
 refine zr (c:=decide (p.ps=q.ps.take p.ps.length)) (λhb K2 hK2=>?_) λw4 e4=>?_
 ·simp only[gba,gdt]at hb
  refine gg_ ?_
  refine akU (e:=84) (n:=1) (p:=y) (i:=(p.ps.length:Int)) (by kernel_rfl) (by omega) (by omega) ?_
  rw[tnc]
  refine aiK S.holds hl0 (al4 hm0 (by omega)) λw4 e4=>hK2 _ e4
 have:=h _ (S.go e4).ext
 rwa[xA,show decide (p.ps.length≤q.ps.length)=decide ((p.ps.length:Int)≤(q.ps.length:Int))by rw[decide_eq_decide];omega,← Bool.and_assoc]at this
theorem ae4{p q:PlD}{c d:List Value}{w:World}{r:Gh}{K:Value→World→Prop}(hr:Holds r w)(hp:PlG r c p)(hq:PlG r d q)(h:∀w',Ext w w'→K (.bool (xA p q)) w'):zd Tryz.prog Tryz.ZR #[.agg c.toArray,.agg d.toArray] w K:=by
 refine Tryz.ad0 ?_
 unfold Tryz.JH
 obtain⟨v,rfl,hl⟩:=hp
 obtain⟨v2,rfl,hm⟩:=hq
 have hlf:=hl.lt
 have hmf:=hm.lt
 obtain⟨x,cx,rfl,_,_⟩:=hl.sl.shape
 obtain⟨y,cy,rfl,_,hcy⟩:=hm.sl.shape
 have S:=St.start hr
 refine S.box λb2 w1 S=>?_
 refine S.box λb3 w2 S=>?_
 have S:StX noX w r w2 [.cell b3 [.int .i64 q.l,.slice y q.ps.length cy] 80,.cell b2 [.int .i64 p.l,.slice x p.ps.length cx] 80]:=S
 refine gg_ ?_
 refine zn (c:=decide ((p.ps.length:Int)>(q.ps.length:Int))) (λ_ K2 hK2=>by refine gg_ ?_;exact hK2) ?_
 refine c_b (λhb=>?_) (λhb=>?_)
 ·have:=h _ S.ext
  have hn:xA p q=false:=by
   simp only[Bool.or_eq_true,gdt]at hb
   rw[xA]
   rcases hb with hb|hb
   ·rw[decide_eq_false hb];rfl
   ·rw[decide_eq_false (show¬p.ps.length≤q.ps.length by omega),Bool.false_and,Bool.and_false]
  rwa[hn]at this
 simp only[Bool.or_eq_false_iff,decide_eq_false_iff_not,Decidable.not_not]at hb
 obtain⟨h1,h2⟩:=hb
 have hE:xA p q=decide (p.ps=q.ps.take p.ps.length):=by rw[xA,gde h1,gde (show p.ps.length≤q.ps.length by omega),Bool.true_and,Bool.true_and]
 rw[hE]at h
 refine zj (ι:=Nat) (λi=>[.int .i64 (i:Nat)]) (λi w'=>i≤p.ps.length∧(∀k (h1:k<p.ps.length) (h2:k<q.ps.length),k<i→p.ps[k]=q.ps[k])∧StX noX w r w' [.cell b3 [.int .i64 q.l,.slice y q.ps.length cy] 80,.cell b2 [.int .i64 p.l,.slice x p.ps.length cx] 80]) (λi=>p.ps.length-i) 0 rfl ⟨gzl _,λk _ _ h0=>absurd h0 (Nat.not_lt_zero _),S⟩ ?_
 repeat clear S
 rintro i d w6 ⟨hi,hno,S⟩ K4 hK4
 rw[gdz]
 refine gg_ ?_
 refine zh (λhlt=>?_) (λhge=>?_)
 ·have hlt:i<p.ps.length:=by omega
  have hlt2:i<q.ps.length:=by omega
  have S:=S.go (Ext.drew _)
  obtain⟨b,off,hE1,_,hc⟩:=abf hl.sl hlt
  obtain⟨b',off',hE2,_,hc2⟩:=abf hm.sl hlt2
  subst hE1
  subst hE2
  refine gg_ ?_
  refine zf (by rw[tnc];exact S.at hc) ?_
  refine gg_ ?_
  refine zf (by rw[tnc];exact S.at hc2) ?_
  refine gp_ ?_
  refine zh (λhb=>?_) (λhb=>?_)
  ·have:=h _ S.ext
   have hne:¬p.ps=q.ps.take p.ps.length:=λe=>hb (by
    have h5:(q.ps.take p.ps.length)[i]'(by rw[← e];exact hlt)=q.ps[i]:=List.getElem_take
    rw[← h5];congr 1)
   rwa[decide_eq_false hne]at this
  ·refine gp_ ?_
   refine hK4 (i+1) _ ⟨hlt,λk h1 h2 hk=>?_,S⟩ (by omega)
   rcases Nat.lt_or_ge k i with h|h
   ·exact hno k h1 h2 h
   ·obtain rfl:k=i:=by omega
    exact Decidable.not_not.1 hb
 ·have:=h _ S.ext
  have hy:p.ps=q.ps.take p.ps.length:=List.ext_getElem (by rw[List.length_take];omega) λk h1 h2=>by rw[List.getElem_take];exact hno k h1 (by omega) (by omega)
  rwa[gde hy]at this
def ae5(d:Int):Int:=if d=3 then 2 else if d=2 then 1 else 0
theorem agu{d:Int}{w:World}{K:Value→World→Prop}(hd:1≤d∧d≤3)(h:K (.int .i64 (ae5 d)) w):zd Tryz.prog Tryz.Yu #[.int .u8 d] w K:=by
 refine Tryz.aeB ?_
 unfold Tryz.Vz
 obtain rfl|rfl|rfl:d=1∨d=2∨d=3:=by omega
 ·intro K1 hK1
  intro K5 hK5
  refine gp_ ?_
  refine c_f (by decide) ?_
  refine gp_ ?_
  refine c_f (by decide) ?_
  refine gp_ ?_
  refine c_t (by decide) ?_
  exact hK1 _ _ λ_=>h
 ·intro K1 hK1
  intro K5 hK5
  refine gp_ ?_
  refine c_f (by decide) ?_
  refine gp_ ?_
  refine c_t (by decide) ?_
  refine hK5 _ _ λ_=>?_
  simp only[gdz]
  refine gp_ ?_
  exact hK1 _ _ λ_=>h
 ·intro K1 hK1
  intro K5 hK5
  refine gp_ ?_
  refine c_t (by decide) ?_
  refine gp_ ?_
  refine hK5 _ _ λ_=>?_
  simp only[gdz]
  refine gp_ ?_
  exact hK1 _ _ λ_=>h
noncomputable def abg(ss:List StD)(tys:List TyD)(p q:PlD)(d:Int):Bool×Int:=match zK ss tys q with
 |none=>(false,2)
 |some x=>if ((zK ss tys p).isSome=false∨d<1)∨3<d then(false,2)else(xA p q&&(x.2.drop p.ps.length).all λk=>decide (k≤ae5 d),0)
theorem ae6{ss:List StD}{tys:List TyD}{p q:PlD}{d:Int}{c c':List Value}{p0 qt:Option Addr}{cap0 capt:Nat}{w:World}{r:Gh}{K:Value→World→Prop}(hr:Holds r w)(hs:StG r p0 ss)(ht:TysG r qt tys)(htl:tys.length≤maxLen)(hp:PlG r c p)(hq:PlG r c' q)
  (h:∀w',Ext w w'→K (.tuple #[.bool (abg ss tys p q d).1,.int .i64 (abg ss tys p q d).2]) w'):zd Tryz.prog Tryz.ZN #[.slice p0 ss.length cap0,.slice qt tys.length capt,.agg c.toArray,.agg c'.toArray,.int .u8 d] w K:=by
 refine Tryz.adv ?_
 unfold Tryz.Jw
 have hp0:=hp;have hq0:=hq
 obtain⟨v,rfl,hl⟩:=hp
 obtain⟨v2,rfl,hm⟩:=hq
 have hlf:=hl.lt
 have hmf:=hm.lt
 obtain⟨x,cx,rfl,_,_⟩:=hl.sl.shape
 obtain⟨y,cy,rfl,_,hcy⟩:=hm.sl.shape
 have S:=St.start hr
 refine S.box λb2 w1 S=>?_
 refine S.box λb3 w2 S=>?_
 have S:StX noX w r w2 [.cell b3 [.int .i64 q.l,.slice y q.ps.length cy] 80,.cell b2 [.int .i64 p.l,.slice x p.ps.length cx] 80]:=S
 refine S.ldB (b:=b3) ?_ rfl
 refine XT S.holds hs ht htl hq0 (λw4 hn e4=>?_) λt g qa ca vg s w4 hg e4 n4 h4 hsg=>?_
 ·have S:=S.go e4
  refine gS_ ?_
  refine S.al λb12 w5 S=>?_
  refine S.stB (b:=b12) λw6 S=>?_
  refine gp_ ?_
  refine yZ (c:=true) (λhb=>by cases hb) λw7 e7=>?_
  have S:=S.go e7
  refine zn (c:=true) (λhb=>by cases hb) ?_
  refine zn (c:=true) (λhb=>by cases hb) ?_
  refine c_t rfl ?_
  have:=h _ S.ext
  rwa[abg,hn]at this
 obtain⟨S,_,_⟩:=S.tell e4 n4
 obtain⟨pg,cg,rfl,_,hcg⟩:=hsg.shape
 have hgl:g.length=q.ps.length:=akV hg
 refine gS_ ?_
 refine S.al λb12 w5 S=>?_
 refine S.stB (b:=b12) λw6 S=>?_
 refine gp_ ?_
 have S:StX noX w (r.or s) w6 [.cell b3 [.int .i64 q.l,.slice y q.ps.length cy] 80,.cell b2 [.int .i64 p.l,.slice x p.ps.length cx] 80]:=S.tl
 refine yZ (c:=!(zK ss tys p).isSome) (λ_ K2 hK2=>?_) λw7 e7=>?_
 ·refine S.ldB (b:=b2) ?_ rfl
  refine abM S.holds (RepS.up hs) (TysG.up ht) htl hp0.up λw7 e7=>?_
  refine gp_ ?_
  exact hK2 _ e7
 have S:=S.go e7
 refine zn (c:=decide (d<1)) (λ_ K2 hK2=>by refine gp_ ?_;exact hK2) ?_
 refine zn (c:=decide (3<d)) (λ_ K2 hK2=>by refine gp_ ?_;exact hK2) ?_
 have hE:abg ss tys p q d=if ((zK ss tys p).isSome=false∨d<1)∨3<d then(false,2)else(xA p q&&(g.drop p.ps.length).all λk=>decide (k≤ae5 d),0):=by rw[abg,hg]
 rw[hE]at h
 refine c_b (λhb=>?_) (λhb=>?_)
 ·have:=h _ S.ext
  rwa[if_pos (by simpa only[Bool.not_true,Bool.false_or,Bool.or_eq_true,Bool.not_eq_true',gdt]using hb)]at this
 simp only[Bool.not_true,Bool.false_or,Bool.or_eq_false_iff,Bool.not_eq_false',decide_eq_false_iff_not]at hb
 rw[if_neg (by rw[hb.1.1];rintro((h|h)|h);cases h;exact hb.1.2 h;exact hb.2 h)]at h
 refine S.ldB (b:=b2) ?_ rfl
 refine S.ldB (b:=b3) ?_ rfl
 refine jL S.holds hp0.up hq0.up λw8 e8=>?_
 have S:=S.go e8
 refine gp_ ?_
 refine c_b (λhn=>?_) (λhy=>?_)
 ·have:=h _ S.ext
  rw[show xA p q=false by simpa using hn]at this
  exact this
 have hy:xA p q=true:=by simpa using hy
 rw[hy,Bool.true_and]at h
 have hle:p.ps.length≤q.ps.length:=by
  simp only[xA,gba,gdt]at hy;exact hy.2.1
 refine gg_ ?_
 rw[tnc]
 refine zj (ι:=Nat) (λi=>[.int .i64 (i:Nat)]) (λi w'=>i≤g.length-p.ps.length∧(∀k (hk:k<g.length),p.ps.length≤k→k<p.ps.length+i→g[k]≤ae5 d)∧StX noX w (r.or s) w' [.cell b3 [.int .i64 q.l,.slice y q.ps.length cy] 80,.cell b2 [.int .i64 p.l,.slice x p.ps.length cx] 80]) (λi=>g.length-p.ps.length-i) 0 rfl ⟨gzl _,λk _ h1 h2=>by omega,S⟩ ?_
 repeat clear S
 rintro i dd w9 ⟨hi,hno,S⟩ K4 hK4
 rw[gdz]
 refine gp_ ?_
 refine zh (λhlt=>?_) (λhge=>?_)
 ·have hlt:p.ps.length+i<g.length:=by omega
  obtain⟨bg,og,hpg,_,hgg⟩:=xW hsg hlt
  subst hpg
  have e:(if cg=p.ps.length then(some ⟨bg,og,none⟩:Option Addr)else(some ⟨bg,og,none⟩:Option Addr).map (·.add (p.ps.length*1)))=some ⟨bg,og+p.ps.length,none⟩:=by
   rw[if_neg (by omega)];simp[Addr.add]
  rw[e]
  have hgg:=hgg.up (s:=r.or s)
  rw[show og+(p.ps.length+i)=og+p.ps.length+i by omega]at hgg
  refine gg_ ?_
  refine zf (by rw[tnc];exact S.at hgg) ?_
  refine agu (by omega) ?_
  refine gp_ ?_
  refine zh (λhb=>?_) (λhb=>?_)
  ·have:=h _ S.ext
   have hf:((g.drop p.ps.length).all λk=>decide (k≤ae5 d))=false:=by
    rw[List.all_eq_false]
    refine⟨g[p.ps.length+i],?_,by simpa using hb⟩
    rw[List.mem_iff_getElem]
    exact⟨i,by rw[List.length_drop];omega,by rw[List.getElem_drop]⟩
   rwa[hf]at this
  ·refine gp_ ?_
   refine hK4 (i+1) _ ⟨by omega,λk hk h1 h2=>?_,S⟩ (by omega)
   rcases Nat.lt_or_ge k (p.ps.length+i)with h3|h3
   ·exact hno k hk h1 h3
   ·obtain rfl:k=p.ps.length+i:=by omega
    exact Int.not_lt.1 hb
 ·have:=h _ S.ext
  have hf:((g.drop p.ps.length).all λk=>decide (k≤ae5 d))=true:=by
   rw[List.all_eq_true]
   intro z hz
   obtain⟨k,hk,rfl⟩:=List.getElem_of_mem hz
   rw[List.length_drop]at hk
   rw[List.getElem_drop,gdt]
   exact hno _ (by omega) (by omega) (by omega)
  rwa[hf]at this
structure LnD where
 q:Int
 pl:PlD
 mu:Bool
 re:Int
structure AcD where
 pl:PlD
 d:Int
 wr:Bool
def LnG(r:Gh)(c:List Value)(x:LnD):Prop:=∃v,c=[.int .i64 x.q,.int .i64 x.pl.l,v,.bool x.mu,.int .i64 x.re]∧SlB 1 r xp v x.pl.ps
def AcG(r:Gh)(c:List Value)(x:AcD):Prop:=∃v,c=[.int .i64 x.pl.l,v,.int .u8 x.d,.bool x.wr]∧SlB 1 r xp v x.pl.ps
theorem LnG.up{r s:Gh}{c:List Value}{x:LnD}(h:LnG r c x)[l:Le r s]:LnG s c x:=by obtain⟨v,h1,h2⟩:=h;exact⟨v,h1,h2.cells⟩
theorem AcG.up{r s:Gh}{c:List Value}{x:AcD}(h:AcG r c x)[l:Le r s]:AcG s c x:=by obtain⟨v,h1,h2⟩:=h;exact⟨v,h1,h2.cells⟩
theorem ad5{r:Gh}{v:Value}{l:List Int}(hl:SlB 1 r xp v l):∀x∈l,XO x:=λx hx=>by
 obtain⟨i,hi,rfl⟩:=List.getElem_of_mem hx
 obtain⟨p,cap,rfl,_,_⟩:=hl.sl.shape
 obtain⟨_,_,_,_,_,hc,_⟩:=hl.sl.get (by decide) hi
 exact hc.2
theorem ahZ{l:List Int}{p:Option Addr}{cap:Nat}{w:World}{r:Gh}{K:Value→World→Prop}(hr:Holds r w)(hl:SlB 1 r xp (.slice p l.length cap) l)(hb:l.length≤1000000)
  (h:∀v' w',Ext w w'→w'.ownsRow w.heap.size 84 1 v' l.length (ints l)→K v' w'):zd Tryz.prog Tryz.yW #[.slice p l.length cap] w K:=by
 refine Tryz.jW ?_
 unfold Tryz.x6
 have S:=St.start hr
 obtain⟨_,_,hE,hp,_⟩:=hl.sl.shape
 cases hE
 refine JP (e:=84) (n:=1) (by kernel_rfl) ?_
 refine c_b (λhn=>?_) (λhn=>?_)
 ·have hws:l=[]:=by
   cases l with
   |nil=>rfl
   |cons a l=>obtain ⟨b,off,hb,_⟩:=(adF hl w hr) 0 (.int .i64 a) rfl;rw[hb]at hn;cases hn
  subst hws
  have S:=S.ownNil 84 1
  exact h _ _ S.ext (S.give (.slice none 0 0))
 refine S.lit (e:=84) (cs:=[]) (by kernel_rfl) λb w1 S=>?_
 have S:StX noX w r w1 [.row (.slice (some ⟨b,0,none⟩) 0 0) 84 1 0 []]:=by
  refine⟨S.x,S.holds,λx hx=>?_,λx hx k hk=>?_,List.pairwise_singleton _ _⟩
  ·rw[List.mem_singleton.1 hx]
   have:=jx (w:=w1) (base:=0) (size:=1) (n:=0) (cap:=0) (gzl _) (S.has (.cell b [] 84) (by simp)) (Nat.le_refl _) (by simp[maxLen]) rfl
   exact this
  ·rw[List.mem_singleton.1 hx]at hk
   exact S.mine (.cell b [] 84) (by simp) k (by cases hk;rfl)
 refine S.ap (v:=.slice (some ⟨b,0,none⟩) 0 0) (S.at (adF hl)) (λv2 w2 S=>?_) (by omega) (by rw[yh];omega) hp (aae _)
 rw[List.nil_append,Nat.zero_add]at S
 exact h _ _ S.ext (S.give v2)
theorem Q5{p:PlD}{c:List Value}{w:World}{r:Gh}{K:Value→World→Prop}(hr:Holds r w)(hp:PlG r c p)(hb:p.ps.length≤1000000)
  (h:∀v' w',Ext w w'→w'.ownsRow w.heap.size 84 1 v' p.ps.length (ints p.ps)→K (.agg #[.int .i64 p.l,v']) w'):zd Tryz.prog Tryz.Zn #[.agg c.toArray] w K:=by
 refine Tryz.aiI ?_
 unfold Tryz.ad2
 obtain⟨v,rfl,hl⟩:=hp
 obtain⟨qs,caps,rfl,_,_⟩:=hl.sl.shape
 have S:=St.start hr
 refine S.box λb1 w1 S=>?_
 have S:StX noX w r w1 [.cell b1 [.int .i64 p.l,.slice qs p.ps.length caps] 80]:=S
 refine S.al λb2 w2 S=>?_
 have S:=S.go (Ext.drew _)
 refine gg_ ?_
 refine ahZ S.holds hl hb λv3 w3 e3 h3=>⟨e3,?_⟩
 have S:=S.take e3 h3
 obtain⟨q3,c3,rfl,_⟩:=S.rowS v3
 refine zq (cs:=#[.int .i64 p.l,.slice q3 p.ps.length c3]) (by kernel_rfl) ?_
 refine S.stB (b:=b2) λw4 S=>?_
 refine S.ceB (b:=b2) ?_ rfl
 exact h _ _ S.ext (S.give (.slice q3 p.ps.length c3))
abbrev lnC(v:Value)(x:LnD):List Value:=[.int .i64 x.q,.int .i64 x.pl.l,v,.bool x.mu,.int .i64 x.re]
def kU(vs:List Value)(ls:List LnD):List Value:=(List.zipWith lnC vs ls).flatten
abbrev kE(vs:List Value)(ls:List LnD):List Asr:=List.zipWith (λv x=>Asr.row v 84 1 x.pl.ps.length (ints x.pl.ps)) vs ls
theorem akW{vs:List Value}{ls:List LnD}{v:Value}{x:LnD}(h:vs.length=ls.length):kU (vs++[v]) (ls++[x])=kU vs ls++lnC v x:=by
 rw[kU,List.zipWith_append h,List.flatten_append];simp[kU]
theorem akX{vs:List Value}{ls:List LnD}{v:Value}{x:LnD}(h:vs.length=ls.length):kE (vs++[v]) (ls++[x])=kE vs ls++[Asr.row v 84 1 x.pl.ps.length (ints x.pl.ps)]:=by
 rw[kE,List.zipWith_append h];rfl
theorem acK{R:List Value→LnD→Prop}:∀{vs:List Value}{ls:List LnD},vs.length=ls.length→(∀i (h1:i<vs.length) (h2:i<ls.length),R (lnC vs[i] ls[i]) ls[i])→RowOf 5 R (kU vs ls) ls
 |[],[],_,_=>RowOf.nil
 |v::vs,x::ls,hl,h=>by
  have h1:=acK (R:=R) (vs:=vs) (ls:=ls) (by simpa using hl) λi h1 h2=>h (i+1) (by simpa using h1) (by simpa using h2)
  have:=yI (c:=lnC v x) (R:=R) (x:=x) rfl (h 0 (by simp) (by simp)) h1
  rw[kU,List.zipWith_cons_cons,List.flatten_cons]
  exact this
theorem acL{X:Nat→Prop}{w0 w:World}:∀{vs:List Value}{ls:List LnD}{r:Gh}{L:List Asr},vs.length=ls.length→(∀x∈ls,(∀y∈x.pl.ps,XO y)∧x.pl.ps.length≤1000000)→StX X w0 r w (kE vs ls++L)→
  ∃s,StX X w0 (r.or s) w L∧(∀i (h1:i<vs.length) (h2:i<ls.length),SlB 1 s xp vs[i] ls[i].pl.ps)∧(∀b o,s b o→w0.heap.size≤b∨X b)
 |[],[],r,L,_,_,S=>⟨nothing,S.less (λb o h=>Or.elim h id λh=>h.elim) (List.Sublist.refl _),λi h1 _=>absurd h1 (Nat.not_lt_zero _),λb o h=>h.elim⟩
 |v::vs,x::ls,r,L,hl,hin,S=>by
  have hx:=hin x (List.mem_cons_self ..)
  obtain⟨s1,T,h1,_,a1⟩:=StX.doneRow (l:=x.pl.ps) (R:=xp) (sz:=1) S (Yn hx.1) (by decide) rfl
  obtain⟨s2,T2,h2,a2⟩:=acL (vs:=vs) (ls:=ls) (by simpa using hl) (λy hy=>hin y (List.mem_cons_of_mem _ hy)) T
  refine⟨s1.or s2,T2.less (λb o h=>Or.elim h (λh=>.inl (.inl h)) λh=>Or.elim h (λh=>.inl (.inr h)) .inr) (List.Sublist.refl _),λi k1 k2=>?_,λb o h=>Or.elim h (a1 b o) (a2 b o)⟩
  cases i with
  |zero=>exact SlB.cells ⟨h1,by rw[maxLen];show x.pl.ps.length≤_;omega⟩
  |succ i=>exact SlB.cells (h2 i (by simpa using k1) (by simpa using k2))
def aaQ(g:GrD)(f:Nat→Int)(q:Nat):List LnD:=match g.pts[q]? with
 |some p=>if p.op=4 then [⟨(q:Int),p.fr,p.mu,f q⟩]else []
 |none=>[]
def lnsI(g:GrD)(f:Nat→Int)(i:Nat):List LnD:=(List.range i).flatMap (aaQ g f)
theorem aaR{g:GrD}{f:Nat→Int}{i:Nat}:lnsI g f (i+1)=lnsI g f i++aaQ g f i:=by rw[lnsI,List.range_succ,List.flatMap_append,List.flatMap_singleton];rfl
theorem qC{g:GrD}{f:Nat→Int}:∀{i:Nat},(lnsI g f i).length≤i
 |0=>Nat.le_refl _
 |i+1=>by
  rw[aaR,gla]
  have:=qC (g:=g) (f:=f) (i:=i)
  have h2:(aaQ g f i).length≤1:=by
   rw[aaQ]
   split
   ·split<;>simp
   ·simp
  omega
theorem acM{g:GrD}{f:Nat→Int}{i:Nat}{x:LnD}(h:x∈lnsI g f i):∃q p,q<i∧g.pts[q]? = some p∧p.op=4∧x=⟨(q:Int),p.fr,p.mu,f q⟩:=by
 obtain⟨q,hq,hx⟩:=List.mem_flatMap.1 h
 rw[aaQ]at hx
 split at hx
 ·rename_i p hp
  split at hx
  ·rename_i ho
   exact⟨q,p,List.mem_range.1 hq,hp,ho,List.mem_singleton.1 hx⟩
  ·cases hx
 ·cases hx
abbrev lkL(u:UnD)(g:GrD)(d:RgD)(e:Int)(p0:Option Addr)(cap0:Nat)(vf vo vt vn vp vl va vln:Value):List Value:=
 [.slice p0 u.ss.length cap0,vf,.int .i64 u.mn,.string g.name,.int .i64 g.lv,vo,.int .i64 g.pn,vt,vn,vp,.int .i64 d.lv,.int .i64 d.pt,.int .i64 d.ct,vl,va,vln,.int .i64 e]
structure LkG2(r:Gh)(b:Nat)(u:UnD)(g:GrD)(d:RgD)(e:Int)(ls:List LnD):Prop where
 ss:∃p0 cap0,(Ob r λw=>w.cell? ⟨b,0,none⟩=some (.slice p0 u.ss.length cap0))∧StG r p0 u.ss
 fs:∃p cap,(Ob r λw=>w.cell? ⟨b,1,none⟩=some (.slice p u.fs.length cap))∧SlB 7 r (GrG r) (.slice p u.fs.length cap) u.fs
 lv:Ob r λw=>w.cell? ⟨b,4,none⟩=some (.int .i64 g.lv)
 tys:∃p cap,(Ob r λw=>w.cell? ⟨b,7,none⟩=some (.slice p g.tys.length cap))∧SlB 5 r (TyC r) (.slice p g.tys.length cap) g.tys
 pts:∃p cap,(Ob r λw=>w.cell? ⟨b,9,none⟩=some (.slice p g.pts.length cap))∧SlB 21 r (PtG r) (.slice p g.pts.length cap) g.pts
 ct:Ob r λw=>w.cell? ⟨b,12,none⟩=some (.int .i64 d.ct)
 lns:∃p cap,(Ob r λw=>w.cell? ⟨b,15,none⟩=some (.slice p ls.length cap))∧SlG 5 r (LnG r) (.slice p ls.length cap) ls
 er:Ob r λw=>w.cell? ⟨b,16,none⟩=some (.int .i64 e)
theorem LkG2.up{r s:Gh}{b:Nat}{u:UnD}{g:GrD}{d:RgD}{e:Int}{ls:List LnD}(h:LkG2 r b u g d e ls)[l:Le r s]:LkG2 s b u g d e ls:=by
 obtain⟨⟨p0,c0,h1,h2⟩,⟨p1,c1,h3,h4⟩,h5,⟨p2,c2,h6,h7⟩,⟨p3,c3,h8,h9⟩,h10,⟨p4,c4,h11,h12⟩,h13⟩:=h
 exact⟨⟨p0,c0,h1.up,RepS.up h2⟩,⟨p1,c1,h3.up,h4.up' l λ_ _ h=>GrG.up h⟩,h5.up,⟨p2,c2,h6.up,h7.up' l λ_ _ h=>TyG.up h⟩,⟨p3,c3,h8.up,h9.up' l λ_ _ h=>PtG.up h⟩,h10.up,⟨p4,c4,h11.up,h12.up' l λ_ _ h=>LnG.up h⟩,h13.up⟩
def reF(d:RgD)(e:Int)(q:Nat):Int:=if e=0 then atL d.at' q else 0
theorem ad6{u:UnD}{fn:Int}{v:Value}{w:World}{r:Gh}{K:Value→World→Prop}(hr:Holds r w)(hu:UnG r v u)
  (h0:isU u fn (-1)=false→∀w',Ext w w'→K (.tuple #[.pointer none,.int .i64 2]) w')
  (h1:isU u fn (-1)=true→∀(g:GrD)(s:Gh) b vs p0 cap0 vf vo vt vn vp vl va (pl:Option Addr) (cl:Nat) w',u.fs[fn.toNat]? = some g→Above w s→vs.length=(lnsI g (reF (zL (zH u fn (-1))).1 (zL (zH u fn (-1))).2) g.pts.length).length→
   GrG r [.string g.name,.int .i64 g.lv,vo,.int .i64 g.pn,vt,vn,vp] g→UnG r (.agg #[.slice p0 u.ss.length cap0,vf,.int .i64 u.mn]) u→
   StX noX w (r.or s) w' (.cell b (lkL u g (zL (zH u fn (-1))).1 (zL (zH u fn (-1))).2 p0 cap0 vf vo vt vn vp vl va (.slice pl (lnsI g (reF (zL (zH u fn (-1))).1 (zL (zH u fn (-1))).2) g.pts.length).length cl)) 155 ::
    .row (.slice pl (lnsI g (reF (zL (zH u fn (-1))).1 (zL (zH u fn (-1))).2) g.pts.length).length cl) 82 5 (lnsI g (reF (zL (zH u fn (-1))).1 (zL (zH u fn (-1))).2) g.pts.length).length (kU vs (lnsI g (reF (zL (zH u fn (-1))).1 (zL (zH u fn (-1))).2) g.pts.length)) ::
    kE vs (lnsI g (reF (zL (zH u fn (-1))).1 (zL (zH u fn (-1))).2) g.pts.length))→K (.tuple #[.pointer (some ⟨b,0,none⟩),.int .i64 0]) w'):zd Tryz.prog Tryz.xD #[v,.int .i64 fn] w K:=by
 refine Tryz.ajT ?_
 unfold Tryz.afM
 have hu0:=hu
 obtain⟨p0,cap0,vf,rfl,_,_,hst,hsl,hfn⟩:=hu
 obtain⟨qf,capf,rfl,_,_⟩:=hfn.sl.shape
 have hfl:u.fs.length≤9223372036854775807:=hfn.few
 have S:=St.start hr
 refine S.box λb2 w1 S=>?_
 have S:StX noX w r w1 [.cell b2 [.slice p0 u.ss.length cap0,.slice qf u.fs.length capf,.int .i64 u.mn] 25]:=S
 refine gp_ ?_
 refine zn (c:=decide (fn≥(u.fs.length:Int))) (λ_ K2 hK2=>by refine gg_ ?_;exact hK2) ?_
 refine c_b (λhb=>?_) (λhb=>?_)
 ·refine h0 ?_ _ S.ext
  simp only[Bool.or_eq_true,gdt]at hb
  rw[isU]
  rcases hb with hb|hb
  ·rw[decide_eq_false (by omega)];rfl
  ·rw[decide_eq_false (show¬fn<(u.fs.length:Int)by omega),Bool.and_false,Bool.false_and]
 simp only[Bool.or_eq_false_iff,decide_eq_false_iff_not]at hb
 have hlt:fn.toNat<u.fs.length:=by omega
 refine S.ldB (b:=b2) ?_ rfl
 refine air S.holds hu0 λv3 s w4 e4 n4 hd=>?_
 obtain⟨S,_,a4⟩:=S.tell e4 n4
 have hE2:isU u fn (-1)=false→(zL (zH u fn (-1))).2=2:=λh=>by rw[zH,h];rfl
 have hE0:isU u fn (-1)=true→(zL (zH u fn (-1))).2≠2:=λh=>by
  obtain⟨_,_,_,_,hA⟩:=xL h
  rw[hA,zL,if_pos rfl]
  split
  ·show(5:Int)≠2;decide
  ·show(0:Int)≠2;decide
 have hEd:isU u fn (-1)=true→(zL (zH u fn (-1))).2=0→(zL (zH u fn (-1))).1.at'.length=u.fs[fn.toNat].pts.length:=λh h2=>by
  obtain⟨_,_,_,_,hA⟩:=xL h
  obtain⟨_,h3,_⟩:=anC h2
  rw[h3,hA]
  exact(ZZ).2
 have hMy:isU u fn (-1)=true→MayU u:=λh=>(xL h).1
 generalize (zL (zH u fn (-1))).2=e at h1 hE2 hE0 hEd⊢
 generalize (zL (zH u fn (-1))).1=d at hd h1 hEd
 obtain⟨q1,c1,q2,c2,rfl,g1,g2⟩:=hd.shape
 refine gS_ ?_
 refine S.al λb6 w5 S=>?_
 refine S.stB (b:=b6) λw6 S=>?_
 refine gp_ ?_
 refine zh (λh2=>?_) (λh2=>?_)
 ·have hn:isU u fn (-1)=false:=by
   cases hi:isU u fn (-1)with
   |false=>rfl
   |true=>exact absurd h2 (hE0 hi)
  rw[h2]
  exact h0 hn _ S.ext
 have hy:isU u fn (-1)=true:=by
  cases hi:isU u fn (-1)with
  |true=>rfl
  |false=>exact absurd (hE2 hi) h2
 have hM:=hMy hy
 have hH:=hM.hd hlt
 have hpt:=hM.pts _ (gem hlt)
 have hEd:=hEd hy
 have h1:=h1 hy u.fs[fn.toNat]
 clear h0 hE2 hE0 hMy
 have hgi:u.fs[fn.toNat]? = some u.fs[fn.toNat]:=gqg hlt
 obtain⟨bf,of,cf,hqE,hcf,hgc,hfo⟩:=hfn.sl.get (by decide) hlt
 have hp24:=hH.pt1024
 generalize u.fs[fn.toNat]=g at hgc hH hEd h1 hgi hp24 hpt
 have hgc0:=hgc
 obtain⟨vo,vt,vn,vp,rfl,m1,m2,m3,m4⟩:=hgc
 obtain⟨qo,capo,rfl,_,_⟩:=m1.sl.shape
 obtain⟨qt,capt,rfl,_,_⟩:=m2.sl.shape
 obtain⟨qn,capn,rfl,_,_⟩:=m3.sl.shape
 obtain⟨qp,capp,rfl,_,_⟩:=m4.sl.shape
 have S:=S.go (Ext.drew _)
 have S:StX noX w (r.or s) _ [.cell b6 (rgL d.lv d.pt d.ct (.slice q1 d.tys.length c1) (.slice q2 d.at'.length c2)) 74,.cell b2 [.slice p0 u.ss.length cap0,.slice qf u.fs.length capf,.int .i64 u.mn] 25]:=S
 refine S.ldB (b:=b2) ?_ rfl
 subst hqE
 refine gg_ ?_
 refine zo (n:=7) hcf (λj v hj=>by simpa using S.at ((hfo j v hj).up (s:=r.or s))) ?_
 refine S.ldB (b:=b6) ?_ rfl
 refine zq (cs:=(lkL u g d e p0 cap0 (.slice (some ⟨bf,of,none⟩) u.fs.length capf) (.slice qo g.outs.length capo) (.slice qt g.tys.length capt) (.slice qn g.nms.length capn) (.slice qp g.pts.length capp) (.slice q1 d.tys.length c1) (.slice q2 d.at'.length c2) (.slice none 0 0)).toArray) (by kernel_rfl) ?_
 refine S.box λb39 w7 S=>?_
 have S:=S.ownNil 82 5
 generalize hf:reF d e=f at h1
 have S:StX noX w (r.or s) w7 (.row (.slice none 0 0) 82 5 (lnsI g f 0).length (kU [] (lnsI g f 0))::.cell b39 (lkL u g d e p0 cap0 (.slice (some ⟨bf,of,none⟩) u.fs.length capf) (.slice qo g.outs.length capo) (.slice qt g.tys.length capt) (.slice qn g.nms.length capn) (.slice qp g.pts.length capp) (.slice q1 d.tys.length c1) (.slice q2 d.at'.length c2) (.slice none 0 0)) 155::.cell b6 (rgL d.lv d.pt d.ct (.slice q1 d.tys.length c1) (.slice q2 d.at'.length c2)) 74::.cell b2 [.slice p0 u.ss.length cap0,.slice (some ⟨bf,of,none⟩) u.fs.length capf,.int .i64 u.mn] 25::kE [] (lnsI g f 0)):=S
 refine gg_ ?_
 refine zj (ι:=Nat) (λi=>[.int .i64 (i:Nat)]) (λi w'=>i≤g.pts.length∧∃vs pl cl,vs.length=(lnsI g f i).length∧StX noX w (r.or s) w' (.row (.slice pl (lnsI g f i).length cl) 82 5 (lnsI g f i).length (kU vs (lnsI g f i))::.cell b39 (lkL u g d e p0 cap0 (.slice (some ⟨bf,of,none⟩) u.fs.length capf) (.slice qo g.outs.length capo) (.slice qt g.tys.length capt) (.slice qn g.nms.length capn) (.slice qp g.pts.length capp) (.slice q1 d.tys.length c1) (.slice q2 d.at'.length c2) (.slice pl (lnsI g f i).length cl)) 155::.cell b6 (rgL d.lv d.pt d.ct (.slice q1 d.tys.length c1) (.slice q2 d.at'.length c2)) 74::.cell b2 [.slice p0 u.ss.length cap0,.slice (some ⟨bf,of,none⟩) u.fs.length capf,.int .i64 u.mn] 25::kE vs (lnsI g f i))) (λi=>g.pts.length-i) 0 rfl ⟨gzl _,[],none,0,rfl,S⟩ ?_
 repeat clear S
 rintro i dd w8 ⟨hi,vs,pl,cl,hvl,S⟩ K4 hK4
 rw[gdz]
 refine gp_ ?_
 refine zh (λhlti=>?_) (λhgei=>?_)
 ·have hlti:i<g.pts.length:=by omega
  have hfew:=qC (g:=g) (f:=f) (i:=i)
  obtain⟨bp,op,cp,hpE,hcp,hpg,hpo⟩:=m4.sl.get (by decide) hlti
  obtain⟨x1,x2,x3,x4,x5,y1,y2,y3,y4,y5,rfl,hpg0⟩:=xm hpg
  have hp:=hpt _ (gem hlti)
  have hnx:lnsI g f (i+1)=lnsI g f i++(if g.pts[i].op=4 then [⟨(i:Int),g.pts[i].fr,g.pts[i].mu,f i⟩]else []):=by
   rw[aaR,aaQ,gqg hlti]
  generalize g.pts[i]=p at hcp hpg0 hpo hp hnx
  obtain⟨kto,ka,kb,kargs,kfr⟩:=js hpg0
  generalize lnsI g f i=ls at S hvl hfew hnx
  have join:∃R:World→Prop,(∀w',R w'↔∃vs pl cl,vs.length=(lnsI g f (i+1)).length∧StX noX w (r.or s) w' (.row (.slice pl (lnsI g f (i+1)).length cl) 82 5 (lnsI g f (i+1)).length (kU vs (lnsI g f (i+1)))::.cell b39 (lkL u g d e p0 cap0 (.slice (some ⟨bf,of,none⟩) u.fs.length capf) (.slice qo g.outs.length capo) (.slice qt g.tys.length capt) (.slice qn g.nms.length capn) (.slice qp g.pts.length capp) (.slice q1 d.tys.length c1) (.slice q2 d.at'.length c2) (.slice pl (lnsI g f (i+1)).length cl)) 155::.cell b6 (rgL d.lv d.pt d.ct (.slice q1 d.tys.length c1) (.slice q2 d.at'.length c2)) 74::.cell b2 [.slice p0 u.ss.length cap0,.slice (some ⟨bf,of,none⟩) u.fs.length capf,.int .i64 u.mn] 25::kE vs (lnsI g f (i+1)))):=⟨_,λ_=>Iff.rfl⟩
  obtain⟨R,hR⟩:=join
  refine zk (λy w'=>y=[]∧R w') (λK3 hK3=>?_) ?_
  ·rw[hpE]
   refine gg_ ?_
   refine zo (n:=21) hcp (λj v hj=>by rw[tnc];exact S.at ((hpo j v hj).up (s:=r.or s))) ?_
   refine S.al λb10 w9 S=>?_
   refine S.stB (b:=b10) λw10 S=>?_
   refine gg_ ?_
   refine zh (λho=>?_) (λho=>?_)
   ·have h8:p.fr.ps.length≤8:=by
     have k3:=(akT (a:=0) hM hH hp ho (by decide)).2.2.1
     unfold zm at k3
     split at k3
     ·simpa using k3
     ·cases k3
    rw[if_pos ho]at hnx
    have S:StX noX w (r.or s) w10 (.cell b10 (ptL p x1 x2 x3 x4 x5 y1 y2 y3 y4 y5) 96::.row (.slice pl ls.length cl) 82 5 (ls).length (kU vs (ls))::.cell b39 (lkL u g d e p0 cap0 (.slice (some ⟨bf,of,none⟩) u.fs.length capf) (.slice qo g.outs.length capo) (.slice qt g.tys.length capt) (.slice qn g.nms.length capn) (.slice qp g.pts.length capp) (.slice q1 d.tys.length c1) (.slice q2 d.at'.length c2) (.slice pl ls.length cl)) 155::.cell b6 (rgL d.lv d.pt d.ct (.slice q1 d.tys.length c1) (.slice q2 d.at'.length c2)) 74::.cell b2 [.slice p0 u.ss.length cap0,.slice (some ⟨bf,of,none⟩) u.fs.length capf,.int .i64 u.mn] 25::kE vs (ls)):=S
    refine zk (λy w'=>∃b11 vp,y=[.pointer (some ⟨b11,0,none⟩)]∧StX noX w (r.or s) w' (.cell b11 [.int .i64 (i:Nat),.int .i64 p.fr.l,vp,.bool p.mu,.int .i64 0] 82::.row vp 84 1 p.fr.ps.length (ints p.fr.ps)::.row (.slice pl ls.length cl) 82 5 (ls).length (kU vs (ls))::.cell b39 (lkL u g d e p0 cap0 (.slice (some ⟨bf,of,none⟩) u.fs.length capf) (.slice qo g.outs.length capo) (.slice qt g.tys.length capt) (.slice qn g.nms.length capn) (.slice qp g.pts.length capp) (.slice q1 d.tys.length c1) (.slice q2 d.at'.length c2) (.slice pl ls.length cl)) 155::.cell b6 (rgL d.lv d.pt d.ct (.slice q1 d.tys.length c1) (.slice q2 d.at'.length c2)) 74::.cell b2 [.slice p0 u.ss.length cap0,.slice (some ⟨bf,of,none⟩) u.fs.length capf,.int .i64 u.mn] 25::kE vs (ls))) (λK5 hK5=>?_) ?_
    ·have S:=S.go (Ext.drew _)
     refine gg_ ?_
     refine S.ldN (b:=b10) (vs:=[.int .i64 p.fr.l,.slice x5 p.fr.ps.length y5]) ?_
     refine gg_ ?_
     refine⟨?_,?_⟩
     ·refine Q5 S.holds kfr.up (by omega) λvp w11 e11 h11=>⟨e11,?_⟩
      have S:=S.take e11 h11
      obtain⟨qv,cv,rfl,_⟩:=S.rowS vp
      refine zq (cs:=#[.int .i64 (i:Nat),.int .i64 p.fr.l,.slice qv p.fr.ps.length cv,.bool p.mu,.int .i64 0]) (by kernel_rfl) ?_
      refine S.alU λb11 w12 S=>?_
      refine S.stB (b:=b11) λw13 S=>?_
      exact hK5 _ _ ⟨b11,_,rfl,S.less (λ_ _ h=>h) (.cons_cons _ (.cons_cons _ (.cons _ (List.Sublist.refl _))))⟩
     ·refine S.alU λb11 w12 S=>?_
      refine Q5 S.holds kfr.up (by omega) λvp w11 e11 h11=>⟨e11,?_⟩
      have S:=S.take e11 h11
      obtain⟨qv,cv,rfl,_⟩:=S.rowS vp
      refine zq (cs:=#[.int .i64 (i:Nat),.int .i64 p.fr.l,.slice qv p.fr.ps.length cv,.bool p.mu,.int .i64 0]) (by kernel_rfl) ?_
      refine S.stB (b:=b11) λw13 S=>?_
      exact hK5 _ _ ⟨b11,_,rfl,(S.permO (.swap _ _ _)).less (λ_ _ h=>h) (.cons_cons _ (.cons_cons _ (.cons _ (List.Sublist.refl _))))⟩
    ·repeat clear S
     rintro _ w11 ⟨b11,vp,rfl,S⟩ dd
     rw[gdz]
     refine zk (λy w'=>y=[]∧StX noX w (r.or s) w' (.cell b11 (lnC vp ⟨(i:Int),p.fr,p.mu,f i⟩) 82::.row vp 84 1 p.fr.ps.length (ints p.fr.ps)::.row (.slice pl ls.length cl) 82 5 (ls).length (kU vs (ls))::.cell b39 (lkL u g d e p0 cap0 (.slice (some ⟨bf,of,none⟩) u.fs.length capf) (.slice qo g.outs.length capo) (.slice qt g.tys.length capt) (.slice qn g.nms.length capn) (.slice qp g.pts.length capp) (.slice q1 d.tys.length c1) (.slice q2 d.at'.length c2) (.slice pl ls.length cl)) 155::.cell b6 (rgL d.lv d.pt d.ct (.slice q1 d.tys.length c1) (.slice q2 d.at'.length c2)) 74::.cell b2 [.slice p0 u.ss.length cap0,.slice (some ⟨bf,of,none⟩) u.fs.length capf,.int .i64 u.mn] 25::kE vs (ls))) (λK5 hK5=>?_) ?_
     ·refine gp_ ?_
      refine zh (λhe=>?_) (λhe=>?_)
      ·have hil:i<d.at'.length:=by rw[hEd he];exact hlti
       obtain⟨ba,oa,hpa,_,hca⟩:=xW g2 hil
       have hfi:f i=d.at'[i]:=by rw[← hf,reF,if_pos he,atL,tnc,ggd,gqg hil,Option.getD_some]
       rw[hfi]at hK5
       rw[hpa]at S
       refine gg_ ?_
       refine zf (by rw[tnc];exact S.at (hca.up (s:=r.or s))) ?_
       refine gp_ ?_
       refine S.st (b:=b11) (λw12 S=>?_) (by simp)
       refine hK5 _ _ ⟨rfl,?_⟩
       rw[hpa]
       exact S
      ·have hfi:f i=0:=by rw[← hf,reF,if_neg he]
       rw[hfi]at hK5
       exact hK5 _ _ ⟨rfl,S⟩
     ·repeat clear S
      rintro _ w12 ⟨rfl,S⟩ dd
      have S:=S.go (Ext.drew _)
      have S:StX noX w (r.or s) _ (.cell b11 (lnC vp ⟨(i:Int),p.fr,p.mu,f i⟩) 82::.row vp 84 1 p.fr.ps.length (ints p.fr.ps)::.row (.slice pl ls.length cl) 82 5 (ls).length (kU vs (ls))::.cell b39 (lkL u g d e p0 cap0 (.slice (some ⟨bf,of,none⟩) u.fs.length capf) (.slice qo g.outs.length capo) (.slice qt g.tys.length capt) (.slice qn g.nms.length capn) (.slice qp g.pts.length capp) (.slice q1 d.tys.length c1) (.slice q2 d.at'.length c2) (.slice pl ls.length cl)) 155::.cell b6 (rgL d.lv d.pt d.ct (.slice q1 d.tys.length c1) (.slice q2 d.at'.length c2)) 74::.cell b2 [.slice p0 u.ss.length cap0,.slice (some ⟨bf,of,none⟩) u.fs.length capf,.int .i64 u.mn] 25::kE vs (ls)):=S
      obtain⟨qv,cv,rfl,_⟩:=S.rowS vp
      refine gg_ ?_
      refine S.litU (e:=82) (cs:=lnC (.slice qv p.fr.ps.length cv) ⟨(i:Int),p.fr,p.mu,f i⟩) (by kernel_rfl) λb12 w13 S=>?_
      refine S.ap (v:=.slice pl ls.length cl) (m':=1) (Sl.blk (S.blk b12)) (λv14 w14 S=>?_) (by omega)
      obtain⟨p14,c14,rfl,_⟩:=S.rowS v14
      refine gg_ ?_
      refine S.st (b:=b39) (λw15 S=>?_) (by simp)
      refine hK3 _ _ ⟨rfl,(hR _).2 ⟨vs++[.slice qv p.fr.ps.length cv],p14,c14,?_,?_⟩⟩
      ·rw[hnx,gla,gla,hvl];rfl
      ·rw[hnx,akW hvl,akX hvl,gla,gls]
       have S:=S.tl.tl
       refine S.permO ?_
       exact List.perm_append_singleton _ (_::_::_::_::kE vs ls)
   ·rw[if_neg ho,List.append_nil]at hnx
    refine hK3 _ _ ⟨rfl,(hR _).2 ⟨vs,pl,cl,by rw[hnx];exact hvl,?_⟩⟩
    rw[hnx]
    exact S.tl
  ·repeat clear S
   rintro _ w9 ⟨rfl,hRw⟩ dd
   obtain⟨vs,pl,cl,hvl,S⟩:=(hR _).1 hRw
   refine gp_ ?_
   exact hK4 (i+1) _ ⟨hlti,vs,pl,cl,hvl,S⟩ (by omega)
 ·obtain rfl:i=g.pts.length:=by omega
  subst hf
  refine h1 s b39 vs p0 cap0 (.slice (some ⟨bf,of,none⟩) u.fs.length capf) (.slice qo g.outs.length capo) (.slice qt g.tys.length capt) (.slice qn g.nms.length capn) (.slice qp g.pts.length capp) (.slice q1 d.tys.length c1) (.slice q2 d.at'.length c2) pl cl w8 hgi a4 hvl hgc0 hu0 ?_
  exact(S.permO (.swap _ _ _)).less (λ_ _ h=>h) (.cons_cons _ (.cons_cons _ (.cons _ (.cons _ (List.Sublist.refl _)))))
noncomputable def lkE(u:UnD)(fn:Int):Int:=(zL (zH u fn (-1))).2
noncomputable def lkR(u:UnD)(fn:Int):RgD:=(zL (zH u fn (-1))).1
noncomputable def lkS(u:UnD)(fn:Int)(g:GrD):List LnD:=lnsI g (reF (lkR u fn) (lkE u fn)) g.pts.length
theorem ah0{u:UnD}{fn:Int}{g:GrD}{r:Gh}{c:List Value}(hg:GrG r c g)(hM:MayU u){k:Nat}(hH:HeadU u k g)(hpt:∀p∈g.pts,zG u g p=true):∀x∈lkS u fn g,(∀y∈x.pl.ps,XO y)∧x.pl.ps.length≤8:=λx hx=>by
 obtain⟨q,p,_,hp,ho,rfl⟩:=acM hx
 have hlt:=(List.getElem?_eq_some_iff.1 hp).1
 have hpe:=(List.getElem?_eq_some_iff.1 hp).2
 obtain⟨vo,vt,vn,vp,rfl,m1,m2,m3,m4⟩:=hg
 obtain⟨qp,capp,rfl,_,_⟩:=m4.sl.shape
 obtain⟨bp,op,cp,hpE,hcp,hpg,hpo⟩:=m4.sl.get (by decide) hlt
 rw[hpe]at hpg
 obtain⟨x1,x2,x3,x4,x5,y1,y2,y3,y4,y5,rfl,hpg0⟩:=xm hpg
 obtain⟨kto,ka,kb,kargs,kfr⟩:=js hpg0
 obtain⟨_,hE,hst⟩:=kfr
 cases hE
 refine⟨ad5 hst,?_⟩
 have k3:=(akT (a:=0) hM hH (hpt p (hpe▸gem hlt)) ho (by decide)).2.2.1
 unfold zm at k3
 split at k3
 ·simpa using k3
 ·cases k3
theorem ju{u:UnD}{fn:Int}{v:Value}{w:World}{r:Gh}{K:Value→World→Prop}(hr:Holds r w)(hu:UnG r v u)
  (h0:isU u fn (-1)=false→∀w',Ext w w'→K (.tuple #[.pointer none,.int .i64 2]) w')
  (h1:isU u fn (-1)=true→∀g b s w',u.fs[fn.toNat]? = some g→Ext w w'→New w s w'→LkG2 (r.or s) b u g (lkR u fn) (lkE u fn) (lkS u fn g)→K (.tuple #[.pointer (some ⟨b,0,none⟩),.int .i64 0]) w'):zd Tryz.prog Tryz.xD #[v,.int .i64 fn] w K:=by
 refine ad6 hr hu h0 λhi g s b vs p0 cap0 vf vo vt vn vp vl va pl cl w' hg ha hvl hgr hun S=>?_
 obtain⟨hM,hf0,hlt,_,_⟩:=xL hi
 have hge:u.fs[fn.toNat]=g:=(List.getElem?_eq_some_iff.1 hg).2
 have hH:=hM.hd hlt
 have hpt:=hM.pts _ (gem hlt)
 rw[hge]at hH hpt
 have hin:=ah0 (fn:=fn) hgr hM hH hpt
 have h1:=h1 hi g
 change ∀x∈lnsI g (reF (zL (zH u fn (-1))).1 (zL (zH u fn (-1))).2) g.pts.length,_ at hin
 unfold lkR lkE lkS at h1
 unfold lkR lkE at h1
 generalize (zL (zH u fn (-1))).1=d at *
 generalize (zL (zH u fn (-1))).2=e at *
 generalize lnsI g (reF d e) g.pts.length=ls at S hin hvl h1
 have S:StX noX w (r.or s) w' (kE vs ls++[.cell b (lkL u g d e p0 cap0 vf vo vt vn vp vl va (.slice pl ls.length cl)) 155,.row (.slice pl ls.length cl) 82 5 ls.length (kU vs ls)]):=S.permO (List.perm_append_comm (l₂:=[_,_]))
 obtain⟨s1,S,hs1,a1⟩:=acL hvl (λx hx=>⟨(hin x hx).1,by have:=(hin x hx).2;omega⟩) S
 obtain⟨s2,S,hs2,_,a2⟩:=(S.permO (.swap _ _ _)).doneRow (l:=ls) (R:=LnG s1) (sz:=5) (acK hvl λi k1 k2=>⟨_,rfl,hs1 i k1 k2⟩) (by decide) rfl
 obtain⟨S,a3⟩:=StX.frzNew S b
 have T:StX noX w (r.or (((s.or s1).or s2).or (Go.Sh.one b (lkL u g d e p0 cap0 vf vo vt vn vp vl va (.slice pl ls.length cl)) 155))) w' []:=
  S.less (λb o h=>Or.elim h (λh=>.inl (.inl (.inl (.inl h)))) λh=>Or.elim h (λh=>Or.elim h (λh=>Or.elim h (λh=>.inl (.inl (.inl (.inr h)))) λh=>.inl (.inl (.inr h))) λh=>.inl (.inr h)) .inr) (List.Sublist.refl _)
 refine h1 b _ w' hg T.ext (StX.newOf (q:=(((s.or s1).or s2).or (Go.Sh.one b (lkL u g d e p0 cap0 vf vo vt vn vp vl va (.slice pl ls.length cl)) 155))) T ?_) ?_
 ·exact((ha.or' λb o ho=>(a1 b o ho).resolve_right id).or' λb o ho=>(a2 b o ho).resolve_right id).or' a3
 ·generalize hq:(((s.or s1).or s2).or (Go.Sh.one b (lkL u g d e p0 cap0 vf vo vt vn vp vl va (.slice pl ls.length cl)) 155))=q
  have l1:Le s1 q:=by rw[← hq];infer_instance
  have l2:Le s2 q:=by rw[← hq];infer_instance
  have l3:Le (Go.Sh.one b (lkL u g d e p0 cap0 vf vo vt vn vp vl va (.slice pl ls.length cl)) 155) q:=by rw[← hq];infer_instance
  have lq:Le q (r.or q):=inferInstance
  have l3:Le (Go.Sh.one b (lkL u g d e p0 cap0 vf vo vt vn vp vl va (.slice pl ls.length cl)) 155) (r.or q):=⟨λb o h=>lq.le b o (l3.le b o h)⟩
  have l1:Le s1 (r.or q):=⟨λb o h=>lq.le b o (l1.le b o h)⟩
  have l2:Le s2 (r.or q):=⟨λb o h=>lq.le b o (l2.le b o h)⟩
  have hgr:GrG (r.or q) _ g:=GrG.up hgr
  have hun:UnG (r.or q) _ u:=UnG.up hun
  obtain⟨po,co,vf',hE,_,_,hst,_,hfn⟩:=hun
  cases hE
  obtain⟨vo',vt',vn',vp',hE2,m1,m2,m3,m4⟩:=hgr
  cases hE2
  obtain⟨qf,capf,rfl,_,_⟩:=hfn.sl.shape
  obtain⟨qt,capt,rfl,_,_⟩:=m2.sl.shape
  obtain⟨qp,capp,rfl,_,_⟩:=m4.sl.shape
  refine⟨⟨p0,cap0,?_,hst⟩,⟨qf,capf,?_,hfn⟩,?_,⟨qt,capt,?_,m2⟩,⟨qp,capp,?_,m4⟩,?_,⟨pl,cl,?_,hs2.up' l2 λc x hx=>LnG.up hx⟩,?_⟩ <;>
   exact y9 (c:=lkL u g d e p0 cap0 (.slice qf u.fs.length capf) vo (.slice qt g.tys.length capt) vn (.slice qp g.pts.length capp) vl va (.slice pl ls.length cl)) (T:=155) rfl
section
variable {u:UnD} {g:GrD} {d:RgD} {e:Int} {ls:List LnD} {b:Nat} {w:World} {r:Gh} {K:Value→World→Prop}
theorem xH{y:Bool}(hr:Holds r w)(hL:LkG2 r b u g d e ls)(h:K (.int .i64 (if y=true then e else 2)) w):zd Tryz.prog Tryz.yg #[.pointer (some ⟨b,0,none⟩),.bool y] w K:=by
 refine Tryz.aaL ?_
 unfold Tryz.YX
 cases y with
 |false=>
  refine gp_ ?_
  exact h
 |true=>
  refine gp_ ?_
  refine c_f rfl ?_
  refine n_some ?_
  refine gp_ ?_
  refine zf (hL.er w hr) ?_
  exact h
theorem X6{q:Int}(hr:Holds r w)(hL:LkG2 r b u g d e ls)(h:K (.bool (decide (0≤q)&&decide (q<(g.pts.length:Int)))) w):zd Tryz.prog Tryz.xO #[.pointer (some ⟨b,0,none⟩),.int .i64 q] w K:=by
 refine Tryz.aaM ?_
 unfold Tryz.YY
 obtain⟨p,cap,hc,hs⟩:=hL.pts
 have hf:=hs.few
 have hf2:g.pts.length≤9223372036854775807:=hf
 have S:=St.start hr
 refine gp_ ?_
 refine zg (c:=decide (q<(g.pts.length:Int))) (λ_ K2 hK2=>?_) h
 refine n_some ?_
 refine gg_ ?_
 refine zf (S.at hc) ?_
 refine gg_ ?_
 exact hK2
theorem abT{q:Int}(hr:Holds r w)(hL:LkG2 r b u g d e ls)(hf:ls.length≤1000000)(h:K (.bool (decide (0≤q)&&decide (q<(ls.length:Int)))) w):zd Tryz.prog Tryz.qh #[.pointer (some ⟨b,0,none⟩),.int .i64 q] w K:=by
 refine Tryz.abs ?_
 unfold Tryz.X3
 obtain⟨p,cap,hc,hs⟩:=hL.lns
 have S:=St.start hr
 refine gp_ ?_
 refine zg (c:=decide (q<(ls.length:Int))) (λ_ K2 hK2=>?_) h
 refine n_some ?_
 refine gg_ ?_
 refine zf (S.at hc) ?_
 refine gg_ ?_
 exact hK2
theorem JK{p:PtD}{c:List Value}(hr:Holds r w)(hp:PtG r c p)(h:∀w',Ext w w'→K (.bool (decide (1≤p.op)&&decide (p.op≤8))) w'):zd Tryz.prog Tryz.jA #[.agg c.toArray] w K:=by
 refine Tryz.ad4 ?_
 unfold Tryz.JI
 obtain⟨x1,x2,x3,x4,x5,y1,y2,y3,y4,y5,rfl,hpg0⟩:=xm hp
 have S:=St.start hr
 refine S.box λb1 w1 S=>?_
 have S:StX noX w r w1 [.cell b1 (ptL p x1 x2 x3 x4 x5 y1 y2 y3 y4 y5) 96]:=S
 refine gg_ ?_
 refine zg (c:=decide (p.op≤8)) (λ_ K2 hK2=>by refine gg_ ?_;exact hK2) ?_
 exact h _ S.ext
def xh(p:PtD)(x:LnD):Bool:=if p.op=11 then decide (p.fr.l=x.pl.l)else(decide (1≤p.op)&&decide (p.op≤8))&&xA p.to x.pl
theorem X7{q:Int}{x:LnD}{c:List Value}(hr:Holds r w)(hL:LkG2 r b u g d e ls)(hx:LnG r c x)(hq0:0≤q)(hq:q.toNat<g.pts.length)(h:∀w',Ext w w'→K (.bool (xh g.pts[q.toNat] x)) w'):
  zd Tryz.prog Tryz.xk #[.pointer (some ⟨b,0,none⟩),.int .i64 q,.agg c.toArray] w K:=by
 refine Tryz.aaO ?_
 unfold Tryz.Y0
 have hx0:=hx
 obtain⟨vx,rfl,hxs⟩:=hx
 obtain⟨qx,cx,rfl,_,_⟩:=hxs.sl.shape
 obtain⟨pp,cpp,hc,hs⟩:=hL.pts
 obtain⟨bp,op,cp,hpE,hcp,hpg,hpo⟩:=hs.sl.get (by decide) hq
 generalize g.pts[q.toNat]=p at hpg h
 obtain⟨x1,x2,x3,x4,x5,y1,y2,y3,y4,y5,rfl,hpg0⟩:=xm hpg
 obtain⟨kto,ka,kb,kargs,kfr⟩:=js hpg0
 have S:=St.start hr
 refine S.box λb5 w1 S=>?_
 have S:StX noX w r w1 [.cell b5 [.int .i64 x.q,.int .i64 x.pl.l,.slice qx x.pl.ps.length cx,.bool x.mu,.int .i64 x.re] 82]:=S
 refine n_some ?_
 refine gg_ ?_
 refine zf (S.at hc) ?_
 rw[hpE]
 refine gg_ ?_
 refine zo (n:=21) hcp (λj v hj=>S.at (hpo j v hj)) ?_
 refine S.al λb7 w2 S=>?_
 refine S.stB (b:=b7) λw3 S=>?_
 have S:StX noX w r w3 [.cell b7 (ptL p x1 x2 x3 x4 x5 y1 y2 y3 y4 y5) 96,.cell b5 [.int .i64 x.q,.int .i64 x.pl.l,.slice qx x.pl.ps.length cx,.bool x.mu,.int .i64 x.re] 82]:=S
 refine gg_ ?_
 refine zh (λho=>?_) (λho=>?_)
 ·refine gg_ ?_
  have:=h _ S.ext
  rwa[xh,if_pos ho]at this
 ·refine S.ldB (b:=b7) ?_ rfl
  refine JK S.holds hpg0 λw4 e4=>?_
  have S:=S.go e4
  have hk:xh p x=((decide (1≤p.op)&&decide (p.op≤8))&&xA p.to x.pl):=by rw[xh,if_neg ho]
  rw[hk]at h
  refine c_b (λhy=>?_) (λhn=>?_)
  ·rw[hy,Bool.true_and]at h
   refine gg_ ?_
   refine S.ldN (b:=b7) (vs:=[.int .i64 p.to.l,.slice x1 p.to.ps.length y1]) ?_
   refine gg_ ?_
   refine S.ldN (b:=b5) (vs:=[.int .i64 x.pl.l,.slice qx x.pl.ps.length cx]) ?_
   refine jL S.holds kto (q:=x.pl) ⟨_,rfl,hxs⟩ λw5 e5=>?_
   exact h _ (S.go e5).ext
  ·have:=h _ S.ext
   rwa[hn,Bool.false_and]at this
theorem ae7{p:PtD}{x:LnD}{c c':List Value}(hr:Holds r w)(hp:PtG r c p)(hx:LnG r c' x)(h:∀w',Ext w w'→K (.bool (xh p x)) w'):zd Tryz.prog Tryz.ZQ #[.agg c.toArray,.agg c'.toArray] w K:=by
 refine Tryz.adY ?_
 unfold Tryz.JF
 obtain⟨vx,rfl,hxs⟩:=hx
 obtain⟨qx,cx,rfl,_,_⟩:=hxs.sl.shape
 obtain⟨x1,x2,x3,x4,x5,y1,y2,y3,y4,y5,rfl,hpg0⟩:=xm hp
 obtain⟨kto,ka,kb,kargs,kfr⟩:=js hpg0
 have S:=St.start hr
 refine S.box λb2 w1 S=>?_
 refine S.box λb3 w2 S=>?_
 have S:StX noX w r w2 [.cell b3 [.int .i64 x.q,.int .i64 x.pl.l,.slice qx x.pl.ps.length cx,.bool x.mu,.int .i64 x.re] 82,.cell b2 (ptL p x1 x2 x3 x4 x5 y1 y2 y3 y4 y5) 96]:=S
 refine gg_ ?_
 refine zh (λho=>?_) (λho=>?_)
 ·refine gg_ ?_
  have:=h _ S.ext
  rw[xh,if_pos ho]at this
  rw[show decide (x.pl.l=p.fr.l)=decide (p.fr.l=x.pl.l)by rw[decide_eq_decide];omega]
  exact this
 ·refine S.ldB (b:=b2) ?_ rfl
  refine QE S.holds hpg0 λw4 e4=>?_
  have S:=S.go e4
  have hk:xh p x=((decide (1≤p.op)&&decide (p.op≤8))&&xA p.to x.pl):=by rw[xh,if_neg ho]
  rw[hk]at h
  refine zr (c:=xA p.to x.pl) (λ_ K2 hK2=>?_) λw5 e5=>?_
  ·refine gg_ ?_
   refine S.ldN (b:=b2) (vs:=[.int .i64 p.to.l,.slice x1 p.to.ps.length y1]) ?_
   refine gg_ ?_
   refine S.ldN (b:=b3) (vs:=[.int .i64 x.pl.l,.slice qx x.pl.ps.length cx]) ?_
   refine ae4 S.holds kto (q:=x.pl) ⟨_,rfl,hxs⟩ λw5 e5=>hK2 _ e5
  exact h _ (S.go e5).ext
end
end
end Go.Proofs
namespace Go.Proofs
open Go.Sh Go.RowKit Go.BM
section
section
variable {u:UnD} {g:GrD} {d:RgD} {e:Int} {ls:List LnD} {b:Nat} {w:World} {r:Gh} {K:Value→World→Prop}
noncomputable def Z3(u:UnD)(g:GrD)(x:LnD)(a:AcD):Bool:=
 if(!a.wr && !x.mu)=true then false else if xA x.pl a.pl=true then true else if xA a.pl x.pl=true then
  (match g.tys[a.pl.l.toNat]? with|some t=>(abg u.ss [t] ⟨0,a.pl.ps⟩ ⟨0,x.pl.ps⟩ a.d).1|none=>false)
 else false
theorem VN{x:LnD}{a:AcD}{c c':List Value}(hr:Holds r w)(hL:LkG2 r b u g d e ls)(hx:LnG r c x)(ha:AcG r c' a)(h0:0≤x.pl.l)(h1:x.pl.l.toNat<g.tys.length)(h:∀w',Ext w w'→K (.bool (Z3 u g x a)) w'):
  zd Tryz.prog Tryz.ku #[.pointer (some ⟨b,0,none⟩),.agg c.toArray,.agg c'.toArray] w K:=by
 refine Tryz.VZ ?_
 unfold Tryz.Yq
 obtain⟨vx,rfl,hxs⟩:=hx
 obtain⟨qx,cx,rfl,_,_⟩:=hxs.sl.shape
 obtain⟨va,rfl,has⟩:=ha
 obtain⟨qa,ca,rfl,_,_⟩:=has.sl.shape
 obtain⟨p0,cap0,hss,hst⟩:=hL.ss
 obtain⟨qt,capt,hts,hty⟩:=hL.tys
 have hpx:PlG r [.int .i64 x.pl.l,.slice qx x.pl.ps.length cx] x.pl:=⟨_,rfl,hxs⟩
 have hpa:PlG r [.int .i64 a.pl.l,.slice qa a.pl.ps.length ca] a.pl:=⟨_,rfl,has⟩
 have S:=St.start hr
 refine S.box λb4 w1 S=>?_
 refine S.box λb5 w2 S=>?_
 have S:StX noX w r w2 [.cell b5 [.int .i64 a.pl.l,.slice qa a.pl.ps.length ca,.int .u8 a.d,.bool a.wr] 88,.cell b4 [.int .i64 x.q,.int .i64 x.pl.l,.slice qx x.pl.ps.length cx,.bool x.mu,.int .i64 x.re] 82]:=S
 refine gg_ ?_
 refine zg (c:=!x.mu) (λ_ K2 hK2=>by refine gg_ ?_;exact hK2) ?_
 refine c_b (λhb=>?_) (λhb=>?_)
 ·have:=h _ S.ext
  rwa[Z3,if_pos hb]at this
 rw[Z3,if_neg (by rw[hb];decide)]at h
 refine gg_ ?_
 refine S.ldN (b:=b4) (vs:=[.int .i64 x.pl.l,.slice qx x.pl.ps.length cx]) ?_
 refine gg_ ?_
 refine S.ldN (b:=b5) (vs:=[.int .i64 a.pl.l,.slice qa a.pl.ps.length ca]) ?_
 refine jL S.holds hpx hpa λw3 e3=>?_
 have S:=S.go e3
 refine c_b (λhp=>?_) (λhp=>?_)
 ·rw[if_pos hp]at h
  exact h _ S.ext
 rw[if_neg (by rw[hp];decide)]at h
 refine gg_ ?_
 refine S.ldN (b:=b5) (vs:=[.int .i64 a.pl.l,.slice qa a.pl.ps.length ca]) ?_
 refine gg_ ?_
 refine S.ldN (b:=b4) (vs:=[.int .i64 x.pl.l,.slice qx x.pl.ps.length cx]) ?_
 refine jL S.holds hpa hpx λw4 e4=>?_
 have S:=S.go e4
 refine gp_ ?_
 refine c_b (λhq=>?_) (λhq=>?_)
 ·rw[if_neg (by intro hh;rw[hh]at hq;cases hq)]at h
  exact h _ S.ext
 have hq:xA a.pl x.pl=true:=by cases hh:xA a.pl x.pl with|true=>rfl|false=>rw [hh]at hq;cases hq
 have hl:a.pl.l=x.pl.l:=by rw[xA]at hq;simp only[gba,gdt]at hq;exact hq.1
 have hlt:a.pl.l.toNat<g.tys.length:=by rw[hl];exact h1
 rw[if_pos hq,gqg hlt]at h
 have hg0:0≤a.pl.l:=by rw[hl];exact h0
 have htf:=hty.few
 have htf:g.tys.length≤9223372036854775807:=htf
 obtain⟨_,_,hE,_,hct⟩:=hty.sl.shape
 cases hE
 refine gg_ ?_
 have S:=S.go (Ext.drew _)
 refine zf (S.at hss) ?_
 refine gg_ ?_
 refine zf (S.at hts) ?_
 refine gg_ ?_
 have hlen:(a.pl.l+1).toNat-a.pl.l.toNat=[g.tys[a.pl.l.toNat]].length:=by show _=1;omega
 have hsub:=(vV hty.sl).sub (a:=a.pl.l.toNat) (n:=1) (cap:=capt) hct
 rw[aeT hlt]at hsub
 rw[hlen]
 generalize (if capt=a.pl.l.toNat then qt else qt.map (·.add (a.pl.l.toNat*5)))=qy at hsub⊢
 refine ae6 (p:=⟨0,a.pl.ps⟩) (q:=⟨0,x.pl.ps⟩) (c:=[.int .i64 0,.slice qa a.pl.ps.length ca]) (c':=[.int .i64 0,.slice qx x.pl.ps.length cx]) S.holds hst hsub (by simp[maxLen]) ⟨_,rfl,has⟩ ⟨_,rfl,hxs⟩ λw5 e5=>?_
 refine gp_ ?_
 refine gp_ ?_
 exact h _ (S.go e5).ext
theorem jM{W:Int}{ws:List (BitVec 64)}{k:Int}{c:List Value}(hr:Holds r w)(hx:RwbC r c (W,ws))(hk:0≤k)(hk2:k<64*ws.length)(hl:ws.length≤100000)
  (h:∀w',Ext w w'→K (.bool (bit ws k.toNat)) w'):zd Tryz.prog Tryz.ky #[.agg c.toArray,.int .i64 k] w K:=by
 refine Tryz.aiJ ?_
 unfold Tryz.ad3
 obtain⟨p,cap,rfl,hS⟩:=hx
 have hfew:ws.length≤9223372036854775807:=hS.few
 have S:=St.start hr
 refine S.box λb1 w1 S=>?_
 have S:StX noX w r w1 [.cell b1 [.int .i64 W,.slice p ws.length cap] 48]:=S
 have hlt:k.toNat/64<ws.length:=by omega
 obtain⟨b2,o2,rfl,_,hc⟩:=JD hS.sl hlt
 have hB:bit ws k.toNat=decide (((ws[k.toNat/64] >>> (k.toNat%64)) &&& BitVec.ofInt 64 1).toNat=(1:Int)):=by
  rw[bit,ggd,gqg hlt,Option.getD_some,Bool.eq_iff_iff,gdt,aiy]
 rw[hB]at h
 generalize ws[k.toNat/64]=x at hc h
 refine gg_ ?_
 refine zf (by rw[show (k/64).toNat=k.toNat/64 by omega];exact S.at hc) ?_
 refine gg_ ?_
 rw[show (k%64).toNat=k.toNat%64 by omega]
 exact h _ S.ext
theorem Q6{q:Int}(hr:Holds r w)(hL:LkG2 r b u g d e ls)(hq0:0≤q)(hq:q.toNat<g.pts.length)(h:∀v' w',Ext w w'→w'.ownsRow w.heap.size 3 1 v' (nextP g.pts[q.toNat]).length (ints (nextP g.pts[q.toNat]))→K v' w'):
  zd Tryz.prog Tryz.xZ #[.pointer (some ⟨b,0,none⟩),.int .i64 q] w K:=by
 refine Tryz.abu ?_
 unfold Tryz.X5
 obtain⟨pp,cpp,hc,hs⟩:=hL.pts
 obtain⟨bp,op,cp,hpE,hcp,hpg,hpo⟩:=hs.sl.get (by decide) hq
 generalize g.pts[q.toNat]=p at hpg h
 obtain⟨x1,x2,x3,x4,x5,y1,y2,y3,y4,y5,rfl,hpg0⟩:=xm hpg
 have S:=St.start hr
 refine n_some ?_
 refine gg_ ?_
 refine zf (S.at hc) ?_
 rw[hpE]
 refine gg_ ?_
 refine zo (n:=21) hcp (λj v hj=>S.at (hpo j v hj)) ?_
 refine S.al λb5 w2 S=>?_
 refine S.stB (b:=b5) λw3 S=>?_
 have S:StX noX w r w3 [.cell b5 (ptL p x1 x2 x3 x4 x5 y1 y2 y3 y4 y5) 96]:=S
 refine gg_ ?_
 refine zh (λh14=>?_) (λh14=>?_)
 ·have hnp:nextP p=[]:=by rw[nextP,if_pos h14]
  have S:=(S.drop b5).ownNil 3 1
  rw[hnp]at h
  exact h _ _ S.ext (S.give (.slice none 0 0))
 ·refine gg_ ?_
  refine zg (c:=decide (p.el≠p.nx)) (λ_ K2 hK2=>by refine gg_ ?_;exact hK2) ?_
  refine c_b (λhc=>?_) (λhc=>?_)
  ·simp only[gba,gdt]at hc
   have hnp:nextP p=[p.nx,p.el]:=by rw[nextP,if_neg h14,if_pos ⟨hc.1,λe=>hc.2 e.symm⟩]
   refine gg_ ?_
   refine S.lit (e:=3) (cs:=[.int .i64 p.nx,.int .i64 p.el]) (by kernel_rfl) λb9 w9 S=>?_
   have S:=(S.drop b5).toRow 2 1 rfl (by decide)
   rw[hnp]at h
   exact h _ _ S.ext (S.give (.slice (some ⟨b9,0,none⟩) 2 2))
  ·have hnp:nextP p=[p.nx]:=by
    simp only[Bool.and_eq_false_iff,decide_eq_false_iff_not]at hc
    rw[nextP,if_neg h14,if_neg (by rintro⟨h1,h2⟩;rcases hc with hc|hc;exact hc h1;exact hc λe=>h2 e.symm)]
   refine gg_ ?_
   refine S.lit (e:=3) (cs:=[.int .i64 p.nx]) (by kernel_rfl) λb9 w9 S=>?_
   have S:=(S.drop b5).toRow 1 1 rfl (by decide)
   rw[hnp]at h
   exact h _ _ S.ext (S.give (.slice (some ⟨b9,0,none⟩) 1 1))
end
end
end Go.Proofs
namespace Go.Proofs
open Go.Sh Go.RowKit
section
def xi(o:OpD):List AcD:=if X0 o=true then [⟨o.pl,3,decide (o.k=4)⟩]else []
def YN(n:Nat):List AcD:=(List.range n).map λi:Nat=>⟨⟨(i:Int)+1,[]⟩,2,true⟩
def yY(g:GrD)(p:PtD):List AcD:=
 if p.op=4 then [⟨p.fr,3,p.mu⟩]else if p.op=10∨p.op=11 then [⟨p.fr,2,true⟩]else if p.op=14 then⟨⟨0,[]⟩,3,true⟩::YN (g.tys.length-1)else []
noncomputable def vC(u:UnD)(g:GrD)(p:PtD):List AcD:=if acB p=true then [⟨p.to,if (yw u.ss (qB u.ss g.tys p.to)).1=true then 2 else 1,true⟩]else []
noncomputable def lksA(u:UnD)(g:GrD)(p:PtD):List AcD:=(p.a::p.b::p.args).flatMap xi++yY g p++vC u g p
structure LkH(g:GrD)(p:PtD):Prop where
 args:p.args.length≤1000
 ops:∀o∈p.a::p.b::p.args,X0 o=true→o.pl.ps.length≤1000000
 fr:p.op=4∨p.op=10∨p.op=11→p.fr.ps.length≤1000000
 ret:p.op=14→1≤g.tys.length
 tys:g.tys.length≤900000
 to':acB p=true→0≤p.to.l∧p.to.l.toNat<g.tys.length∧p.to.ps.length≤1000000
theorem X8{l:List OpD}:(l.flatMap xi).length≤l.length:=by
 induction l with
 |nil=>exact Nat.le_refl _
 |cons a l ih=>
  rw[List.flatMap_cons,gla,List.length_cons,xi]
  split
  ·rw[gls];omega
  ·rw[List.length_nil];omega
theorem X9{n:Nat}:(YN n).length=n:=by simp[YN]
theorem afN{n:Nat}:YN (n+1)=YN n++[⟨⟨(n:Int)+1,[]⟩,2,true⟩]:=by rw[YN,YN,List.range_succ,List.map_append];rfl
def LkJ(w0:World)(r:Gh)(b:Nat)(M:List Asr)(l:List AcD)(w:World):Prop:=
 ∃s v cs,Above w0 s∧RowOf 4 (AcG s) cs l∧StX noX w0 (r.or s) w (.cell b [v] 69::.row v 88 4 l.length cs::M)
abbrev aoG(b:Nat):Value:=.func (.func Tryz.ZC) #[] #[.pointer (some ⟨b,0,none⟩)]
theorem qO{w0 w:World}{r:Gh}{b:Nat}{M:List Asr}{l:List AcD}{a:AcD}{c:List Value}{K:Value→World→Prop}(hJ:LkJ w0 r b M l w)(hp:PlG r c a.pl)(hb:a.pl.ps.length≤1000000)(hl:l.length≤999999)
  (h:∀w',LkJ w0 r b M (l++[a]) w'→K (.tuple #[]) w'):zD Tryz.prog (aoG b) #[.agg c.toArray,.int .u8 a.d,.bool a.wr] w K:=by
 refine aoo (by kernel_rfl) ?_
 refine Tryz.Vg ?_
 unfold Tryz.ZI
 obtain⟨s,v,cs,ha,hR,S⟩:=hJ
 obtain⟨vp,rfl,hps⟩:=hp
 obtain⟨qa,ca,rfl,_,_⟩:=hps.sl.shape
 have hin:=ad5 hps
 refine S.box λb4 w1 S=>?_
 have S:=S.go (Ext.drew _)
 have S:StX noX w0 (r.or s) _ (.cell b4 [.int .i64 a.pl.l,.slice qa a.pl.ps.length ca] 80::.cell b [v] 69::.row v 88 4 l.length cs::M):=S
 refine S.ld (b:=b) ?_
 refine S.ldB (b:=b4) ?_ rfl
 refine Q5 S.holds ⟨_,rfl,hps.up' inferInstance λ_ _ h=>h⟩ hb λv3 w2 e2 h2=>⟨e2,?_⟩
 have S:=S.take e2 h2
 obtain⟨q3,c3,rfl,_⟩:=S.rowS v3
 obtain⟨s1,S,h1,_,a1⟩:=StX.doneRow (l:=a.pl.ps) (R:=xp) (sz:=1) S (Yn hin) (by decide) rfl
 have a1:Above w0 s1:=λb o ho=>(a1 b o ho).resolve_right id
 have S:=S.reGh
 have h1:SlB 1 s1 xp (.slice q3 a.pl.ps.length c3) a.pl.ps:=SlB.cells ⟨h1,by rw[maxLen];omega⟩
 refine zq (cs:=#[.int .i64 a.pl.l,.slice q3 a.pl.ps.length c3,.int .u8 a.d,.bool a.wr]) (by kernel_rfl) ?_
 refine S.litU (e:=88) (cs:=[.int .i64 a.pl.l,.slice q3 a.pl.ps.length c3,.int .u8 a.d,.bool a.wr]) (by kernel_rfl) λb5 w3 S=>?_
 refine S.ap (v:=v) (m':=1) (Sl.blk (S.blk b5)) (λv4 w4 S=>?_) (by omega)
 refine S.st (b:=b) (λw5 S=>?_) (by simp) (S.row1 v4)
 refine h _ ⟨s.or s1,v4,cs++[.int .i64 a.pl.l,.slice q3 a.pl.ps.length c3,.int .u8 a.d,.bool a.wr],ha.or' a1,(hR.mono λc x h=>AcG.up h).snoc rfl ⟨_,rfl,h1.up' inferInstance λ_ _ h=>h⟩,?_⟩
 have S:=(S.drop b5).drop b4
 rw[gla,gls]
 exact S
theorem anQ{x a b:Asr}{M:List Asr}:(a::b::x::M).Perm (x::a::b::M):=(List.Perm.cons _ (.swap _ _ _)).trans (.swap _ _ _)
theorem LkJ.tl{w0 w:World}{r:Gh}{b:Nat}{M:List Asr}{x:Asr}{l:List AcD}(h:LkJ w0 r b (x::M) l w):LkJ w0 r b M l w:=by
 obtain⟨s,v,cs,ha,hR,S⟩:=h
 exact⟨s,v,cs,ha,hR,S.less (λb o h=>h) (.cons_cons _ (.cons_cons _ (List.sublist_cons_self _ _)))⟩
theorem LkJ.hold{w0 w:World}{r:Gh}{b:Nat}{M:List Asr}{l:List AcD}(h:LkJ w0 r b M l w):Holds r w:=by
 obtain⟨s,v,cs,ha,hR,S⟩:=h
 exact S.holds.le
theorem aaS{u:UnD}{g:GrD}{d:RgD}{e:Int}{ls:List LnD}{b:Nat}{p:PtD}{q:Int}{w:World}{r:Gh}{K:Value→World→Prop}(hr:Holds r w)(hL:LkG2 r b u g d e ls)(hq0:0≤q)(hq:q.toNat<g.pts.length)(hpe:g.pts[q.toNat]=p)(hH:LkH g p)
  (h:∀v' s w',Ext w w'→New w s w'→SlG 4 s (AcG s) v' (lksA u g p)→K v' w'):zd Tryz.prog Tryz.kI #[.pointer (some ⟨b,0,none⟩),.int .i64 q] w K:=by
 refine Tryz.aaN ?_
 unfold Tryz.YZ
 obtain⟨pp,cpp,hc,hs⟩:=hL.pts
 obtain⟨p0,cap0,hss,hst⟩:=hL.ss
 obtain⟨qt,capt,hts,hty⟩:=hL.tys
 obtain⟨bp,op,cp,hpE,hcp,hpg,hpo⟩:=hs.sl.get (by decide) hq
 rw[hpe]at hpg
 obtain⟨z1,z2,z3,z4,z5,t1,t2,t3,t4,t5,rfl,hp0⟩:=xm hpg
 obtain⟨kto,ka,kb,kl,kf⟩:=js hp0
 have S:=St.start hr
 refine gg_ ?_
 refine zf (S.at hc) ?_
 rw[hpE]
 refine gg_ ?_
 refine zo (n:=21) hcp (λj v hj=>S.at (hpo j v hj)) ?_
 refine S.al λb5 w1 S=>?_
 refine S.stB (b:=b5) λw2 S=>?_
 refine S.al λb6 w3 S=>?_
 have S:StX noX w r w3 [.cell b6 [.slice none 0 0] 69,.cell b5 (ptL p z1 z2 z3 z4 z5 t1 t2 t3 t4 t5) 96]:=S
 refine gg_ ?_
 refine S.ldN (b:=b5) (vs:=[.int .u8 p.a.k,.int .i64 p.a.n,.int .i64 p.a.pl.l,.slice z2 p.a.pl.ps.length t2]) ?_
 refine gg_ ?_
 refine S.ldN (b:=b5) (vs:=[.int .u8 p.b.k,.int .i64 p.b.n,.int .i64 p.b.pl.l,.slice z3 p.b.pl.ps.length t3]) ?_
 refine S.lit (e:=93) (cs:=[.int .u8 p.a.k,.int .i64 p.a.n,.int .i64 p.a.pl.l,.slice z2 p.a.pl.ps.length t2,.int .u8 p.b.k,.int .i64 p.b.n,.int .i64 p.b.pl.l,.slice z3 p.b.pl.ps.length t3]) (by kernel_rfl) λb7 w4 S=>?_
 have S:=S.toRow 2 4 rfl (by decide)
 refine gg_ ?_
 obtain⟨xs,hxr,hxs⟩:=ai2 (by decide) kl.sl
 obtain⟨_,_,hE,hq4,_⟩:=kl.sl.shape
 cases hE
 have hargs:=hH.args
 refine S.ap (v:=.slice (some ⟨b7,0,none⟩) 2 2) (S.at hxs) (λv24 w5 S=>?_) (by omega) hxr.1 hq4 (adG hxr (by decide) λc x hx=>ai3 hx)
 have hrow:RowOf 4 (OpG r) ([.int .u8 p.a.k,.int .i64 p.a.n,.int .i64 p.a.pl.l,.slice z2 p.a.pl.ps.length t2,.int .u8 p.b.k,.int .i64 p.b.n,.int .i64 p.b.pl.l,.slice z3 p.b.pl.ps.length t3]++xs) (p.a::p.b::p.args):=
  RowOf.app (l:=[p.a,p.b]) (yI (c:=[.int .u8 p.a.k,.int .i64 p.a.n,.int .i64 p.a.pl.l,.slice z2 p.a.pl.ps.length t2]) rfl ka (y8 rfl kb)) hxr
 obtain⟨s5,T,hs5,_,ha5⟩:=S.doneRow hrow (by decide) (by simp;omega)
 repeat clear S
 have ha5:Above w s5:=λb o ho=>(ha5 b o ho).resolve_right id
 obtain⟨q5,c5,rfl,_,_⟩:=hs5.shape
 have hs5:SlG 4 (r.or s5) (OpG (r.or s5)) (.slice q5 (p.a::p.b::p.args).length c5) (p.a::p.b::p.args):=hs5.up' inferInstance λ_ _ h=>OpG.up h
 have hol:(p.a::p.b::p.args).length≤1002:=by simp;omega
 have hin:=hH.ops
 have hJ:LkJ w (r.or s5) b6 [.cell b5 (ptL p z1 z2 z3 z4 z5 t1 t2 t3 t4 t5) 96] [] w5:=by
  refine⟨nothing,.slice none 0 0,[],Above.no,RowOf.nil,?_⟩
  have T:=T.ownNil 88 4
  have T:=T.permO (.swap _ _ _)
  exact T.less (λb o h=>Or.elim h id λh=>h.elim) (List.Sublist.refl _)
 clear T
 have hLL:lksA u g p=(p.a::p.b::p.args).flatMap xi++yY g p++vC u g p:=rfl
 rw[hLL]at h
 clear hLL hrow hxr hxs
 generalize p.a::p.b::p.args=ops at hs5 hol hin h
 refine gg_ ?_
 refine zj (ι:=Nat) (λi=>[.int .i64 (i:Nat)]) (λi w'=>i≤ops.length∧LkJ w (r.or s5) b6 [.cell b5 (ptL p z1 z2 z3 z4 z5 t1 t2 t3 t4 t5) 96] ((ops.take i).flatMap xi) w') (λi=>ops.length-i) 0 rfl ⟨gzl _,hJ⟩ ?_
 clear hJ
 rintro i d w6 ⟨hi,hJ⟩ K6 hK6
 simp only[gdz]
 refine gg_ ?_
 refine zh (λhlti=>?_) (λhge=>?_)
 ·have hlti:i<ops.length:=by omega
  obtain⟨bo,oo,co,hqo,hcl,hoc,hoo⟩:=hs5.get (by decide) hlti
  have hnx:(ops.take (i+1)).flatMap xi=(ops.take i).flatMap xi++xi ops[i]:=by rw[List.take_succ_eq_append_getElem hlti,List.flatMap_append,List.flatMap_singleton]
  have hino:=hin ops[i] (gem hlti)
  have hfew:=X8 (l:=ops.take i)
  rw[List.length_take]at hfew
  generalize ops[i]=o at hoc hnx hino
  obtain⟨qo,ko,rfl⟩:=aeI hoc
  obtain⟨_,hE,hops⟩:=hoc
  cases hE
  cases hqo
  refine zk (λx w'=>LkJ w (r.or s5) b6 [.cell b5 (ptL p z1 z2 z3 z4 z5 t1 t2 t3 t4 t5) 96] ((ops.take (i+1)).flatMap xi) w') (λK10 hK10=>?_) ?_
  ·obtain⟨s,v,cs,ha,hR,S⟩:=hJ
   refine gg_ ?_
   refine zo (n:=4) rfl (λj v hj=>by rw[tnc];exact S.at (Ob.up (s:=(r.or s5).or s) (hoo j v hj))) ?_
   refine S.al λb9 w7 S=>?_
   refine S.stB (b:=b9) λw8 S=>?_
   have S:StX noX w ((r.or s5).or s) w8 (.cell b9 [.int .u8 o.k,.int .i64 o.n,.int .i64 o.pl.l,.slice qo o.pl.ps.length ko] 93::.cell b6 [v] 69::.row v 88 4 ((ops.take i).flatMap xi).length cs::[.cell b5 (ptL p z1 z2 z3 z4 z5 t1 t2 t3 t4 t5) 96]):=S
   refine gg_ ?_
   refine zn (c:=decide (o.k=4)) (λ_ K2 hK2=>by refine gg_ ?_;exact hK2) ?_
   refine c_b (λhb=>?_) (λhb=>?_)
   ·have hb:X0 o=true:=hb
    refine gg_ ?_
    refine S.ldN (b:=b9) (vs:=[.int .i64 o.pl.l,.slice qo o.pl.ps.length ko]) ?_
    refine gg_ ?_
    have J:LkJ w (r.or s5) b6 (.cell b9 [.int .u8 o.k,.int .i64 o.n,.int .i64 o.pl.l,.slice qo o.pl.ps.length ko] 93::[.cell b5 (ptL p z1 z2 z3 z4 z5 t1 t2 t3 t4 t5) 96]) ((ops.take i).flatMap xi) w8:=⟨s,v,cs,ha,hR,S.permO anQ⟩
    refine qO (a:=⟨o.pl,3,decide (o.k=4)⟩) J ⟨_,rfl,hops⟩ (hino hb) (by omega) λw9 J=>?_
    refine hK10 _ _ ?_
    rw[hnx,xi,if_pos hb]
    exact J.tl
   ·have hb:X0 o=false:=hb
    refine hK10 _ _ ?_
    rw[hnx,xi,if_neg (by rw[hb];decide),List.append_nil]
    exact⟨s,v,cs,ha,hR,S.tl⟩
  ·clear hJ
   rintro _ w10 J d
   refine gg_ ?_
   exact hK6 (i+1) _ ⟨hlti,J⟩ (by omega)
 have hie:i=ops.length:=by omega
 subst hie
 clear hK6 K6 hge hi d
 rw[List.take_length]at hJ
 have hA:(ops.flatMap xi).length≤1002:=Nat.le_trans X8 hol
 generalize ops.flatMap xi=A at hJ hA h
 clear hs5 hin hol
 have hfr:PlG (r.or s5) [.int .i64 p.fr.l,.slice z5 p.fr.ps.length t5] p.fr:=kf.up
 have hto:PlG (r.or s5) [.int .i64 p.to.l,.slice z1 p.to.ps.length t1] p.to:=kto.up
 have hno:PlG (r.or s5) [.int .i64 0,.slice none 0 0] ⟨0,[]⟩:=⟨_,rfl,SlG.nil,gzl _⟩
 have htl:=hH.tys
 refine zk (λx w'=>LkJ w (r.or s5) b6 [.cell b5 (ptL p z1 z2 z3 z4 z5 t1 t2 t3 t4 t5) 96] (A++yY g p) w') (λK21 hK21=>?_) ?_
 ·obtain⟨s,v,cs,ha,hR,S⟩:=id hJ
  refine gg_ ?_
  refine zh (λh4=>?_) (λh4=>?_)
  ·have hsw:yY g p=[⟨p.fr,3,p.mu⟩]:=by rw[yY,if_pos h4]
   rw[hsw]at hK21
   refine gg_ ?_
   refine S.ldN (b:=b5) (vs:=[.int .i64 p.fr.l,.slice z5 p.fr.ps.length t5]) ?_
   refine gg_ ?_
   refine qO (a:=⟨p.fr,3,p.mu⟩) hJ hfr (hH.fr (.inl h4)) (by omega) λw9 J=>?_
   exact hK21 _ _ J
  refine gg_ ?_
  refine zk (λx w'=>x=[.bool (decide (p.op=10)||decide (p.op=11))]∧w'=w6) (λK26 hK26=>?_) ?_
  ·refine gg_ ?_
   refine zh (λh10=>?_) (λh10=>?_)
   ·refine hK26 _ _ ⟨?_,rfl⟩
    rw[gde h10];rfl
   ·refine gg_ ?_
    refine hK26 _ _ ⟨?_,rfl⟩
    rw[decide_eq_false h10];rfl
  rintro _ _ ⟨rfl,rfl⟩ d
  rw[gdz]
  refine c_b (λh1=>?_) (λh1=>?_)
  ·have h1:p.op=10∨p.op=11:=by simpa using h1
   have hsw:yY g p=[⟨p.fr,2,true⟩]:=by rw[yY,if_neg h4,if_pos h1]
   rw[hsw]at hK21
   refine gg_ ?_
   refine S.ldN (b:=b5) (vs:=[.int .i64 p.fr.l,.slice z5 p.fr.ps.length t5]) ?_
   refine gg_ ?_
   refine qO (a:=⟨p.fr,2,true⟩) hJ hfr (hH.fr (.inr h1)) (by omega) λw9 J=>?_
   exact hK21 _ _ J
  have h1:¬(p.op=10∨p.op=11):=by simpa using h1
  refine gg_ ?_
  refine zh (λh14=>?_) (λh14=>?_)
  ·have hsw:yY g p=⟨⟨0,[]⟩,3,true⟩::YN (g.tys.length-1):=by rw[yY,if_neg h4,if_neg h1,if_pos h14]
   rw[hsw]at hK21
   have hty1:=hH.ret h14
   refine gg_ ?_
   refine qO (a:=⟨⟨0,[]⟩,3,true⟩) hJ hno (by decide) (by omega) λw9 J=>?_
   refine gg_ ?_
   refine zf (hts.up (s:=r.or s5) _ J.hold) ?_
   have hct:g.tys.length≤capt:=by obtain⟨_,_,hE,_,hct⟩:=hty.sl.shape;cases hE;exact hct
   refine gg_ ?_
   refine zj (ι:=Nat) (λi=>[.int .i64 (i:Nat)]) (λi w'=>i≤g.tys.length-1∧LkJ w (r.or s5) b6 [.cell b5 (ptL p z1 z2 z3 z4 z5 t1 t2 t3 t4 t5) 96] (A++(⟨⟨0,[]⟩,3,true⟩::YN i)) w') (λi=>g.tys.length-1-i) 0 rfl ⟨gzl _,J⟩ ?_
   clear J hJ S
   rintro i d2 w10 ⟨hi,J⟩ K5 hK5
   simp only[gdz]
   refine gg_ ?_
   refine zh (λhlti=>?_) (λhge=>?_)
   ·have hlti:i<g.tys.length-1:=by omega
    refine gg_ ?_
    have hli:=X9 (n:=i)
    refine qO (a:=⟨⟨(i:Int)+1,[]⟩,2,true⟩) J ⟨_,rfl,SlG.nil,gzl _⟩ (gzl _) (by rw[gla,List.length_cons];omega) λw11 J=>?_
    refine gg_ ?_
    refine hK5 (i+1) _ ⟨hlti,?_⟩ (by omega)
    rw[afN]
    simpa only[List.append_assoc,List.cons_append]using J
   ·have hie:i=g.tys.length-1:=by omega
    rw[hie]at J
    exact hK21 _ _ J
  ·have hsw:yY g p=[]:=by rw[yY,if_neg h4,if_neg h1,if_neg h14]
   rw[hsw,List.append_nil]at hK21
   exact hK21 _ _ hJ
 clear hJ
 rintro _ w7 J d
 have hsl:(yY g p).length≤900000:=by
  rw[yY]
  split
  ·simp
  ·split
   ·simp
   ·split
    ·rw[List.length_cons,X9];omega
    ·simp
 have hB:(A++yY g p).length≤901002:=by rw[gla];omega
 generalize A++yY g p=B at J hB h
 clear hno hfr hA
 refine zk (λx w'=>LkJ w (r.or s5) b6 [.cell b5 (ptL p z1 z2 z3 z4 z5 t1 t2 t3 t4 t5) 96] (B++vC u g p) w') (λK37 hK37=>?_) ?_
 ·have hp5:PtG (r.or s5) (ptL p z1 z2 z3 z4 z5 t1 t2 t3 t4 t5) p:=PtG.up hp0
  obtain⟨s,v,cs,ha,hR,S⟩:=J
  refine S.ldB (b:=b5) ?_ rfl
  refine JK (S.holds.le (h:=inferInstance)) hp5 λw8 e8=>?_
  have S:=S.go e8
  have hag:(decide (1≤p.op)&&decide (p.op≤8))=acB p:=rfl
  rw[hag]
  refine c_b (λhy=>?_) (λhn=>?_)
  ·obtain⟨g0,g1,g2⟩:=hH.to' hy
   have hT:qB u.ss g.tys p.to=(yx u.ss [g.tys[p.to.l.toNat]] ⟨0,p.to.ps⟩).1:=by rw[qB,ggd,gqg g1];rfl
   have hasA:vC u g p=[⟨p.to,if (yw u.ss (qB u.ss g.tys p.to)).1=true then 2 else 1,true⟩]:=by rw[vC,if_pos hy]
   rw[hasA]at hK37
   rw[hT]at hK37
   have S:=S.go (Ext.drew _)
   have hp2:PlG ((r.or s5).or s) [.int .i64 0,.slice z1 p.to.ps.length t1] ⟨0,p.to.ps⟩:=by
    obtain⟨_,hE,hl⟩:=hto
    cases hE
    exact⟨_,rfl,hl.up' inferInstance λ_ _ h=>h⟩
   have hct:g.tys.length≤capt:=by obtain⟨_,_,hE,_,hct⟩:=hty.sl.shape;cases hE;exact hct
   have hsub:=(vV hty.sl).sub (a:=p.to.l.toNat) (n:=1) (cap:=capt) hct
   rw[aeT g1]at hsub
   refine zk (λx w'=>∃bt p' cap' sT,x=[.pointer (some ⟨bt,0,none⟩)]∧TyG sT (tyV (yx u.ss [g.tys[p.to.l.toNat]] ⟨0,p.to.ps⟩).1 p' cap') (yx u.ss [g.tys[p.to.l.toNat]] ⟨0,p.to.ps⟩).1∧Above w s∧
    StX noX w (((r.or s5).or s).or sT) w' (.cell bt (tyL (yx u.ss [g.tys[p.to.l.toNat]] ⟨0,p.to.ps⟩).1 p' cap') 43::.cell b6 [v] 69::.row v 88 4 B.length cs::[.cell b5 (ptL p z1 z2 z3 z4 z5 t1 t2 t3 t4 t5) 96])) (λK42 hK42=>?_) ?_
   ·refine gg_ ?_
    refine zf (S.at (hss.up (s:=(r.or s5).or s))) ?_
    refine gg_ ?_
    refine zf (S.at (hts.up (s:=(r.or s5).or s))) ?_
    refine gg_ ?_
    have hlen:(p.to.l+1).toNat-p.to.l.toNat=[g.tys[p.to.l.toNat]].length:=by show _=1;omega
    rw[hlen]
    generalize (if capt=p.to.l.toNat then qt else qt.map (·.add (p.to.l.toNat*5)))=qx at hsub⊢
    have hst2:StG ((r.or s5).or s) p0 u.ss:=RepS.up (RepS.up (s:=r.or s5) hst)
    have hsub2:TysG ((r.or s5).or s) qx [g.tys[p.to.l.toNat]]:=TysG.up (TysG.up (t:=r.or s5) hsub)
    refine⟨?_,?_⟩
    ·refine aas (p:=⟨0,p.to.ps⟩) S.holds hst2 hsub2 (by simp[maxLen]) hp2 λv' sn w9 e9 n9 ht _=>?_
     obtain⟨S,_,hab⟩:=S.tell e9 n9
     have ht0:=ht
     obtain⟨p',cap',rfl,_⟩:=ht
     refine gS_ ?_
     refine S.alU λbt w10 S=>?_
     refine S.stB (b:=bt) λw11 S=>?_
     exact hK42 _ _ ⟨bt,p',cap',sn,rfl,ht0,ha,S⟩
    ·refine S.alU λbt w10 S=>?_
     refine aas (p:=⟨0,p.to.ps⟩) S.holds hst2 hsub2 (by simp[maxLen]) hp2 λv' sn w9 e9 n9 ht _=>?_
     obtain⟨S,_,hab⟩:=S.tell e9 n9
     have ht0:=ht
     obtain⟨p',cap',rfl,_⟩:=ht
     refine gS_ ?_
     refine S.stB (b:=bt) λw11 S=>?_
     exact hK42 _ _ ⟨bt,p',cap',sn,rfl,ht0,ha,S⟩
   ·clear S
    rintro _ w12 ⟨bt,p',cap',sT,rfl,ht,ha,S⟩ d
    generalize (yx u.ss [g.tys[p.to.l.toNat]] ⟨0,p.to.ps⟩).1=T at ht S hK37
    rw[gdz]
    refine zk (λx w'=>x=[.int .u8 (if(yw u.ss T).1=true then 2 else 1)]∧StX noX w (((r.or s5).or s).or sT) w' (.cell bt (tyL T p' cap') 43::.cell b6 [v] 69::.row v 88 4 B.length cs::[.cell b5 (ptL p z1 z2 z3 z4 z5 t1 t2 t3 t4 t5) 96])) (λK56 hK56=>?_) ?_
    ·have S:=S.go (Ext.drew _)
     refine gg_ ?_
     refine zf (S.at (hss.up (s:=((r.or s5).or s).or sT))) ?_
     refine S.ldB (b:=bt) ?_ rfl
     have hst2:StG (((r.or s5).or s).or sT) p0 u.ss:=RepS.up (RepS.up (s:=(r.or s5).or s) (RepS.up (s:=r.or s5) hst))
     refine Vx S.holds hst2 (TyG.up ht) λw13 e13=>?_
     have S:=S.go e13
     refine gp_ ?_
     refine gp_ ?_
     refine c_b (λhb=>?_) (λhb=>?_)
     ·refine hK56 _ _ ⟨?_,S⟩
      rw[if_pos hb]
     ·refine hK56 _ _ ⟨?_,S⟩
      rw[if_neg (by rw[hb];decide)]
    ·clear S
     rintro _ w14 ⟨rfl,S⟩ d
     rw[gdz]
     refine gg_ ?_
     refine S.ldN (b:=b5) (vs:=[.int .i64 p.to.l,.slice z1 p.to.ps.length t1]) ?_
     have J:LkJ w ((r.or s5).or sT) b6 (.cell bt (tyL T p' cap') 43::[.cell b5 (ptL p z1 z2 z3 z4 z5 t1 t2 t3 t4 t5) 96]) B w14:=by
      refine⟨s,v,cs,ha,hR,(S.permO anQ).less (λb o h=>Or.elim h (λh=>Or.elim h (λh=>.inl (.inl h)) .inr) λh=>.inl (.inr h)) (List.Sublist.refl _)⟩
     refine qO (a:=⟨p.to,if (yw u.ss T).1=true then 2 else 1,true⟩) J (hto.up (s:=(r.or s5).or sT)) g2 (by omega) λw15 J=>?_
     refine hK37 _ _ ?_
     obtain⟨s2,v2,cs2,ha2,hR2,S2⟩:=J.tl
     exact⟨s2,v2,cs2,ha2,hR2,S2.less (λb o h=>Or.elim h (λh=>.inl (.inl h)) .inr) (List.Sublist.refl _)⟩
  ·refine hK37 _ _ ?_
   rw[vC,if_neg (by rw[hn];decide),List.append_nil]
   exact⟨s,v,cs,ha,hR,S⟩
 ·clear J
  rintro _ w9 ⟨s,v,cs,ha,hR,S⟩ d
  refine S.ld (b:=b6) ?_
  have S:=S.permO (.swap _ _ _)
  obtain⟨s9,S,hs9,_,a9⟩:=S.doneRow hR (by decide) rfl
  have a9:Above w s9:=λb o ho=>(a9 b o ho).resolve_right id
  have T:StX noX w (r.or ((s5.or s).or s9)) w9 []:=S.less (λb o h=>Or.elim h (λh=>.inl (.inl (.inl h))) λh=>Or.elim h (λh=>Or.elim h (λh=>.inl (.inl (.inr h))) λh=>.inl (.inr h)) .inr) (List.nil_sublist _)
  exact h v ((s5.or s).or s9) w9 T.ext (StX.newOf T ((ha5.or' ha).or' a9)) (hs9.up' inferInstance λ_ _ h=>AcG.up h)
theorem ad7{u:UnD}{g:GrD}{k:Nat}{p:PtD}(hM:MayU u)(hH:HeadU u k g)(hp:zG u g p=true):LkH g p:=by
 have h5:=hH.ty512
 refine⟨alJ hM hp,λo ho h1=>?_,λho=>?_,λ_=>?_,by omega,λha=>?_⟩
 ·have hk:o.k=3∨o.k=4:=by rw[X0,Bool.or_eq_true,gdt,gdt]at h1;exact h1
  have hg:=akD hp o (by
   rw[ahD,List.mem_filter,ajD,gdt]
   exact⟨ho,by omega⟩)
  have:=qA (amW hg h1).1
  omega
 ·have:=qA (acD hp ho)
  omega
 ·have h1:=hH.pn0;have h2:=hH.pn1
  omega
 ·rw[acB,gba,gdt,gdt]at ha
  have h0:=ahC hp ha
  have h1:=ajR hM hH h0
  have h2:=qA h0
  exact⟨h1.l0,by rw[← (ZZ (u:=u)).1];exact h1.l1,by omega⟩
noncomputable def zV(u:UnD)(fn:Int)(ok:Bool):Int:=if isU u fn (-1)=true∧ok=true then lkE u fn else 2
theorem anR{u:UnD}{fn:Int}(h:isU u fn (-1)=false):lkE u fn=2:=by
 rw[lkE,adE h];rfl
structure IsF(u:UnD)(fn:Int)(g:GrD):Prop where
 is:isU u fn (-1)=true
 may:MayU u
 at':u.fs[fn.toNat]? = some g
 fn0:0≤fn
 head:HeadU u fn.toNat g
 pts:∀p∈g.pts,zG u g p=true
theorem isF{u:UnD}{fn:Int}{g:GrD}(hi:isU u fn (-1)=true)(hg:u.fs[fn.toNat]? = some g):IsF u fn g:=by
 obtain⟨hM,hf0,hlt,_,_⟩:=xL hi
 have hge:u.fs[fn.toNat]=g:=(List.getElem?_eq_some_iff.1 hg).2
 have hH:=hM.hd hlt
 have hpt:=hM.pts _ (gem hlt)
 rw[hge]at hH hpt
 exact⟨hi,hM,hg,hf0,hH,hpt⟩
section
variable {u:UnD} {fn q:Int} {v:Value} {w:World} {r:Gh} {K:Value→World→Prop}
noncomputable def yq(u:UnD)(fn q:Int):Bool:=match u.fs[fn.toNat]? with
 |some g=>decide (0≤q)&&decide (q<(g.pts.length:Int))
 |none=>false
theorem aaT(hr:Holds r w)(hu:UnG r v u)
  (h0:zV u fn (yq u fn q)≠0→∀w',Ext w w'→K (.tuple #[.slice none 0 0,.int .i64 (zV u fn (yq u fn q))]) w')
  (h1:zV u fn (yq u fn q)=0→∀g p v' s w',IsF u fn g→0≤q→g.pts[q.toNat]? = some p→Ext w w'→New w s w'→SlG 4 s (AcG s) v' (lksA u g p)→K (.tuple #[v',.int .i64 0]) w'):zd Tryz.prog Tryz.jl #[v,.int .i64 fn,.int .i64 q] w K:=by
 refine Tryz.ags ?_
 unfold Tryz.aaJ
 obtain⟨p0,cap0,vf,rfl,b1,b2,b3,b4,b5⟩:=id hu
 have S:=St.start hr
 refine S.box λb3 w1 S=>?_
 have S:StX noX w r w1 [.cell b3 [.slice p0 u.ss.length cap0,vf,.int .i64 u.mn] 25]:=S
 refine S.ldB (b:=b3) ?_ rfl
 refine ju S.holds hu (λhi w2 e2=>?_) λhi g b s w2 hg e2 n2 hL=>?_
 ·have S:=S.go e2
  refine gp_ ?_
  refine gp_ ?_
  have hE:zV u fn (yq u fn q)=2:=by rw[zV,if_neg (by rw[hi];simp)]
  rw[hE]at h0
  refine zk (λx w'=>x=[.int .i64 2]∧w'=w2) (λK3 hK3=>?_) ?_
  ·refine gp_ ?_
   refine c_f rfl ?_
   exact hK3 _ _ ⟨rfl,rfl⟩
  rintro _ _ ⟨rfl,rfl⟩ d
  rw[gdz]
  refine gp_ ?_
  refine c_t rfl ?_
  exact h0 (by decide) _ S.ext
 ·obtain⟨S,_,ha⟩:=S.tell e2 n2
  have F:=isF hi hg
  have hP:yq u fn q=(decide (0≤q)&&decide (q<(g.pts.length:Int))):=by rw[yq,hg]
  refine gp_ ?_
  refine gp_ ?_
  refine zk (λx w'=>x=[.int .i64 (zV u fn (yq u fn q))]∧w'=w2) (λK3 hK3=>?_) ?_
  ·refine gp_ ?_
   refine c_t rfl ?_
   refine X6 S.holds hL ?_
   refine xH S.holds hL ?_
   refine hK3 _ _ ⟨?_,rfl⟩
   rw[zV,hP,hi]
   simp only[true_and]
  rintro _ _ ⟨rfl,rfl⟩ d
  rw[gdz]
  refine gp_ ?_
  refine zh (λhne=>?_) (λhe=>?_)
  ·exact h0 hne _ S.ext
  ·have he:zV u fn (yq u fn q)=0:=by omega
   have hq:0≤q∧q.toNat<g.pts.length:=by
    cases hh:yq u fn q with
    |false=>rw [hh,zV,if_neg (by simp)]at he;cases he
    |true=>rw [hP,gba,gdt,gdt]at hh;omega
   have hpm:=F.pts _ (gem hq.2)
   refine aaS S.holds hL hq.1 hq.2 rfl (ad7 F.may F.head hpm) λv' s2 w4 e4 n4 hs=>?_
   obtain⟨S,_,ha4⟩:=S.tell e4 n4
   rw[he]
   exact h1 he g g.pts[q.toNat] v' s2 w4 F hq.1 (gqg hq.2) S.ext (StX.newOf S ha4) hs
theorem aaU(hr:Holds r w)(hu:UnG r v u)
  (h0:zV u fn (yq u fn q)≠0→∀w',Ext w w'→K (.tuple #[.slice none 0 0,.int .i64 (zV u fn (yq u fn q))]) w')
  (h1:zV u fn (yq u fn q)=0→∀g p v' s w',IsF u fn g→0≤q→g.pts[q.toNat]? = some p→Ext w w'→New w s w'→SlG 1 s yz v' (mkd ((lkS u fn g).map (xh p)))→K (.tuple #[v',.int .i64 0]) w'):zd Tryz.prog Tryz.jm #[v,.int .i64 fn,.int .i64 q] w K:=by
 refine Tryz.agt ?_
 unfold Tryz.aaK
 obtain⟨p0,cap0,vf,rfl,b1,b2,b3,b4,b5⟩:=id hu
 have S:=St.start hr
 refine S.box λb3 w1 S=>?_
 have S:StX noX w r w1 [.cell b3 [.slice p0 u.ss.length cap0,vf,.int .i64 u.mn] 25]:=S
 refine S.ldB (b:=b3) ?_ rfl
 refine ju S.holds hu (λhi w2 e2=>?_) λhi g b s w2 hg e2 n2 hL=>?_
 ·have S:=S.go e2
  refine gp_ ?_
  refine gp_ ?_
  have hE:zV u fn (yq u fn q)=2:=by rw[zV,if_neg (by rw[hi];simp)]
  rw[hE]at h0
  refine zk (λx w'=>x=[.int .i64 2]∧w'=w2) (λK3 hK3=>?_) ?_
  ·refine gp_ ?_
   refine c_f rfl ?_
   exact hK3 _ _ ⟨rfl,rfl⟩
  rintro _ _ ⟨rfl,rfl⟩ d
  rw[gdz]
  refine gp_ ?_
  refine c_t rfl ?_
  exact h0 (by decide) _ S.ext
 ·obtain⟨S,_,ha⟩:=S.tell e2 n2
  have F:=isF hi hg
  have hP:yq u fn q=(decide (0≤q)&&decide (q<(g.pts.length:Int))):=by rw[yq,hg]
  refine gp_ ?_
  refine gp_ ?_
  refine zk (λx w'=>x=[.int .i64 (zV u fn (yq u fn q))]∧w'=w2) (λK3 hK3=>?_) ?_
  ·refine gp_ ?_
   refine c_t rfl ?_
   refine X6 S.holds hL ?_
   refine xH S.holds hL ?_
   refine hK3 _ _ ⟨?_,rfl⟩
   rw[zV,hP,hi]
   simp only[true_and]
  rintro _ _ ⟨rfl,rfl⟩ d
  rw[gdz]
  refine gp_ ?_
  refine zh (λhne=>?_) (λhe=>?_)
  ·exact h0 hne _ S.ext
  have he:zV u fn (yq u fn q)=0:=by omega
  have hq:0≤q∧q.toNat<g.pts.length:=by
   cases hh:yq u fn q with
   |false=>rw [hh,zV,if_neg (by simp)]at he;cases he
   |true=>rw [hP,gba,gdt,gdt]at hh;omega
  rw[he]
  obtain⟨pl,cl,hlc,hls⟩:=id hL.lns
  have hfew:(lkS u fn g).length≤1000000:=Nat.le_trans qC (by have:=F.head.pt1024;omega)
  have h1:=h1 he g g.pts[q.toNat]
  generalize lkS u fn g=ls at hL hlc hls hfew h1
  refine n_some ?_
  refine gg_ ?_
  refine zf (S.at hlc) ?_
  have S:=S.ownNil 3 1
  have hM:(ls.map (xh g.pts[q.toNat])).length=ls.length:=List.length_map _
  generalize hMe:ls.map (xh g.pts[q.toNat])=M at hM h1
  have hkl:∀i (h:i<ls.length) (hm:i<M.length),M[i]'hm=xh g.pts[q.toNat] ls[i]:=λi h hm=>by subst hMe;rw[List.getElem_map]
  refine gg_ ?_
  refine zj (ι:=Nat×Value) (λi=>[i.2,.int .i64 (i.1:Nat)]) (λi w'=>i.1≤ls.length∧StX noX w (r.or s) w' (.row i.2 3 1 (mkd (M.take i.1)).length (ints (mkd (M.take i.1)))::[.cell b3 [.slice p0 u.ss.length cap0,vf,.int .i64 u.mn] 25])) (λi=>ls.length-i.1) (0,.slice none 0 0) rfl ⟨gzl _,S⟩ ?_
  repeat clear S
  rintro⟨i,vp⟩ d w5 ⟨hi,S⟩ K9 hK9
  simp only at hi S⊢
  simp only[gdz,gds]
  refine gg_ ?_
  refine zh (λhlt=>?_) (λhge=>?_)
  ·have hlt:i<ls.length:=by omega
   have hlt':i<M.length:=by omega
   have hsn:=acE hlt'
   rw[hkl i hlt hlt']at hsn
   have hml:(mkd (M.take i)).length≤1000000:=Nat.le_trans amT (by rw[List.length_take];omega)
   obtain⟨bo,oo,co,hqo,hcl,hoc,hoo⟩:=hls.get (by decide) hlt
   generalize ls[i]=x at hoc hsn
   obtain⟨vx,rfl,hxs⟩:=hoc
   obtain⟨qx,cx,rfl,_,_⟩:=hxs.sl.shape
   cases hqo
   refine zk (λy w'=>∃v',y=[v']∧StX noX w (r.or s) w' (.row v' 3 1 (mkd (M.take (i+1))).length (ints (mkd (M.take (i+1))))::[.cell b3 [.slice p0 u.ss.length cap0,vf,.int .i64 u.mn] 25])) (λK13 hK13=>?_) ?_
   ·refine gg_ ?_
    refine zo (n:=5) rfl (λj v hj=>by rw[tnc];exact S.at (hoo j v hj)) ?_
    refine S.al λb12 w7 S=>?_
    refine S.stB (b:=b12) λw8 S=>?_
    refine S.ldB (b:=b12) ?_ rfl
    refine X7 S.holds hL ⟨_,rfl,hxs⟩ hq.1 hq.2 λw9 e9=>?_
    have S:=(S.go e9).drop b12
    refine c_b (λhy=>?_) (λhn=>?_)
    ·rw[if_pos hy]at hsn
     refine S.lit (e:=3) (cs:=[.int .i64 (i:Nat)]) (by kernel_rfl) λb13 w10 S=>?_
     refine S.ap (v:=vp) (m':=1) (Sl.blk (S.blk b13)) (λv11 w11 S=>?_) (by omega)
     refine hK13 _ _ ⟨v11,rfl,?_⟩
     rw[hsn,gla,QG]
     exact S.drop b13
    ·rw[if_neg (by rw[hn];decide),List.append_nil]at hsn
     refine hK13 _ _ ⟨vp,rfl,?_⟩
     rw[hsn]
     exact S
   ·repeat clear S
    rintro _ w12 ⟨v',rfl,S⟩ d
    simp only[gdz]
    refine gg_ ?_
    exact hK9 (i+1,v') _ ⟨hlt,S⟩ (by show ls.length-(i+1)<ls.length-i;omega)
  ·have hie:i=ls.length:=by omega
   rw[hie,← hM,List.take_length]at S
   obtain⟨s9,S,hs9,_,a9⟩:=StX.doneRow (l:=mkd M) (R:=yz) (sz:=1) S qN (by decide) rfl
   have a9:Above w s9:=λb o ho=>(a9 b o ho).resolve_right id
   have S:=S.reGh
   exact h1 _ (s.or s9) _ F hq.1 (gqg hq.2) S.ext (StX.newOf (q:=s.or s9) S (ha.or' a9)) (hs9.up' inferInstance λ_ _ h=>h)
end
theorem ai8{u:UnD}{fn:Int}{g:GrD}{k:Nat}(hM:MayU u)(hH:HeadU u k g)(hpt:∀p∈g.pts,zG u g p=true):∀x∈lkS u fn g,0≤x.pl.l∧x.pl.l.toNat<g.tys.length:=λx hx=>by
 obtain⟨q,p,_,hp,ho,rfl⟩:=acM hx
 have hlt:=(List.getElem?_eq_some_iff.1 hp).1
 have hpe:=(List.getElem?_eq_some_iff.1 hp).2
 have h1:=ajR hM hH (acD (hpt p (hpe▸gem hlt)) (.inl ho))
 exact⟨h1.l0,by rw[← (ZZ (u:=u)).1];exact h1.l1⟩
noncomputable def YO(u:UnD)(fn n:Int)(a:AcD):Bool:=match u.fs[fn.toNat]? with
 |some g=>(((decide (0≤n)&&decide (n<((lkS u fn g).length:Int)))&&(zK u.ss g.tys a.pl).isSome)&&decide (1≤a.d))&&decide (a.d≤3)
 |none=>false
noncomputable def ah1(u:UnD)(fn n:Int)(a:AcD):Bool:=match u.fs[fn.toNat]? with
 |some g=>(match (lkS u fn g)[n.toNat]? with|some x=>Z3 u g x a|none=>false)
 |none=>false
section
variable {u:UnD} {fn n:Int} {v:Value} {w:World} {r:Gh} {K:Value→World→Prop}
theorem agv{a:AcD}{c:List Value}(hr:Holds r w)(hu:UnG r v u)(ha:AcG r c a)
  (h:∀w',Ext w w'→K (.tuple #[.bool (decide (zV u fn (YO u fn n a)=0)&&ah1 u fn n a),.int .i64 (zV u fn (YO u fn n a))]) w'):zd Tryz.prog Tryz.Yz #[v,.int .i64 fn,.int .i64 n,.agg c.toArray] w K:=by
 refine Tryz.aeZ ?_
 unfold Tryz.VI
 obtain⟨p0,cap0,vf,rfl,_,_,_,_,_⟩:=id hu
 have ha0:=ha
 obtain⟨va,rfl,has⟩:=ha
 obtain⟨qa,ca,rfl,_,_⟩:=has.sl.shape
 have S:=St.start hr
 refine S.box λb4 w1 S=>?_
 refine S.box λb7 w2 S=>?_
 have S:StX noX w r w2 [.cell b7 [.int .i64 a.pl.l,.slice qa a.pl.ps.length ca,.int .u8 a.d,.bool a.wr] 88,.cell b4 [.slice p0 u.ss.length cap0,vf,.int .i64 u.mn] 25]:=S
 refine S.ldB (b:=b4) ?_ rfl
 refine ju S.holds hu (λhi w3 e3=>?_) λhi g b s w3 hg e3 n3 hL=>?_
 ·have S:=S.go e3
  refine gp_ ?_
  refine gp_ ?_
  have hE:zV u fn (YO u fn n a)=2:=by rw[zV,if_neg (by rw[hi];simp)]
  rw[hE]at h
  refine zk (λx w'=>x=[.int .i64 2]∧w'=w3) (λK3 hK3=>?_) ?_
  ·refine gp_ ?_
   refine c_f rfl ?_
   exact hK3 _ _ ⟨rfl,rfl⟩
  rintro _ _ ⟨rfl,rfl⟩ d
  rw[gdz]
  refine gp_ ?_
  have S:=S.go (Ext.drew _)
  refine zr (c:=false) (λhh=>by cases hh) λw5 e5=>?_
  exact h _ (S.go e5).ext
 ·obtain⟨S,_,hab⟩:=S.tell e3 n3
  have F:=isF hi hg
  obtain⟨pl,cl,hlc,hls⟩:=id hL.lns
  obtain⟨p0',cap0',hss,hst⟩:=id hL.ss
  obtain⟨qt,capt,hts,hty⟩:=id hL.tys
  have hloc:=ai8 (fn:=fn) F.may F.head F.pts
  have hfew:(lkS u fn g).length≤1000000:=Nat.le_trans qC (by have:=F.head.pt1024;omega)
  have hI:YO u fn n a=((((decide (0≤n)&&decide (n<((lkS u fn g).length:Int)))&&(zK u.ss g.tys a.pl).isSome)&&decide (1≤a.d))&&decide (a.d≤3)):=by rw[YO,hg]
  have hV:∀x,(lkS u fn g)[n.toNat]? = some x→ah1 u fn n a=Z3 u g x a:=λx hx=>by rw[ah1,hg];simp only[hx]
  have hA:zV u fn (YO u fn n a)=if YO u fn n a=true then lkE u fn else 2:=by rw[zV,hi];simp only[true_and]
  generalize lkS u fn g=ls at hL hlc hls hloc hfew hI hV
  refine gp_ ?_
  refine gp_ ?_
  refine zk (λx w'=>x=[.int .i64 (zV u fn (YO u fn n a))]∧StX noX w (r.or s) w' [.cell b7 [.int .i64 a.pl.l,.slice qa a.pl.ps.length ca,.int .u8 a.d,.bool a.wr] 88,.cell b4 [.slice p0 u.ss.length cap0,vf,.int .i64 u.mn] 25]) (λK4 hK4=>?_) ?_
  ·refine gp_ ?_
   refine c_t rfl ?_
   have S:=S.go (Ext.drew _)
   refine abT S.holds hL hfew ?_
   have hu2:UnG (r.or s) (.agg #[.slice p0 u.ss.length cap0,vf,.int .i64 u.mn]) u:=UnG.up hu
   obtain⟨_,_,_,hE,_,_,hst2,_,_⟩:=hu2
   cases hE
   refine zr (c:=(zK u.ss g.tys a.pl).isSome) (λ_ K2 hK2=>?_) λw5 e5=>?_
   ·refine gg_ ?_
    refine zf (S.at hts) ?_
    refine gg_ ?_
    refine S.ldN (b:=b7) (vs:=[.int .i64 a.pl.l,.slice qa a.pl.ps.length ca]) ?_
    have htf:=hty.few
    refine abM S.holds hst2 (vV hty.sl) htf ⟨_,rfl,has.up' inferInstance λ_ _ h=>h⟩ λw6 e6=>?_
    exact hK2 _ e6
   have S:=S.go e5
   refine zg (c:=decide (1≤a.d)) (λ_ K2 hK2=>by refine gg_ ?_;exact hK2) ?_
   refine zg (c:=decide (a.d≤3)) (λ_ K2 hK2=>by refine gg_ ?_;exact hK2) ?_
   rw[← hI]
   refine xH S.holds hL ?_
   exact hK4 _ _ ⟨by rw[hA],S⟩
  clear S
  rintro _ w7 ⟨rfl,S⟩ d
  rw[gdz]
  refine gp_ ?_
  have S:=S.go (Ext.drew _)
  refine zr (c:=ah1 u fn n a) (λhe K2 hK2=>?_) λw8 e8=>?_
  ·have he:zV u fn (YO u fn n a)=0:=by simpa using he
   have hok:YO u fn n a=true:=by
    cases hh:YO u fn n a with
    |true=>rfl
    |false=>rw [hA,hh]at he;cases he
   rw[hI]at hok
   simp only[gba,gdt]at hok
   have hn:n.toNat<ls.length:=by omega
   have hV:=hV _ (gqg hn)
   have hlx:=hloc _ (gem hn)
   obtain⟨bo,oo,co,hqo,hcl,hoc,hoo⟩:=hls.get (by decide) hn
   generalize ls[n.toNat]=x at hoc hV hlx
   obtain⟨vx,rfl,hxs⟩:=hoc
   obtain⟨qx,cx,rfl,_,_⟩:=hxs.sl.shape
   rw[hqo]at hlc
   refine n_some ?_
   refine gg_ ?_
   refine zf (S.at hlc) ?_
   refine gg_ ?_
   refine zo (n:=5) rfl (λj v hj=>S.at (hoo j v hj)) ?_
   refine S.ldB (b:=b7) ?_ rfl
   refine VN S.holds hL ⟨_,rfl,hxs⟩ (c':=[.int .i64 a.pl.l,.slice qa a.pl.ps.length ca,.int .u8 a.d,.bool a.wr]) (a:=a) ⟨_,rfl,has.up' inferInstance λ_ _ h=>h⟩ hlx.1 hlx.2 λw9 e9=>?_
   rw[← hV]
   exact hK2 _ e9
  exact h _ (S.go e8).ext
theorem Xi(hr:Holds r w)(hu:UnG r v u)
  (h0:lkE u fn≠0→∀w',Ext w w'→K (.tuple #[.slice none 0 0,.int .i64 (lkE u fn)]) w')
  (h1:lkE u fn=0→∀g vs s pl cl w',IsF u fn g→Above w s→vs.length=(lkS u fn g).length→StX noX w (r.or s) w' (.row (.slice pl (lkS u fn g).length cl) 82 5 (lkS u fn g).length (kU vs (lkS u fn g))::kE vs (lkS u fn g))→
   K (.tuple #[.slice pl (lkS u fn g).length cl,.int .i64 0]) w'):zd Tryz.prog Tryz.vI #[v,.int .i64 fn] w K:=by
 refine Tryz.ajS ?_
 unfold Tryz.afL
 obtain⟨p0,cap0,vf,rfl,_,_,_,_,_⟩:=id hu
 have S:=St.start hr
 refine S.box λb2 w1 S=>?_
 have S:StX noX w r w1 [.cell b2 [.slice p0 u.ss.length cap0,vf,.int .i64 u.mn] 25]:=S
 refine S.ldB (b:=b2) ?_ rfl
 refine ad6 S.holds hu (λhi w3 e3=>?_) λhi g s b vs p0' cap0' vf' vo vt vn vp vl va pl cl w3 hg ha hvl hgr hun T=>?_
 ·have S:=S.go e3
  have hE:=anR hi
  rw[hE]at h0
  refine gp_ ?_
  refine gp_ ?_
  refine zk (λx w'=>x=[.int .i64 2]∧w'=w3) (λK3 hK3=>?_) ?_
  ·refine gp_ ?_
   refine c_f rfl ?_
   exact hK3 _ _ ⟨rfl,rfl⟩
  rintro _ _ ⟨rfl,rfl⟩ d
  rw[gdz]
  refine gp_ ?_
  refine c_t rfl ?_
  exact h0 (by decide) _ S.ext
 ·have F:=isF hi hg
  have hE:(zL (zH u fn (-1))).2=lkE u fn:=rfl
  have hS:lnsI g (reF (zL (zH u fn (-1))).1 (zL (zH u fn (-1))).2) g.pts.length=lkS u fn g:=rfl
  rw[hS,hE]at T
  rw[hS]at hvl
  have h1:=λhe=>h1 he g
  generalize lkS u fn g=ls at hvl T h1
  have hsz:=S.ext.size
  have S:=(StX.join S (T.to s) ha).less (λb o h=>h) (List.sublist_append_left _ _)
  have ha:Above w s:=λb o ho=>Nat.le_trans hsz (ha b o ho)
  clear T
  refine gp_ ?_
  refine gp_ ?_
  refine zk (λx w'=>x=[.int .i64 (lkE u fn)]∧w'=w3) (λK3 hK3=>?_) ?_
  ·refine gp_ ?_
   refine c_t rfl ?_
   refine n_some ?_
   refine gg_ ?_
   exact hK3 _ _ ⟨rfl,rfl⟩
  rintro _ _ ⟨rfl,rfl⟩ d
  rw[gdz]
  refine gp_ ?_
  refine zh (λhne=>?_) (λhe=>?_)
  ·exact h0 hne _ S.ext
  ·have he:lkE u fn=0:=by omega
   refine n_some ?_
   refine gg_ ?_
   rw[he]
   exact h1 he vs s pl cl _ F ha hvl S.tl
end
end
end Go.Proofs
