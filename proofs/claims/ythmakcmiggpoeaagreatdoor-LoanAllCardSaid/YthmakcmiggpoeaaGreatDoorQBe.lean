/-
  Contracts and plain laws that the last text leans on.
-/
import Derived.Test.YthmakcmiggpoeaaGreatDoorQBd
import Derived.Test.YthmakcmiggpoeaaGreatDoorQBc
import Derived.Test.YthmakcmiggpoeaaGreatDoorQBb
import GoSem.Builtin.Clear
import Derived.Lib.ItoaLen
import Derived.Shelf.Strings.Builder1
import Derived.Shelf.Strings.OnBuilder
import Derived.Shelf.Small.Wraps
import Derived.Shelf.Strconv.Itoa3
import Derived.Shelf.Strconv.Itoa4
import Derived.Shelf.Slices.CompactI
import Derived.Test.YthmakcmiggpoeaaGreatDoorProg
import Derived.KernelRfl
set_option maxRecDepth 100000
set_option maxHeartbeats 8000000
set_option linter.unusedVariables false
set_option linter.unusedSimpArgs false
namespace Go.Proofs
open Go.Sh
section
variable {u:UnD} {fn q:Int} {r:Gh} {v:Value} {p:PtD} {K:Value→World→Prop}
theorem RgG.shape{d:RgD}(h:RgG r v d):∃q1 c1 q2 c2,v=.agg (rgL d.lv d.pt d.ct (.slice q1 d.tys.length c1) (.slice q2 d.at'.length c2)).toArray∧SlG 5 r (TyC r) (.slice q1 d.tys.length c1) d.tys∧SlG 1 r yz (.slice q2 d.at'.length c2) d.at':=by
 obtain⟨vl,va,rfl,h1,h2⟩:=h
 obtain⟨q1,c1,rfl,_⟩:=h1.shape
 obtain⟨q2,c2,rfl,_⟩:=h2.shape
 exact⟨q1,c1,q2,c2,rfl,h1,h2⟩
abbrev rgZ:List Value:=rgL 0 0 0 (.slice none 0 0) (.slice none 0 0)
theorem ahA{d:RgD}{e:Int}{w:World}{K:Value→World→Prop}(hr:Holds r w)(hd:RgG r v d)
  (h:∀v' w',Ext w w'→RgG r v' (zL (d,e)).1→K (.tuple #[v',.int .i64 (zL (d,e)).2]) w'):zd Tryz.prog Tryz.Xs #[v,.int .i64 e] w K:=by
 refine Tryz.af2 ?_
 unfold Tryz.aan
 have hd0:=hd
 obtain⟨q1,c1,q2,c2,rfl,h1,h2⟩:=hd.shape
 have S:=St.start hr
 refine S.box λb2 w1 S=>?_
 have S:StX noX w r w1 [.cell b2 (rgL d.lv d.pt d.ct (.slice q1 d.tys.length c1) (.slice q2 d.at'.length c2)) 74]:=S
 refine S.al λb4 w2 S=>?_
 have S:StX noX w r w2 [.cell b4 rgZ 74,.cell b2 (rgL d.lv d.pt d.ct (.slice q1 d.tys.length c1) (.slice q2 d.at'.length c2)) 74]:=S
 refine zk (λs w'=>s=[.int .i64 (zL (d,e)).2]∧w'=w2) (λK3 hK3=>?_) ?_
 ·refine gP_ ?_
  refine zg (c:=decide (512<d.ct)) (λ_ K2 hK2=>?_) ?_
  ·refine gG_ ?_
   exact hK2
  refine c_b (λhb=>?_) (λhb=>?_)
  ·have hb:e=0∧512<d.ct:=by simpa using hb
   refine hK3 _ _ ⟨?_,rfl⟩
   rw[zL,if_pos hb.1,if_pos hb.2]
  ·refine hK3 _ _ ⟨?_,rfl⟩
   rw[zL]
   by_cases he:e=0
   ·rw[if_pos he,if_neg (by rw[gde he,Bool.true_and,decide_eq_false_iff_not]at hb;exact hb)]
   ·rw[if_neg he]
 rintro _ w2 ⟨rfl,rfl⟩ d3
 refine gG_ ?_
 have hf:zL (d,e)=if (zL (d,e)).2=0 then(d,0)else(jZ,(zL (d,e)).2):=by
  unfold zL
  by_cases he:e=0
  ·by_cases hc:512<d.ct
   ·simp[he,hc]
   ·simp[he,hc]
  ·simp[he]
 generalize (zL (d,e)).2=x at hf
 refine zh (λhne=>?_) (λheq=>?_)
 ·rw[if_neg hne]at hf
  rw[hf]at h
  refine zq (cs:=rgZ.toArray) (by kernel_rfl) ?_
  refine S.stB (b:=b4) λw3 S=>?_
  refine S.ceB (b:=b4) ?_ rfl
  exact h _ _ S.ext RgG.zero
 ·have heq:x=0:=by omega
  rw[if_pos heq]at hf
  rw[hf]at h
  refine S.ldB (b:=b2) ?_ rfl
  refine S.stB (b:=b4) λw3 S=>?_
  refine S.ceB (b:=b4) ?_ rfl
  rw[heq]
  exact h _ _ S.ext hd0
theorem air{fn:Int}{w:World}{K:Value→World→Prop}(hr:Holds r w)(hu:UnG r v u)
  (h:∀v' s w',Ext w w'→New w s w'→RgG s v' (zL (zH u fn (-1))).1→K (.tuple #[v',.int .i64 (zL (zH u fn (-1))).2]) w'):zd Tryz.prog Tryz.QN #[v,.int .i64 fn] w K:=by
 refine Tryz.ahr ?_
 unfold Tryz.abK
 have hu0:=hu
 obtain⟨p0,cap0,vf,rfl,_,_,hst,hsl,hfn⟩:=hu
 obtain⟨qf,capf,rfl,_,_⟩:=hfn.sl.shape
 have S:=St.start hr
 refine S.box λb2 w1 S=>?_
 refine S.al λb4 w2 S=>?_
 refine S.ldB (b:=b2) ?_ rfl
 refine ahz S.holds hu0 λv3 s w3 e3 n3 h3=>?_
 obtain⟨S,d3,a3⟩:=S.tell e3 n3
 refine gS_ ?_
 refine ahA (r:=s) (S.holds.le (h:=inferInstance)) h3 λv4 w4 e4 h4=>?_
 have S:=S.go e4
 obtain⟨q1,c1,q2,c2,rfl,_,_⟩:=h4.shape
 refine gS_ ?_
 refine S.stB (b:=b4) λw5 S=>?_
 refine S.ceB (b:=b4) ?_ rfl
 exact h _ s _ S.ext (S.newOf a3) h4
theorem xL(h:isU u fn q=true):MayU u∧0≤fn∧∃hlt:fn.toNat<u.fs.length,q<u.fs[fn.toNat].pts.length∧zH u fn q=(allD u u.fs[fn.toNat],0):=by
 have h0:=h
 rw[isU]at h
 simp only[gba,gdt]at h
 obtain⟨⟨h1,h2⟩,h3,h4⟩:=h
 have hlt:fn.toNat<u.fs.length:=by omega
 rw[gqg hlt]at h4
 exact⟨Va.1 h3,h1,hlt,h4,by rw[zH,if_pos h0,gqg hlt]⟩
theorem adE(h:isU u fn q=false):zH u fn q=(jZ,2):=by rw[zH,h];rfl
theorem ZZ{g:GrD}:(allD u g).tys.length=g.tys.length∧(allD u g).at'.length=g.pts.length:=⟨kC _ _,ZX _ _ _⟩
def Jy:PlD:=⟨0,[]⟩
def abd:OpD:=⟨0,0,Jy⟩
theorem ai1{α:Type}{sz:Nat}{R:List Value→α→Prop}:SlB sz r R (.slice none 0 0) ([]:List α):=⟨SlG.nil,gzl _⟩
abbrev ptL(p:PtD)(q1 q2 q3 q4 q5:Option Addr)(c1 c2 c3 c4 c5:Nat):List Value:=[.int .u8 p.op,.int .i64 p.to.l,.slice q1 p.to.ps.length c1,.int .u8 p.a.k,.int .i64 p.a.n,.int .i64 p.a.pl.l,.slice q2 p.a.pl.ps.length c2,.int .u8 p.b.k,.int .i64 p.b.n,.int .i64 p.b.pl.l,.slice q3 p.b.pl.ps.length c3,.slice q4 p.args.length c4,
 .string p.sign,.int .i64 p.fr.l,.slice q5 p.fr.ps.length c5,.bool p.mu,.int .i64 p.fn,.int .i64 p.st,.int .i64 p.nx,.int .i64 p.el,.int .i64 p.tx]
theorem xm{c:List Value}(h:PtG r c p):∃q1 q2 q3 q4 q5 c1 c2 c3 c4 c5,c=ptL p q1 q2 q3 q4 q5 c1 c2 c3 c4 c5∧PtG r (ptL p q1 q2 q3 q4 q5 c1 c2 c3 c4 c5) p:=by
 obtain⟨vto,va,vb,vl,vfr,rfl,k1,k2,k3,k4,k5⟩:=id h
 obtain⟨q1,c1,rfl,_⟩:=k1.sl.shape
 obtain⟨q2,c2,rfl,_⟩:=k2.sl.shape
 obtain⟨q3,c3,rfl,_⟩:=k3.sl.shape
 obtain⟨q4,c4,rfl,_⟩:=k4.sl.shape
 obtain⟨q5,c5,rfl,_⟩:=k5.sl.shape
 exact⟨q1,q2,q3,q4,q5,c1,c2,c3,c4,c5,rfl,h⟩
theorem anC{x:RgD×Int}(h:(zL x).2=0):x.2=0∧(zL x).1=x.1∧x.1.ct≤512:=by
 unfold zL at h⊢
 split at h
 ·rename_i h1
  split at h
  ·cases h
  ·rename_i h2;rw[if_pos h1,if_neg h2];exact⟨h1,rfl,by omega⟩
 ·rename_i h1;exact absurd h h1
def ahB(u:UnD)(fn q:Int):Option PtD:=u.fs[fn.toNat]?.bind λg=>g.pts[q.toNat]?
theorem anE(hc:isU u fn q=true)(hq:0≤q):∃hl:q.toNat<(zH u fn q).1.at'.length,(zH u fn q).1.at'[q.toNat]=atL (zH u fn q).1.at' q:=by
 obtain⟨hM,hf0,hlt,hql,hT⟩:=xL hc
 have hl:q.toNat<(zH u fn q).1.at'.length:=by rw[hT,show (allD u u.fs[fn.toNat],(0:Int)).1=allD u u.fs[fn.toNat]from rfl,ZZ.2];omega
 exact⟨hl,by rw[atL,ggd,gqg hl];rfl⟩
theorem alD(hlt:fn.toNat<u.fs.length)(h:ahB u fn q=some p):∃hq:q.toNat<u.fs[fn.toNat].pts.length,u.fs[fn.toNat].pts[q.toNat]=p:=by
 rw[ahB,gqg hlt,Option.bind_some]at h
 exact List.getElem?_eq_some_iff.1 h
theorem anF(hc:isU u fn q=true)(hq:0≤q)(hp:ahB u fn q=some p)(hn:ptN u p≠0):0≤atL (zH u fn q).1.at' q∧atL (zH u fn q).1.at' q+ptN u p≤(zH u fn q).1.ct:=by
 obtain⟨hM,hf0,hlt,hql,hT⟩:=xL hc
 obtain⟨hql',rfl⟩:=alD hlt hp
 obtain⟨hl,ha⟩:=anE hc hq
 have hN:=λp hp=>hM.ptN (gem hlt) (p:=p) hp
 have hH:=hM.hd hlt
 have e1:(zH u fn q).1=allD u u.fs[fn.toNat]:=by rw[hT]
 rw[← ha]
 have e2:(zH u fn q).1.at'=atK u u.fs[fn.toNat].pts (u.fs[fn.toNat].lv+zU u.fs[fn.toNat].tys):=by rw[e1];rfl
 have e3:(zH u fn q).1.at'[q.toNat]=u.fs[fn.toNat].lv+zU u.fs[fn.toNat].tys+atC u (u.fs[fn.toNat].pts.take q.toNat):=by
  simp only[e2]
  rw[akv hql',if_neg hn]
 rw[e3,e1]
 have h1:=XS (u:=u) (l:=u.fs[fn.toNat].pts) (λp hp=>(hN p hp).1) q.toNat
 have h2:=XS (u:=u) (l:=u.fs[fn.toNat].pts) (λp hp=>(hN p hp).1) (q.toNat+1)
 rw[acn hql']at h2
 have h3:=vz u.fs[fn.toNat].tys
 have h4:=hH.lv0
 show _∧_≤u.fs[fn.toNat].lv+zU u.fs[fn.toNat].tys+atC u u.fs[fn.toNat].pts
 omega
end
end Go.Proofs
namespace Go.Sh
theorem StX.mkSU{P:Program}{X:Nat→Prop}{w0 w:World}{r:Gh}{L:List Asr}{t e:TypeId}{bytes:Nat}{kl:IntKind}{n:Int}{z:Value}(S:StX X w0 r w L)[hT:ApT P t e 1 bytes][hz:ZrT P e [z]]{K:Value→World→Prop}(h0:0≤n)(hb:(bytes:Int)*n≤281474976710656)
  (h:∀b w',StX X w0 r w' (.cell b (List.replicate n.toNat z) e::L)→K (.slice (some ⟨b,0,none⟩) n.toNat n.toNat) w'):opW P w (Instr.makeSlice t (.int kl n) (.int kl n)) λt' w'=>Ext w w'∧K t' w':=
 aka hT.h hz.h h0 hb λb w' hb e _ B=>⟨e,h b w' (S.add e (by omega) B)⟩
theorem StX.litNew{w0 w:World}{r:Gh}{L M:List Asr}{α:Type}{sz:Nat}{R:List Value→α→Prop}{l:List α}{e:TypeId}{xs:List Value}(S:StX noX w0 r w L)(b:Nat)[h:ZT b L xs e M](hr:RowOf sz R xs l)(hz:0<sz):
  StX noX w0 (r.or (Go.Sh.one b xs e)) w M∧SlG sz (Go.Sh.one b xs e) R (.slice (some ⟨b,0,none⟩) l.length l.length) l∧Above w0 (Go.Sh.one b xs e):=by
 have S1:=S.front b
 have hm:=S1.mine (.cell b xs e) List.mem_cons_self b rfl
 obtain⟨S2,h2⟩:=S1.litSl hr hz
 exact⟨S2,h2,by rintro b' o ⟨rfl,_⟩;exact hm.1.resolve_right id⟩
end Go.Sh
namespace Go.Proofs
open Go.Sh
theorem y8{α:Type}{sz:Nat}{R:List Value→α→Prop}{c:List Value}{x:α}(hc:c.length=sz)(hx:R c x):RowOf sz R c [x]:=RowOf.nil.snoc (xs:=[]) hc hx
theorem yI{α:Type}{sz:Nat}{R:List Value→α→Prop}{c xs:List Value}{x:α}{l:List α}(hc:c.length=sz)(hx:R c x)(h:RowOf sz R xs l):RowOf sz R (c++xs) (x::l):=by
 obtain⟨h1,h2⟩:=h
 refine⟨by rw[gla,List.length_cons,h1,hc,Nat.succ_mul,Nat.add_comm],λi hi=>?_⟩
 cases i with
 |zero=>rw [Nat.zero_mul,List.drop_zero,List.take_append_of_le_length (by omega),List.take_of_length_le (by omega)];exact hx
 |succ i=>
  have e:((c++xs).drop ((i+1)*sz))=xs.drop (i*sz):=by
   rw[show (i+1)*sz=c.length+i*sz by rw[hc,Nat.succ_mul,Nat.add_comm],← List.drop_drop,List.drop_left'];rfl
  rw[e]
  exact h2 i (by simpa using hi)
theorem Jz{α:Type}{sz:Nat}{r:Gh}{R:List Value→α→Prop}{v:Value}{l:List α}(h:SlG sz r R v l)(hl:l.length≤1000000:=by decide):SlB sz r R v l:=⟨h,by simp only[maxLen];omega⟩
def qU:TyD:=.mk 4 true (-1) 0 [ym]
def plD(l:Int):PlD:=⟨l,[]⟩
def anG(n:Int):OpD:=⟨1,n,Jy⟩
def hp0:PtD:=⟨4,plD 2,abd,abd,[],ByteArray.empty,plD 1,true,0,0,1,0,0⟩
def hp1:PtD:=⟨1,plD 1,anG 2,abd,[],ByteArray.empty,Jy,false,0,0,2,0,0⟩
def hp2:PtD:=⟨1,⟨2,[-1]⟩,anG 3,abd,[],ByteArray.empty,Jy,false,0,0,3,0,0⟩
def hp3:PtD:=⟨14,Jy,abd,abd,[],ByteArray.empty,Jy,false,0,0,0,0,0⟩
def zJ:GrD:=⟨ByteArray.empty,0,[],0,[ym,ym,qU],[ByteArray.empty,ByteArray.empty,ByteArray.empty],[hp0,hp1,hp2,hp3]⟩
def zS:UnD:=⟨[],[zJ],0⟩
abbrev XU:List Value:=[.int .u8 1,.bool false,.int .i64 0,.int .i64 0,.slice none 0 0]
abbrev anH:Value:=.agg #[.int .u8 1,.bool false,.int .i64 0,.int .i64 0,.slice none 0 0]
abbrev anI(n:Int):Value:=.agg #[.int .u8 1,.int .i64 n,.int .i64 0,.slice none 0 0]
abbrev hl0:List Value:=[.int .u8 4,.int .i64 2,.slice none 0 0,.int .u8 0,.int .i64 0,.int .i64 0,.slice none 0 0,.int .u8 0,.int .i64 0,.int .i64 0,.slice none 0 0,.slice none 0 0,.string ByteArray.empty,.int .i64 1,.slice none 0 0,.bool true,.int .i64 0,.int .i64 0,.int .i64 1,.int .i64 0,.int .i64 0]
abbrev hl1:List Value:=[.int .u8 1,.int .i64 1,.slice none 0 0,.int .u8 1,.int .i64 2,.int .i64 0,.slice none 0 0,.int .u8 0,.int .i64 0,.int .i64 0,.slice none 0 0,.slice none 0 0,.string ByteArray.empty,.int .i64 0,.slice none 0 0,.bool false,.int .i64 0,.int .i64 0,.int .i64 2,.int .i64 0,.int .i64 0]
abbrev hl2(b:Nat):List Value:=[.int .u8 1,.int .i64 2,.slice (some ⟨b,0,none⟩) 1 1,.int .u8 1,.int .i64 3,.int .i64 0,.slice none 0 0,.int .u8 0,.int .i64 0,.int .i64 0,.slice none 0 0,.slice none 0 0,.string ByteArray.empty,.int .i64 0,.slice none 0 0,.bool false,.int .i64 0,.int .i64 0,.int .i64 3,.int .i64 0,.int .i64 0]
abbrev hl3:List Value:=[.int .u8 14,.int .i64 0,.slice none 0 0,.int .u8 0,.int .i64 0,.int .i64 0,.slice none 0 0,.int .u8 0,.int .i64 0,.int .i64 0,.slice none 0 0,.slice none 0 0,.string ByteArray.empty,.int .i64 0,.slice none 0 0,.bool false,.int .i64 0,.int .i64 0,.int .i64 0,.int .i64 0,.int .i64 0]
theorem hst:zx ([]:List StD)=(0,0):=by unfold zx;simp[xF]
theorem hmay(t:TyD):mayB [] t=zt 0 48 t:=by rw[mayB,hst];simp
theorem Xe:ByteArray.empty.toList=[]:=by rw[ByteArray.toList_eq];rfl
theorem akB:xf zS 0 zJ=true:=by
 have h1:jS zS zJ 0 zJ.tys=true:=by
  show((mayB [] ym&&_)&&((mayB [] ym&&_)&&((mayB [] qU&&_)&&true)))=true
  rw[hmay,hmay]
  kernel_rfl
 unfold xf
 rw[h1]
 show(_:Bool)=true
 kernel_rfl
theorem alE:∀p∈zJ.pts,zG zS zJ p=true:=by
 have hp:zJ.pts=[hp0,hp1,hp2,hp3]:=rfl
 rw[hp]
 intro p h
 simp only[List.mem_cons,List.not_mem_nil,or_false]at h
 rcases h with rfl|rfl|rfl|rfl
 ·have e:zE hp0 { to:=true,fr:=true,mu:=true } = true:=by
   rw[zE,jd,show hp0.sign=ByteArray.empty from rfl,Xe];kernel_rfl
  have :zG zS zJ hp0=(((((zE hp0 { to:=true,fr:=true,mu:=true } && true)&&true)&&true)&&true)&&(true&&true)):=by kernel_rfl
  rw[this,e];rfl
 ·have e:zE hp1 { to:=true,a:=true } = true:=by
   rw[zE,jd,show hp1.sign=ByteArray.empty from rfl,Xe];kernel_rfl
  have :zG zS zJ hp1=(((zE hp1 { to:=true,a:=true } && true)&&true)&&true):=by kernel_rfl
  rw[this,e];rfl
 ·have e:zE hp2 { to:=true,a:=true } = true:=by
   rw[zE,jd,show hp2.sign=ByteArray.empty from rfl,Xe];kernel_rfl
  have :zG zS zJ hp2=(((zE hp2 { to:=true,a:=true } && true)&&true)&&true):=by kernel_rfl
  rw[this,e];rfl
 ·have e:zE hp3 {} = true:=by
   rw[zE,jd,show hp3.sign=ByteArray.empty from rfl,Xe];kernel_rfl
  have :zG zS zJ hp3=zE hp3 {}:=by kernel_rfl
  rw[this,e]
theorem alF:MayU zS:=by
 refine⟨by show(zx []).2=0;rw[hst],by decide,by decide,by decide,by decide,λi hi=>?_,λg hg=>?_⟩
 ·have :i=0:=by have :zS.fs.length=1:=rfl;omega
  subst this
  exact akB
 ·rw[List.mem_singleton.1 hg]
  exact alE
def alG(k:Int):TyD:=.mk 4 true k 0 [ym]
theorem acs{q:Int}(h:q<4):isU zS 0 q=true:=by
 rw[isU,Va.2 alF]
 show(true&&(true&&decide (q<4)))=true
 rw[gde h];rfl
theorem alH{q:Int}(h:q<4):zH zS 0 q=(⟨0,4,2,[ym,ym,alG 0],[1,-1,-1,-1]⟩,0):=by
 rw[zH,if_pos (acs h)]
 kernel_rfl
theorem ajC{s:Gh}{p:Option Addr}{l:List Int}(h:Ob s λw=>Sl w p (ints l)){w:World}(hw:Holds s w){i:Nat}(hi:i<l.length):∃b off,p=some ⟨b,off,none⟩∧Ob s λw=>w.cell? ⟨b,off+i,none⟩=some (.int .i64 l[i]):=by
 obtain⟨b,off,rfl,_⟩:=vT (h w hw) hi
 refine⟨b,off,rfl,λw' hw'=>?_⟩
 obtain⟨b',off',hp,hc⟩:=vT (h w' hw') hi
 cases hp
 exact hc
section
variable {g:GrD} {l:List Int}
theorem Z0{u:UnD}{p:PtD}(h:zG u g p=true):ptG u g p=true:=by
 rw[zG,gba]at h;exact h.2
theorem ahC{u:UnD}{p:PtD}(h:zG u g p=true)(ho:1≤p.op∧p.op≤8):(zm u.ss g.tys p.to).2.2=true:=by
 have h2:=Z0 h
 cases hf:(zm u.ss g.tys p.to).2.2 with
 |true=>rfl
 |false=>
  have hc:p.op=1∨p.op=2∨p.op=3∨p.op=4∨p.op=5∨p.op=6∨p.op=7∨p.op=8:=by omega
  rw[ptG]at h2
  rcases hc with hc|hc|hc|hc|hc|hc|hc|hc<;>simp [hc,hf]at h2
theorem qA{ss:List StD}{tys:List TyD}{p:PlD}(h:(zm ss tys p).2.2=true):p.ps.length≤8:=by
 unfold zm at h
 split at h
 ·simpa using h
 ·cases h
abbrev grL(g:GrD)(q1 q2 q3 q4:Option Addr)(c1 c2 c3 c4:Nat):List Value:=[.string g.name,.int .i64 g.lv,.slice q1 g.outs.length c1,.int .i64 g.pn,.slice q2 g.tys.length c2,.slice q3 g.nms.length c3,.slice q4 g.pts.length c4]
theorem abe{r:Gh}{c:List Value}(h:GrG r c g):∃q1 q2 q3 q4 c1 c2 c3 c4,c=grL g q1 q2 q3 q4 c1 c2 c3 c4∧GrG r (grL g q1 q2 q3 q4 c1 c2 c3 c4) g:=by
 obtain⟨vo,vt,vn,vp,rfl,k1,k2,k3,k4⟩:=id h
 obtain⟨q1,c1,rfl,_⟩:=k1.sl.shape
 obtain⟨q2,c2,rfl,_⟩:=k2.sl.shape
 obtain⟨q3,c3,rfl,_⟩:=k3.sl.shape
 obtain⟨q4,c4,rfl,_⟩:=k4.sl.shape
 exact⟨q1,q2,q3,q4,c1,c2,c3,c4,rfl,h⟩
theorem adF{r:Gh}{p:Option Addr}{n cap:Nat}(h:SlB 1 r xp (.slice p n cap) l):Ob r λw=>Sl w p (ints l):=ai0 (h.sl.mono λc x hx=>hx.1)
theorem Yn(h:∀x∈l,XO x):RowOf 1 xp (ints l) l:=⟨by rw[yh,Nat.mul_one],λj hj=>by
 refine⟨?_,h _ (gem hj)⟩
 rw[Nat.mul_one,ints,← List.map_drop,← List.map_take,List.drop_eq_getElem_cons hj];rfl⟩
end
end Go.Proofs
namespace Go.Sh
open Go.RowKit
section
section
variable {P:Program} {X:Nat→Prop} {w0 w:World} {r:Gh} {L:List Asr} {α:Type} {sz n:Nat} {R:List Value→α→Prop} {l:List α} {e:TypeId} {p:Option Addr} {cap:Nat}
theorem ai2(hz:0<sz)(h:SlG sz r R (.slice p n cap) l):∃xs,RowOf sz R xs l∧Ob r λw=>Sl w p xs:=by
 have key:∀k,k≤l.length→∃xs,RowOf sz R xs (l.take k)∧Ob r λw=>Sl w p xs:=by
  intro k
  induction k with
  |zero=>intro _;exact⟨[],by rw[List.take_zero];exact RowOf.nil,λw _=>Sl.nil w _⟩
  |succ k ih=>
   intro hk
   obtain⟨xs,h1,h2⟩:=ih (by omega)
   obtain⟨b,off,c,rfl,hc,hcc,hcell⟩:=h.get hz (show k<l.length by omega)
   have hxl:xs.length=k*sz:=by rw[h1.1,List.length_take,Nat.min_eq_left (by omega)]
   refine⟨xs++c,by rw[List.take_succ_eq_append_getElem (by omega)];exact h1.snoc hc hcc,λw hw i v hi=>?_⟩
   by_cases hlt:i<xs.length
   ·rw[List.getElem?_append_left hlt]at hi;exact h2 w hw i v hi
   ·rw[List.getElem?_append_right (by omega)]at hi
    have:=hcell _ v hi w hw
    exact⟨b,off,rfl,by rwa[show off+k*sz+(i-xs.length)=off+i by omega]at this⟩
 have:=key l.length (Nat.le_refl _)
 rwa[List.take_length]at this
theorem adG{xs:List Value}(h:RowOf sz R xs l)(hz:0<sz)(h1:∀c x,R c x→∀u∈c,u.oneCell'=true):∀u∈xs,u.oneCell'=true:=λu hu=>by
 obtain⟨i,hi,rfl⟩:=List.getElem_of_mem hu
 have hj:i/sz<l.length:=by
  rw[h.1]at hi
  exact Nat.div_lt_of_lt_mul (by rw[Nat.mul_comm];exact hi)
 refine h1 _ _ (h.2 _ hj) _ ?_
 have hm:=Nat.mod_lt i hz
 have hd:=Nat.div_add_mod i sz
 refine List.mem_of_getElem? (i:=i%sz) ?_
 rw[List.getElem?_take,if_pos hm,List.getElem?_drop,show i/sz*sz+i%sz=i by rw[Nat.mul_comm];exact hd,gqg hi]
end
end
end Go.Sh
namespace Go.Proofs
open Go.Sh
theorem aeI{r:Gh}{c:List Value}{o:OpD}(h:OpG r c o):∃q k,c=[.int .u8 o.k,.int .i64 o.n,.int .i64 o.pl.l,.slice q o.pl.ps.length k]:=by
 obtain⟨v,rfl,hl⟩:=h
 obtain⟨q,k,rfl,_⟩:=hl.sl.shape
 exact⟨q,k,rfl⟩
theorem ai3{r:Gh}{c:List Value}{o:OpD}(h:OpG r c o):∀u∈c,u.oneCell'=true:=by obtain⟨q,k,rfl⟩:=aeI h;simp[Value.oneCell']
def ajD(o:OpD):Bool:=decide (o.k≠0)
def ahD(p:PtD):List OpD:=(p.a::p.b::p.args).filter ajD
section
variable {a b t:TyD} {u:UnD} {g:GrD} {s:Int} {p:PtD}
abbrev bare(t:TyD):TyD:=t.mapR jH
theorem Z1(h:bare a=bare b):a.k=b.k∧a.m=b.m∧a.st=b.st∧TyD.mapsR jH a.of=TyD.mapsR jH b.of:=by
 cases a;cases b
 simp only[bare,TyD.mapR,TyD.mk.injEq]at h
 exact⟨h.1,h.2.1,h.2.2.2.1,h.2.2.2.2⟩
theorem aeJ{u:TyD}(h:bare a=bare b)(ha:a.of=[u]):∃x,b.of=[x]∧bare u=bare x:=by
 have h4:=(Z1 h).2.2.2
 rw[ha,TyD.mapsR,TyD.mapsR]at h4
 cases hb:b.of with
 |nil=>rw [hb,TyD.mapsR]at h4;cases h4
 |cons x l=>
  rw[hb,TyD.mapsR]at h4
  simp only[List.cons.injEq]at h4
  cases l with
  |nil=>exact ⟨x,rfl,h4.1⟩
  |cons y l=>rw [TyD.mapsR]at h4;cases h4.2
theorem ahE(h:bare a=bare b)(ha:a.of=[]):b.of=[]:=by
 have h4:=(Z1 h).2.2.2
 rw[ha,TyD.mapsR]at h4
 cases hb:b.of with
 |nil=>rfl
 |cons x l=>rw [hb,TyD.mapsR]at h4;cases h4
theorem aeK{u x:TyD}(hk:a.k=b.k)(hm:a.m=b.m)(hs:a.st=b.st)(hr:a.k≠4→a.re=b.re)(ha:a.of=[u])(hb:b.of=[x])(h:bare u=bare x):bare a=bare b:=by
 show a.mapR jH=b.mapR jH
 rw[J3 ha,J3 hb,hk,hm,hs,show u.mapR jH=x.mapR jH from h]
 by_cases h4:b.k=4
 ·rw[if_pos h4,if_pos h4];rfl
 ·rw[if_neg h4,if_neg h4,hr (by omega)]
theorem vB{n:Nat}(h:zt s n t=true)(hk:t.k≠4):t.re=0:=by
 cases n with
 |zero=>cases h
 |succ n=>exact (ajs h hk).2
theorem alI:∀(n:Nat){t:TyD}{l:List Int},zt s n t=true→bare (t.lay l)=bare t:=by
 intro n
 induction n with
 |zero=>intro t l h;cases h
 |succ n ih=>
  intro t l h
  obtain⟨hk1,hk2,hk3⟩:=amm t l
  rcases zB h with⟨ho,hk⟩|⟨u,ho,hu,hk⟩
  ·show(t.lay l).mapR jH=t.mapR jH
   rw[J2 (ajy ho),J2 ho,hk1,hk2,hk3,if_neg (by omega),if_neg (by omega),Jp ho]
   show TyD.mk _ _ (if t.k=4 then _ else _) _ _=_
   rw[if_neg (by omega)]
  ·refine aeK hk1 hk2 hk3 (λh4=>?_) (adw ho) ho (ih hu)
   rw[hk1]at h4
   rw[vS ho]
   show(if t.k=4 then _ else _)=_
   rw[if_neg h4]
theorem ajE{s':Int}:∀(n:Nat){a b:TyD},zt s n a=true→zt s' n b=true→(x7 ya n a b=true↔bare a=bare b):=by
 intro n
 induction n with
 |zero=>intro a b h;cases h
 |succ n ih=>
  intro a b ha hb
  have flat:(!(decide (a.k≠b.k) || !(a.m == b.m)||decide (a.st≠b.st) || !ya a.re b.re))=true↔a.k=b.k∧a.m=b.m∧a.st=b.st:=by
   simp only[ya,Bool.not_true,Bool.or_false,Bool.not_eq_true',Bool.or_eq_false_iff,decide_eq_false_iff_not,Bool.not_eq_false',beq_iff_eq]
   constructor
   ·rintro⟨⟨h1,h2⟩,h3⟩;exact⟨by omega,h2,by omega⟩
   ·rintro⟨h1,h2,h3⟩;exact⟨⟨by omega,h2⟩,by omega⟩
  rcases zB ha with⟨ho,hk⟩|⟨u,ho,hu,hk⟩
  ·rw[JZ ho,flat]
   constructor
   ·rintro⟨h1,h2,h3⟩
    rcases zB hb with⟨ho',hk'⟩|⟨x,ho',hx,hk'⟩
    ·show a.mapR jH=b.mapR jH
     rw[J2 ho,J2 ho',h1,h2,h3,if_neg (by omega),if_neg (by omega),vB ha (by omega),vB hb (by omega)]
    ·omega
   ·intro h;obtain⟨h1,h2,h3,_⟩:=Z1 h;exact⟨h1,h2,h3⟩
  ·constructor
   ·intro h
    rcases zB hb with⟨ho',hk'⟩|⟨x,ho',hx,hk'⟩
    ·exfalso
     have hne:a.k≠b.k:=by omega
     rw[XJ (by rw[gde hne];rfl)]at h;cases h
    ·rw[Y8 ho ho',gba,flat]at h
     obtain⟨⟨h1,h2,h3⟩,h4⟩:=h
     exact aeK h1 h2 h3 (λh5=>by rw[vB ha h5,vB hb (by omega)]) ho ho' ((ih hu hx).1 h4)
   ·intro h
    obtain⟨x,ho',hbx⟩:=aeJ h ho
    obtain⟨h1,h2,h3,_⟩:=Z1 h
    have hx:zt s' n x=true:=by
     rcases zB hb with⟨ho2,_⟩|⟨y,ho2,hy,_⟩
     ·rw[ho2]at ho';cases ho'
     ·rw[ho2]at ho';cases ho';exact hy
    rw[Y8 ho ho',gba,flat]
    exact⟨⟨h1,h2,h3⟩,(ih hu hx).2 hbx⟩
theorem ais(h:zN ya a b=true):isB a=true∧isB b=true∧bare a=bare b:=by
 rw[zN,gba,gba]at h
 exact⟨h.1.1,h.1.2,(ajE 48 h.1.1 h.1.2).1 h.2⟩
theorem akC:∀(n:Nat){a b:TyD},zt s n a=true→bare a=bare b→(b.k≠4→b.re=0)→(∀u,b.of=[u]→∃m,zt s m u=true)→(b.k=4→-1≤b.re)→zt s n b=true:=by
 intro n
 induction n with
 |zero=>intro a b h;cases h
 |succ n ih=>
  intro a b ha h hre hin hlow
  obtain⟨h1,h2,h3,_⟩:=Z1 h
  rcases zB ha with⟨ho,hk⟩|⟨u,ho,hu,hk⟩
  ·have hob:=ahE h ho
   have hr:=hre (by omega)
   have hra:=vB ha (by omega)
   have :b=a:=by
    cases a;cases b
    simp only[TyD.k,TyD.m,TyD.re,TyD.st,TyD.of]at *
    subst h1 h2 h3 ho hob hr hra;rfl
   rw[this];exact ha
  ·obtain⟨x,hob,hbx⟩:=aeJ h ho
   obtain⟨m,hm⟩:=hin x hob
   have hx:zt s n x=true:=by
    refine ih hu hbx (λhk4=>vB hm hk4) (λy hy=>?_) (λhk4=>?_)
    ·cases m with
     |zero=>cases hm
     |succ m=>
      rcases zB hm with⟨ho2,_⟩|⟨z,ho2,hz,_⟩
      ·rw[ho2]at hy;cases hy
      ·rw[ho2]at hy;cases hy;exact⟨m,hz⟩
    ·cases m with
     |zero=>cases hm
     |succ m=>exact aeC hm hk4
   have hib:inB s n b=true:=by rw[inB,hob];exact hx
   have hia:inB s n a=true:=by rw[inB,ho];exact hu
   rw[yv]at ha⊢
   rw[if_neg (by omega),if_neg (by omega)]at ha⊢
   rw[hia]at ha
   rw[hib]
   by_cases hk3:a.k=3
   ·rw[if_pos hk3]at ha
    rw[if_pos (by omega),← h2,← h3,hre (by omega),hob]
    rw[vB (n:=n+1) (s:=s) (by rw[yv,if_neg (by omega),if_neg (by omega),if_pos hk3,hia];exact ha) (by omega),ho]at ha
    exact ha
   ·have hk4:a.k=4:=by omega
    rw[if_neg hk3,if_pos hk4]at ha
    rw[if_neg (by omega),if_pos (by omega),← h3,hob]
    rw[ho]at ha
    simp only[gba,gdt]at ha⊢
    exact⟨⟨hlow (by omega),ha.1.2⟩,ha.2⟩
abbrev agL(s:TyD×Int):TyD×Int:=(bare s.1,s.2)
theorem ajF{ss:List StD}{t':TyD}{k:Int}(h:bare t=bare t')(hf:Fine ss t):(zF ss t k).map agL=(zF ss t' k).map agL:=by
 obtain⟨h1,h2,h3,_⟩:=Z1 h
 have hin:∀n:Int,(t.of.head?.map λu=>(u,n)).map agL=(t'.of.head?.map λu=>(u,n)).map agL:=by
  intro n
  rcases hf.cases with⟨ho,_⟩|⟨u,ho,_⟩
  ·rw[ho,ahE h ho]
  ·obtain⟨x,ho',hx⟩:=aeJ h ho
   rw[ho,ho']
   show some (bare u,n)=some (bare x,n)
   rw[hx]
 unfold zF
 rw[← h1,← h2,← h3]
 split
 ·exact hin 1
 split
 ·exact hin _
 split
 ·rfl
 ·rfl
theorem adH{ss:List StD}(hg:x8 ss):∀(l:List Int){t t':TyD},bare t=bare t'→Fine ss t→(zC ss l t).map (λx=>bare x.1)=(zC ss l t').map λx=>bare x.1
 |[],t,t',h,_=>by show some (bare t)=some (bare t');rw[h]
 |k::l,t,t',h,hf=>by
  have hs:=ajF (k:=k) h hf
  rw[zC,zC]
  cases h1:zF ss t k with
  |none=>
   rw[h1]at hs
   cases h2:zF ss t' k with
   |none=>rfl
   |some s'=>rw [h2]at hs;cases hs
  |some s=>
   rw[h1]at hs
   cases h2:zF ss t' k with
   |none=>rw [h2]at hs;cases hs
   |some s'=>
    rw[h2]at hs
    have hb:bare s.1=bare s'.1:=congrArg Prod.fst (Option.some.inj hs)
    have:=adH hg l hb (ady hg hf h1)
    show((zC ss l s.1).map _).map _=((zC ss l s'.1).map _).map _
    rw[Option.map_map,Option.map_map]
    exact this
theorem afG{ss:List StD}:∀(l:List Int)(t:TyD)(m:Int),(goG ss l (t,m)).map (·.1)=(zC ss l t).map (·.1)
 |[],t,m=>rfl
 |k::l,t,m=>by
  have hs:(stepG ss (t,m) k).map (·.1)=(zF ss t k).map (·.1):=by
   unfold stepG zF
   split
   ·cases t.of.head?<;>rfl
   split
   ·cases t.of.head?<;>rfl
   split
   ·cases(ze ss t.st)[k.toNat]?<;>rfl
   ·rfl
  rw[goG,zC]
  cases h1:stepG ss (t,m) k with
  |none=>
   rw[h1]at hs
   cases h2:zF ss t k with
   |none=>rfl
   |some s'=>rw [h2]at hs;cases hs
  |some s=>
   rw[h1]at hs
   cases h2:zF ss t k with
   |none=>rw [h2]at hs;cases hs
   |some s'=>
    rw[h2]at hs
    have hb:s.1=s'.1:=Option.some.inj hs
    have:=afG (ss:=ss) l s.1 s.2
    show(goG ss l s).map _=((zC ss l s'.1).map _).map _
    rw[Option.map_map,← hb]
    exact this
theorem ajG{fn:Nat}(hM:MayU u)(hH:HeadU u fn g){p:PlD}(ho:(zm u.ss g.tys p).2.2=true):
  ∃x,zK u.ss (kc g.tys g.lv) p=some x∧bare x.1=bare (zm u.ss g.tys p).1:=by
 have hfin:=hH.fine hM.ok
 have h8:=qA ho
 unfold zm at ho⊢
 cases hb:(if p.l<0 then none else g.tys[p.l.toNat]?).bind λt=>goG u.ss p.ps (t,0)with
 |none=>rw [hb]at ho;cases ho
 |some s=>
  split at hb
  ·cases hb
  ·rename_i hl0
   cases ht:g.tys[p.l.toNat]? with
   |none=>rw [ht]at hb;cases hb
   |some t=>
    rw[ht]at hb
    have hb:goG u.ss p.ps (t,0)=some s:=hb
    obtain⟨hlt,rfl⟩:=List.getElem?_eq_some_iff.1 ht
    have hft:Fine u.ss g.tys[p.l.toNat]:=hfin.all _ (gem hlt)
    have hB:=hft.is hfin.few
    have hlow:∀i (hi:i<g.tys.length),∀x∈yN (regsT g.tys[i]) (g.lv+zU (g.tys.take i)),-1≤x:=λi hi x hx=>by
     obtain⟨j,hj,rfl⟩:=List.getElem_of_mem hx
     rw[vy]at hj
     rw[aeD hj]
     have:=(Xk ((regsT g.tys[i]).take j)).1
     have:=hH.lv0
     have:=vz (g.tys.take i)
     split<;>omega
    have hmay:∀i (hi:i<g.tys.length),mayB u.ss (g.tys[i].lay (yN (regsT g.tys[i]) (g.lv+zU (g.tys.take i))))=true:=λi hi=>by
     have hf:=hfin.all _ (gem hi)
     have hrT:regsT g.tys[i]=g.tys[i].regs:=by rw[regsT,hf.is hfin.few];rfl
     rw[mayB,hM.ok]
     have:=alw (l:=yN (regsT g.tys[i]) (g.lv+zU (g.tys.take i))) 48 hf (by rw[vy,hrT];exact Nat.le_refl _) (hlow i hi)
     rw[this];rfl
    have hO:yd u.ss (kc g.tys g.lv) p=true:=by
     simp only[yd,gba,gdt,List.all_eq_true,kC]
     refine⟨⟨⟨by omega,by omega⟩,h8⟩,hM.ok,λx hx=>?_⟩
     obtain⟨i,hi,rfl⟩:=List.getElem_of_mem hx
     rw[kC]at hi
     rw[aeE hi]
     exact hmay i hi
    have hget:(kc g.tys g.lv).getD p.l.toNat zI=g.tys[p.l.toNat].lay (yN (regsT g.tys[p.l.toNat]) (g.lv+zU (g.tys.take p.l.toNat))):=by
     rw[ggd,gqg (by rw[kC];exact hlt),Option.getD_some,aeE hlt]
    rw[zK,if_pos hO,hget]
    have e1:=adH hfin.good p.ps (alI (l:=yN (regsT g.tys[p.l.toNat]) (g.lv+zU (g.tys.take p.l.toNat))) 48 hB).symm hft
    have e2:=afG (ss:=u.ss) p.ps g.tys[p.l.toNat] 0
    rw[hb]at e2
    cases hw:zC u.ss p.ps g.tys[p.l.toNat]with
    |none=>rw [hw]at e2;cases e2
    |some y=>
     rw[hw]at e1 e2
     have e2:s.1=y.1:=Option.some.inj e2
     cases hw2:zC u.ss p.ps (g.tys[p.l.toNat].lay (yN (regsT g.tys[p.l.toNat]) (g.lv+zU (g.tys.take p.l.toNat))))with
     |none=>rw [hw2]at e1;cases e1
     |some z=>
      rw[hw2]at e1
      have e1:bare y.1=bare z.1:=Option.some.inj e1
      exact⟨z,rfl,by show bare z.1=bare s.1;rw[← e1,e2]⟩
theorem Vb{ss:List StD}{tys:List TyD}:∀{l:List OpD}{ts:List TyD},xe ss tys l ts=true→l.length=ts.length∧∀(i:Nat)(hi:i<l.length)(hj:i<ts.length),(zs ss tys l[i]).2=true∧zN ya (zs ss tys l[i]).1 ts[i]=true
 |[],[],_=>⟨rfl,λi hi=>absurd hi (Nat.not_lt_zero _)⟩
 |[],_::_,h=>by cases h
 |_::_,[],h=>by cases h
 |o::l,t::r,h=>by
  rw[qz,gba,gba]at h
  obtain⟨h1,h2⟩:=Vb h.2
  refine⟨by simp[h1],λi hi hj=>?_⟩
  cases i with
  |zero=>exact h.1
  |succ i=>exact h2 i (by simpa using hi) (by simpa using hj)
theorem amL{o:OpD}(h:o.k≠0):vh o=false:=by rw[vh,decide_eq_false h];rfl
theorem abN(h:ptG u g p=true):1≤p.op∧p.op≤14:=by
 refine Classical.byContradiction λhc=>?_
 rw[ptG]at h
 rw[if_neg (by omega),if_neg (by omega),if_neg (by omega),if_neg (by omega),if_neg (by omega),if_neg (by omega),if_neg (by omega),if_neg (by omega),if_neg (by omega),if_neg (by omega),if_neg (by omega),if_neg (by omega),if_neg (by omega)]at h
 cases h
theorem akD(h:zG u g p=true):∀o∈ahD p,(zs u.ss g.tys o).2=true:=by
 have h2:=Z0 h
 intro o ho
 rw[ahD,List.mem_filter,ajD,gdt]at ho
 obtain⟨hm,hk⟩:=ho
 have hn:=amL hk
 have hc:p.op=1∨p.op=2∨p.op=3∨p.op=4∨p.op=5∨p.op=6∨p.op=7∨p.op=8∨p.op=9∨p.op=10∨p.op=11∨p.op=12∨p.op=13∨p.op=14:=by
  have:=abN h2
  omega
 cases hf:(zs u.ss g.tys o).2 with
 |true=>rfl
 |false=>
  exfalso
  rw[List.mem_cons,List.mem_cons]at hm
  rw[ptG]at h2
  rcases hm with rfl|rfl|hm
  ·rcases hc with hc|hc|hc|hc|hc|hc|hc|hc|hc|hc|hc|hc|hc|hc<;>simp [hc,hf,hn,zE,jd]at h2
  ·rcases hc with hc|hc|hc|hc|hc|hc|hc|hc|hc|hc|hc|hc|hc|hc<;>simp [hc,hf,hn,zE,jd]at h2
  ·have hne:p.args.length≠0:=λh0=>by rw[List.eq_nil_of_length_eq_zero h0]at hm;cases hm
   obtain⟨i,hi,rfl⟩:=List.getElem_of_mem hm
   have harg:∀ts,xe u.ss g.tys p.args ts=false:=λts=>by
    cases ha:xe u.ss g.tys p.args ts with
    |false=>rfl
    |true=>
     obtain⟨hl,hx⟩:=Vb ha
     have:=(hx i hi (by omega)).1
     rw[hf]at this;cases this
   have hne':p.args≠[]:=λh0=>hne (by rw[h0];rfl)
   rcases hc with hc|hc|hc|hc|hc|hc|hc|hc|hc|hc|hc|hc|hc|hc<;>first|(simp[hc,hne,hne',zE,jd]at h2;done)|(simp[hc,hne,hne',zE,jd,harg]at h2;try (split at h2<;>simp_all))
theorem alJ(hM:MayU u)(h:zG u g p=true):p.args.length≤1000:=by
 have h2:=Z0 h
 by_cases hne:p.args.length=0
 ·omega
 have hne':p.args≠[]:=λh0=>hne (by rw[h0];rfl)
 rw[ptG]at h2
 by_cases h6:p.op=6
 ·simp only[h6,Int.reduceEq,if_false,if_true,gba,gdt,isK]at h2
  have hl:=(Vb h2.2).1
  have hf:(yr u.ss (zm u.ss g.tys p.to).1).1.length≤8:=by
   rw[yr]
   split
   ·exact xV (yU hM.ok).2.1 _
   ·simp
  omega
 by_cases h7:p.op=7
 ·simp only[h7,Int.reduceEq,if_false,if_true,gba,gdt]at h2
  have hlt:p.fn.toNat<u.fs.length:=by omega
  rw[gqg hlt]at h2
  have h3:=h2.2
  simp only[gba]at h3
  have hl:=(Vb h3.2).1
  have:=(hM.hd hlt).pn8
  rw[List.length_take]at hl
  omega
 ·exfalso
  have hc:p.op=1∨p.op=2∨p.op=3∨p.op=4∨p.op=5∨p.op=8∨p.op=9∨p.op=10∨p.op=11∨p.op=12∨p.op=13∨p.op=14:=by
   have:=abN (Z0 h)
   omega
  rcases hc with hc|hc|hc|hc|hc|hc|hc|hc|hc|hc|hc|hc<;>simp [hc,hne,hne',zE,jd]at h2
theorem akE:(bare t).k=t.k∧(bare t).m=t.m∧(bare t).st=t.st:=by cases t;exact⟨rfl,rfl,rfl⟩
theorem alK{n:Int}{p:PlD}{fn:Nat}(hM:MayU u)(hH:HeadU u fn g)(ho:(zm u.ss g.tys p).2.2=true):
  ∃x,yx u.ss (allD u g).tys p=(x,0)∧isB x=true∧bare x=bare (zm u.ss g.tys p).1∧zK u.ss (allD u g).tys p≠none:=by
 obtain⟨x,hw,hb⟩:=ajG hM hH ho
 have hw:zK u.ss (allD u g).tys p=some x:=hw
 obtain⟨hf,h32⟩:=Q0 hw
 exact⟨x.1,by rw[yx,hw],hf.is h32,hb,by rw[hw];simp⟩
end
end Go.Proofs
namespace Go.Proofs.Tryz
open Go.Sh
section
variable {t0 t1:Value} {w:World} {K:VW}
def XV(t0:Value)(w:World)(K:VW):Prop:=
 pw w (Instr.box 96 t0) λt1 w1=>
 za (λK2=>
 pf 96 t1 2 λt4=>fl w1 t4 93 0 91 λt6=>bt .neq 91 t6 (Value.int .u8 0) λt7=>zc t7 (fl w1 t1 96 2 93 λt10=>pw w1 (Instr.buildSlice 94 1 #[(0,t10)]) λt11 w6=>
 pw w6 (Builtin.append_ #[94,94] 94 #[(Value.slice Option.none 0 0),t11]) λt12 w7=>
 K2 [t12] w7) (K2 [(Value.slice Option.none 0 0)] w1)) (λs3 _d4 w5=>
 za (λK8=>
 pf 96 t1 3 λt13=>fl w5 t13 93 0 91 λt15=>bt .neq 91 t15 (Value.int .u8 0) λt16=>zc t16 (fl w5 t1 96 3 93 λt19=>pw w5 (Instr.buildSlice 94 1 #[(0,t19)]) λt20 w12=>
 pw w12 (Builtin.append_ #[94,94] 94 #[(s3.getD 0 u_),t20]) λt21 w13=>
 K8 [t21] w13) (K8 [(s3.getD 0 u_)] w5)) (λs9 _d10 w11=>
 fl w11 t1 96 4 94 λt24=>pw w11 (Builtin.append_ #[94,94] 94 #[(s9.getD 0 u_),t24]) λt25 w14=>
 K t25 w14))
theorem abo(h:XV t0 w K):zd prog vv #[t0] w K:=
 okC false (.s (.r (rz 2 0 2)) (.s (.r (rz 1 0 0)) (.j [3] (.s (.r (rz 4 0 16)) (.c (.r (rz 6 0 656)) (.n))) (.j [3] (.s (.r (rz 4 0 16)) (.c (.r (rz 6 0 656)) (.n))) (.s (.r (rz 5 0 144)) (.n)))))) func85 rfl (by kernel_rfl) (by kernel_rfl) h
def Qy(t0:Value)(w:World)(K:VW):Prop:=
 pw w (Instr.box 96 t0) λt1 w1=>
 fl w1 t1 96 0 90 λt4=>bt .geq 90 t4 (Value.int .u8 1) λt5=>za (λK2=>gIf t5 true (fl w1 t1 96 0 90 λt8=>bt .leq 90 t8 (Value.int .u8 8) λt9=>K2 [t9] w1) (K2 [u_] w1)) (λs3 _d4 w5=>
 zb t5 (s3.getD 0 u_) fa_ λt10=>K t10 w5)
theorem acu(h:Qy t0 w K):zd prog jc #[t0] w K:=
 okC false (.s (.r (rz 2 0 2)) (.s (.r (ra 4 0 4 (.grp 6 true (ri 3 4 4) [9] (rz 2 7 0)))) (.n))) func87 rfl (by kernel_rfl) (by kernel_rfl) h
def VA(t0 t1 t2:Value)(w:World)(K:VW):Prop:=
 pw w (Instr.box 25 t0) λt3 w1=>
 pw w1 (Instr.box 80 t2) λt5 w2=>
 pw w2 (Instr.alloc 43 true (.tuple #[])) λt6 w3=>
 lo w3.drew 25 t3 λt10=>fl w3.drew t3 25 1 23 λt12=>xl w3.drew 23 t12 t1 101 λt15=>pp (Instr.build 170 #[(0,t10),(1,t15)]) λt16=>pw w3.drew (Instr.box 170 t16) λt17 w4=>
 lo w4 80 t5 λt19=>ca yC #[t17,t19] w4 λt20 w5=>
 pe t20 0 λt21=>pe t20 1 λt22=>pe t20 2 λt23=>so w5 43 t6 t21 λw6=>pq w6 (zi 43 t6) λr7=>K (.tuple #[r7,t22,t23]) w6
theorem aeL{t2:Value}(h:VA t0 t1 t2 w K):zd prog Yx #[t0,t1,t2] w K:=
 okC false (.s (.r (rz 5 0 42)) (.s (.r (rz 9 0 33809)) (.s (.r (rz 9 0 8228)) (.n)))) func39 rfl (by kernel_rfl) (by kernel_rfl) h
def aat(t0 t1:Value)(w:World)(K:VW):Prop:=
 pw w (Instr.box 80 t0) λt2 w1=>
 pw w1 (Instr.box 80 t1) λt3 w2=>
 lo w2 80 t2 λt5=>lo w2 80 t3 λt6=>ca Yy #[t5,t6] w2 λt7 w3=>
 bt .eql 3 t7 (i6 0) λt8=>K t8 w3
theorem af7(h:aat t0 t1 w K):zd prog jk #[t0,t1] w K:=
 okC false (.s (.r (rz 3 0 10)) (.s (.r (rz 5 0 37)) (.n))) func35 rfl (by kernel_rfl) (by kernel_rfl) h
def VB(t0 t1:Value)(w:World)(K:VW):Prop:=
 pw w (Instr.box 80 t0) λt2 w1=>
 pw w1 (Instr.box 80 t1) λt3 w2=>
 fl w2 t2 80 0 3 λt7=>fl w2 t3 80 0 3 λt9=>bf .neq 3 t7 t9 λt10=>zc t10 (fl w2 t2 80 0 3 λt12=>fl w2 t3 80 0 3 λt14=>bf .lss 3 t12 t14 λt15=>zc t15 (K (i6 (-1)) w2) (K (i6 1) w2)) (zp [(i6 0)] w2 (λs4 _d5 w6 K3=>
 fl w6 t2 80 1 78 λt18=>pp (Builtin.len_ #[78] 3 #[t18]) λt19=>bf .lss 3 (s4.getD 0 u_) t19 λt20=>za (λK7=>gIf t20 true (fl w6 t3 80 1 78 λt24=>pp (Builtin.len_ #[78] 3 #[t24]) λt25=>bf .lss 3 (s4.getD 0 u_) t25 λt26=>K7 [t26] w6) (K7 [u_] w6)) (λs8 _d9 w10=>
 zb t20 (s8.getD 0 u_) fa_ λt27=>zc t27 (fl w10.drew t2 80 1 78 λt31=>xl w10.drew 78 t31 (s4.getD 0 u_) 84 λt34=>fl w10.drew t3 80 1 78 λt36=>xl w10.drew 78 t36 (s4.getD 0 u_) 84 λt39=>bf .lss 84 t34 t39 λt40=>zc t40 (K (i6 (-1)) w10.drew) (fl w10.drew.drew t2 80 1 78 λt42=>xl w10.drew.drew 78 t42 (s4.getD 0 u_) 84 λt45=>fl w10.drew.drew t3 80 1 78 λt47=>xl w10.drew.drew 78 t47 (s4.getD 0 u_) 84 λt50=>bf .gtr 84 t45 t50 λt51=>zc t51 (K (i6 1) w10.drew.drew) (bt .add 3 (s4.getD 0 u_) (i6 1) λt29=>K3 [t29] w10.drew.drew))) (fl w10 t2 80 1 78 λt53=>pp (Builtin.len_ #[78] 3 #[t53]) λt54=>fl w10 t3 80 1 78 λt56=>pp (Builtin.len_ #[78] 3 #[t56]) λt57=>bf .lss 3 t54 t57 λt58=>zc t58 (K (i6 (-1)) w10) (fl w10 t2 80 1 78 λt60=>pp (Builtin.len_ #[78] 3 #[t60]) λt61=>fl w10 t3 80 1 78 λt63=>pp (Builtin.len_ #[78] 3 #[t63]) λt64=>bf .gtr 3 t61 t64 λt65=>zc t65 (K (i6 1) w10) (K (i6 0) w10))))))
theorem aeM(h:VB t0 t1 w K):zd prog Yy #[t0,t1] w K:=
 okC false (.s (.r (rz 3 0 10)) (.s (.s (.r (rz 5 0 68)) (.c (.s (.s (.r (rz 5 0 68)) (.c (.s (.r (rz 1 0 0)) (.n)) (.n))) (.s (.r (rz 1 0 0)) (.n))) (.n))) (.s (.s (.r (rz 1 0 0)) (.b (.lp [5] (.s (.s (.r (ra 6 0 16 (.grp 21 true (ri 5 6 16) [26] (rz 1 11 0)))) (.c (.n) (.n))) (.s (.b (.s (.s (.r (rz 11 0 266500)) (.c (.s (.r (rz 1 0 0)) (.n)) (.n))) (.s (.r (rz 11 0 266500)) (.c (.s (.r (rz 1 0 0)) (.n)) (.n))))) (.r (rz 3 0 0))))))) (.s (.s (.r (rz 7 0 260)) (.c (.s (.r (rz 1 0 0)) (.n)) (.n))) (.s (.s (.r (rz 7 0 260)) (.c (.s (.r (rz 1 0 0)) (.n)) (.n))) (.s (.r (rz 1 0 0)) (.n))))))) func84 rfl (by kernel_rfl) (by kernel_rfl) h
end
end Go.Proofs.Tryz
namespace Go.Proofs
open Go.Sh
theorem js{r:Gh}{p:PtD}{q1 q2 q3 q4 q5:Option Addr}{c1 c2 c3 c4 c5:Nat}(h:PtG r (ptL p q1 q2 q3 q4 q5 c1 c2 c3 c4 c5) p):
  PlG r [.int .i64 p.to.l,.slice q1 p.to.ps.length c1] p.to∧OpG r [.int .u8 p.a.k,.int .i64 p.a.n,.int .i64 p.a.pl.l,.slice q2 p.a.pl.ps.length c2] p.a∧
  OpG r [.int .u8 p.b.k,.int .i64 p.b.n,.int .i64 p.b.pl.l,.slice q3 p.b.pl.ps.length c3] p.b∧SlB 4 r (OpG r) (.slice q4 p.args.length c4) p.args∧PlG r [.int .i64 p.fr.l,.slice q5 p.fr.ps.length c5] p.fr:=by
 obtain⟨_,_,_,_,_,hE,k1,k2,k3,k4,k5⟩:=h
 cases hE
 exact⟨⟨_,rfl,k1⟩,⟨_,rfl,k2⟩,⟨_,rfl,k3⟩,k4,⟨_,rfl,k5⟩⟩
section
variable {α:Type}
noncomputable def eqb{α:Type}(x y:α):Bool:=@decide (x=y) (Classical.propDecidable _)
theorem ai4{x y:α}:eqb x y=true↔x=y:=by
 rw[eqb];exact @decide_eq_true_iff _ (Classical.propDecidable _)
theorem anJ{x y:α}{b:Bool}(h:b=true↔x=y):b=eqb x y:=by
 rw[Bool.eq_iff_iff,h,ai4]
theorem acv(x:α):eqb x x=true:=ai4.2 rfl
theorem PlD.eq_iff{p q:PlD}:p=q↔p.l=q.l∧p.ps=q.ps:=by
 cases p;cases q;simp
def nextP(p:PtD):List Int:=if p.op=14 then []else if p.op=12∧p.nx≠p.el then [p.nx,p.el]else [p.nx]
end
end Go.Proofs
namespace Go.Proofs.Tryz
open Go.Sh
section
variable {t0 t1 t2:Value} {w:World} {K:VW}
def aau(t0 t1 t2:Value)(w:World)(K:VW):Prop:=
 pw w (Instr.box 80 t2) λt5 w1=>
 pw w1 (Instr.alloc 43 true (.tuple #[])) λt6 w2=>
 fl w2 t5 80 0 3 λt16=>bt .lss 3 t16 (i6 0) λt17=>za (λK3=>gIf t17 false (fl w2 t5 80 0 3 λt20=>pp (Builtin.len_ #[41] 3 #[t1]) λt22=>bf .geq 3 t20 t22 λt23=>K3 [t23] w2) (K3 [u_] w2)) (λs4 _d5 w6=>
 zb t17 tr_ (s4.getD 0 u_) λt24=>za (λK7=>gIf t24 false (fl w6 t5 80 1 78 λt27=>pp (Builtin.len_ #[78] 3 #[t27]) λt28=>bt .gtr 3 t28 (i6 8) λt29=>K7 [t29] w6) (K7 [u_] w6)) (λs8 _d9 w10=>
 zb t24 tr_ (s8.getD 0 u_) λt30=>za (λK11=>gIf t30 false (ca Yv #[t0,t1] w10 λt34 w15=>
 pp (Op.unary .not t34) λt35=>K11 [t35] w15) (K11 [u_] w10)) (λs12 _d13 w14=>
 zb t30 tr_ (s12.getD 0 u_) λt36=>zc t36 (pp (Instr.build 43 #[]) λt37=>so w14 43 t6 t37 λw16=>pq w16 (zi 43 t6) λr17=>K (.tuple #[r17,(Value.slice Option.none 0 0),fa_]) w16) (fl w14 t5 80 0 3 λt40=>xl w14 41 t1 t40 43 λt42=>pw w14 (Instr.alloc 43 true (.tuple #[])) λt9 w18=>
 so w18 43 t9 t42 λw19=>zp [(Value.slice Option.none 0 0),(i6 0)] w19 (λs21 _d22 w23 K20=>
 fl w23 t5 80 1 78 λt45=>pp (Builtin.len_ #[78] 3 #[t45]) λt46=>bf .lss 3 (s21.getD 1 u_) t46 λt47=>zc t47 (za (λK24=>
 lo w23.drew 43 t9 λt52=>fl w23.drew t5 80 1 78 λt54=>xl w23.drew 78 t54 (s21.getD 1 u_) 84 λt57=>((ca Zl #[t0,t52,t57] w23.drew λt58 w28=>
 pe t58 0 λt59=>pe t58 1 λt60=>pe t58 2 λt61=>pw w28 (Instr.alloc 43 true (.tuple #[])) λt12 w29=>
 Ext w28 w29∧
 so w29 43 t12 t59 λw30=>K24 [t12,t60,t61] w30)∧
 (pw w23.drew (Instr.alloc 43 true (.tuple #[])) λt12_32 w31=>
 Ext w23.drew w31∧
 ca Zl #[t0,t52,t57] w31 λt58_34 w33=>
 pe t58_34 0 λt59_35=>pe t58_34 1 λt60_36=>pe t58_34 2 λt61_37=>so w33 43 t12_32 t59_35 λw38=>K24 [t12_32,t60_36,t61_37] w38))) (λs25 _d26 w27=>
 pp (Op.unary .not (s25.getD 2 u_)) λt63=>zc t63 (pp (Instr.build 43 #[]) λt64=>so w27 43 t6 t64 λw39=>pq w39 (zi 43 t6) λr40=>K (.tuple #[r40,(Value.slice Option.none 0 0),fa_]) w39) (lo w27 43 (s25.getD 0 u_) λt65=>so w27 43 t9 t65 λw41=>pw w41 (Instr.buildSlice 55 1 #[(0,(s25.getD 1 u_))]) λt68 w42=>
 pw w42 (Builtin.append_ #[55,55] 55 #[(s21.getD 0 u_),t68]) λt69 w43=>
 bt .add 3 (s21.getD 1 u_) (i6 1) λt49=>K20 [t69,t49] w43))) (lo w23 43 t9 λt70=>so w23 43 t6 t70 λw44=>pq w44 (zi 43 t6) λr45=>K (.tuple #[r45,(s21.getD 0 u_),tr_]) w44))))))
theorem af8(h:aau t0 t1 t2 w K):zd prog Xu #[t0,t1,t2] w K:=
 okC false (.s (.r (rz 4 0 10)) (.s (.s (.r (ra 4 0 4 (.grp 18 false (ri 5 4 4) [23] (ra 2 9 0 (.grp 25 false (ri 4 11 4) [29] (ra 2 15 0 (.grp 31 false (ri 4 17 32) [35] (rz 1 21 0)))))))) (.c (.s (.r (rz 4 0 8)) (.n)) (.n))) (.s (.r (rz 7 0 10512)) (.s (.r (rz 1 0 0)) (.s (.s (.r (rz 1 0 0)) (.b (.lp [10,11] (.s (.s (.r (rz 5 0 16)) (.c (.n) (.n))) (.s (.b (.j [12,13,14] (.r (ra 7 0 4164 (.alt 7 .l (rz 8 8 2816) (ra 1 12 3 (ra 5 7 2 (rz 3 13 2)))))) (.s (.s (.r (rz 2 0 0)) (.c (.s (.r (rz 4 0 8)) (.n)) (.n))) (.s (.r (rz 2 0 9)) (.r (rz 5 0 160)))))) (.r (rz 3 0 0))))))) (.s (.r (rz 5 0 33)) (.n))))))) func147 rfl (by kernel_rfl) (by kernel_rfl) h
def Qz(t0:Value)(w:World)(K:VW):Prop:=
 pp (Builtin.len_ #[22] 3 #[t0]) λt8=>bt .gtr 3 t8 (i6 32) λt9=>zc t9 (K fa_ w) (zp [(i6 0)] w (λs2 _d3 w4 K1=>
 pp (Builtin.len_ #[22] 3 #[t0]) λt12=>bf .lss 3 (s2.getD 0 u_) t12 λt13=>zc t13 (px 22 t0 (s2.getD 0 u_) λt18=>fl w4 t18 117 1 115 λt20=>pp (Builtin.len_ #[115] 3 #[t20]) λt21=>bt .lss 3 t21 (i6 1) λt22=>za (λK5=>gIf t22 false (px 22 t0 (s2.getD 0 u_) λt26=>fl w4 t26 117 1 115 λt28=>pp (Builtin.len_ #[115] 3 #[t28]) λt29=>bt .gtr 3 t29 (i6 8) λt30=>K5 [t30] w4) (K5 [u_] w4)) (λs6 _d7 w8=>
 zb t22 tr_ (s6.getD 0 u_) λt31=>zc t31 (K fa_ w8) (zp [(i6 0)] w8 (λs10 _d11 w12 K9=>
 px 22 t0 (s2.getD 0 u_) λt35=>fl w12 t35 117 1 115 λt37=>pp (Builtin.len_ #[115] 3 #[t37]) λt38=>bf .lss 3 (s10.getD 0 u_) t38 λt39=>zc t39 (px 22 t0 (s2.getD 0 u_) λt44=>fl w12 t44 117 1 115 λt46=>px 115 t46 (s10.getD 0 u_) λt48=>fl w12 t48 233 1 43 λt50=>pp (Builtin.len_ #[22] 3 #[t0]) λt52=>ca xd #[t50,t52,(i6 48),fa_] w12 λt53 w13=>
 pp (Op.unary .not t53) λt54=>zc t54 (K fa_ w13) (bt .add 3 (s10.getD 0 u_) (i6 1) λt41=>K9 [t41] w13)) (bt .add 3 (s2.getD 0 u_) (i6 1) λt15=>K1 [t15] w12))))) (zp [(i6 0)] w4 (λs15 _d16 w17 K14=>
 pp (Builtin.len_ #[22] 3 #[t0]) λt57=>bf .lss 3 (s15.getD 0 u_) t57 λt58=>zc t58 (ca Zm #[t0,(s15.getD 0 u_)] w17 λt63 w18=>
 zc t63 (K fa_ w18) (bt .add 3 (s15.getD 0 u_) (i6 1) λt60=>K14 [t60] w18)) (zp [(i6 0)] w17 (λs20 _d21 w22 K19=>
 pp (Builtin.len_ #[22] 3 #[t0]) λt66=>bf .lss 3 (s20.getD 0 u_) t66 λt67=>zc t67 (pp (Instr.build 43 #[(0,(Value.int .u8 5)),(3,(s20.getD 0 u_))]) λt72=>ca ve #[t0,t72] w22 λt73 w23=>
 bt .gtr 3 t73 (i6 16) λt74=>zc t74 (K fa_ w23) (bt .add 3 (s20.getD 0 u_) (i6 1) λt69=>K19 [t69] w23)) (K tr_ w22)))))))
theorem acw(h:Qz t0 w K):zd prog ja #[t0] w K:=
 okC false (.s (.r (rz 1 0 0)) (.s (.s (.r (rz 3 0 0)) (.c (.s (.r (rz 1 0 0)) (.n)) (.n))) (.s (.s (.r (rz 1 0 0)) (.b (.lp [3] (.s (.s (.r (rz 4 0 0)) (.c (.n) (.n))) (.s (.b (.s (.s (.r (ra 8 0 256 (.grp 23 false (ri 7 8 256) [30] (rz 1 15 0)))) (.c (.s (.r (rz 1 0 0)) (.n)) (.n))) (.s (.r (rz 1 0 0)) (.b (.lp [4] (.s (.s (.r (rz 8 0 1024)) (.c (.n) (.n))) (.s (.b (.s (.r (rz 13 0 8454400)) (.c (.s (.r (rz 1 0 0)) (.n)) (.n)))) (.r (rz 3 0 0))))))))) (.r (rz 3 0 0))))))) (.s (.s (.r (rz 1 0 0)) (.b (.lp [5] (.s (.s (.r (rz 4 0 0)) (.c (.n) (.n))) (.s (.b (.s (.r (rz 3 0 32)) (.c (.s (.r (rz 1 0 0)) (.n)) (.n)))) (.r (rz 3 0 0))))))) (.s (.s (.r (rz 1 0 0)) (.b (.lp [6] (.s (.s (.r (rz 4 0 0)) (.c (.n) (.n))) (.s (.b (.s (.r (rz 5 0 128)) (.c (.s (.r (rz 1 0 0)) (.n)) (.n)))) (.r (rz 3 0 0))))))) (.s (.r (rz 1 0 0)) (.n))))))) func204 rfl (by kernel_rfl) (by kernel_rfl) h
def VC(t0 t1:Value)(w:World)(K:VW):Prop:=
 ca ja #[t0] w λt7 w1=>
 pp (Op.unary .not t7) λt8=>zc t8 (K fa_ w1) (zp [(i6 0)] w1 (λs3 _d4 w5 K2=>
 pp (Builtin.len_ #[41] 3 #[t1]) λt11=>bf .lss 3 (s3.getD 0 u_) t11 λt12=>zc t12 (xl w5 41 t1 (s3.getD 0 u_) 43 λt18=>pp (Builtin.len_ #[22] 3 #[t0]) λt20=>ca xd #[t18,t20,(i6 48),tr_] w5 λt21 w6=>
 pp (Op.unary .not t21) λt22=>zc t22 (K fa_ w6) (bt .add 3 (s3.getD 0 u_) (i6 1) λt14=>K2 [t14] w6)) (K tr_ w5)))
theorem aeN(h:VC t0 t1 w K):zd prog Yv #[t0,t1] w K:=
 okC false (.s (.r (rz 1 0 0)) (.s (.s (.r (rz 3 0 8)) (.c (.s (.r (rz 1 0 0)) (.n)) (.n))) (.s (.s (.r (rz 1 0 0)) (.b (.lp [5] (.s (.s (.r (rz 4 0 0)) (.c (.n) (.n))) (.s (.b (.s (.r (rz 8 0 8256)) (.c (.s (.r (rz 1 0 0)) (.n)) (.n)))) (.r (rz 3 0 0))))))) (.s (.r (rz 1 0 0)) (.n))))) func189 rfl (by kernel_rfl) (by kernel_rfl) h
def aav(t0 t1 t2:Value)(w:World)(K:VW):Prop:=
 pw w (Instr.box 43 t1) λt4 w1=>
 pw w1 (Instr.alloc 43 true (.tuple #[])) λt6 w2=>
 bt .eql 84 t2 (i6 (-1)) λt10=>zc t10 (fl w2 t4 43 0 40 λt13=>bt .eql 40 t13 (Value.int .u8 3) λt14=>zc t14 (fl w2 t4 43 4 41 λt16=>xl w2 41 t16 (i6 0) 43 λt18=>so w2 43 t6 t18 λw3=>pq w3 (zi 43 t6) λr4=>K (.tuple #[r4,(i6 1),tr_]) w3) (fl w2 t4 43 0 40 λt21=>bt .eql 40 t21 (Value.int .u8 4) λt22=>za (λK5=>gIf t22 true (fl w2 t4 43 1 4 λt25=>K5 [t25] w2) (K5 [u_] w2)) (λs6 _d7 w8=>
 zb t22 (s6.getD 0 u_) fa_ λt26=>zc t26 (fl w8 t4 43 4 41 λt28=>xl w8 41 t28 (i6 0) 43 λt30=>so w8 43 t6 t30 λw9=>pq w9 (zi 43 t6) λr10=>K (.tuple #[r10,(i6 2),tr_]) w9) (fl w8 t4 43 0 40 λt33=>bt .eql 40 t33 (Value.int .u8 4) λt34=>zc t34 (fl w8 t4 43 4 41 λt36=>xl w8 41 t36 (i6 0) 43 λt38=>so w8 43 t6 t38 λw11=>pq w11 (zi 43 t6) λr12=>K (.tuple #[r12,(i6 3),tr_]) w11) (lo w8 43 t4 λt39=>so w8 43 t6 t39 λw13=>pq w13 (zi 43 t6) λr14=>K (.tuple #[r14,(i6 0),fa_]) w13))))) (fl w2 t4 43 0 40 λt41=>bt .neq 40 t41 (Value.int .u8 5) λt42=>za (λK15=>gIf t42 false (bt .lss 84 t2 (i6 0) λt45=>K15 [t45] w2) (K15 [u_] w2)) (λs16 _d17 w18=>
 zb t42 tr_ (s16.getD 0 u_) λt46=>za (λK19=>gIf t46 false (fl w18 t4 43 3 3 λt51=>px 22 t0 t51 λt52=>fl w18 t52 117 1 115 λt54=>pp (Builtin.len_ #[115] 3 #[t54]) λt55=>bf .geq 3 t2 t55 λt56=>K19 [t56] w18) (K19 [u_] w18)) (λs20 _d21 w22=>
 zb t46 tr_ (s20.getD 0 u_) λt57=>zc t57 (lo w22 43 t4 λt58=>so w22 43 t6 t58 λw23=>pq w23 (zi 43 t6) λr24=>K (.tuple #[r24,(i6 0),fa_]) w23) (fl w22 t4 43 3 3 λt61=>px 22 t0 t61 λt62=>fl w22 t62 117 1 115 λt64=>px 115 t64 t2 λt66=>fl w22 t66 233 1 43 λt68=>so w22 43 t6 t68 λw25=>pq w25 (zi 43 t6) λr26=>K (.tuple #[r26,(i6 0),tr_]) w25))))
theorem af9(h:aav t0 t1 t2 w K):zd prog Zl #[t0,t1,t2] w K:=
 okC false (.s (.r (rz 4 0 10)) (.s (.s (.r (rz 2 0 0)) (.c (.s (.b (.s (.r (rz 4 0 4)) (.c (.s (.r (rz 7 0 580)) (.n)) (.s (.r (ra 4 0 4 (.grp 23 true (ri 2 4 4) [25] (rz 2 6 0)))) (.c (.s (.r (rz 7 0 580)) (.n)) (.s (.r (rz 4 0 4)) (.c (.s (.r (rz 7 0 580)) (.n)) (.n)))))))) (.s (.r (rz 4 0 9)) (.n))) (.n))) (.s (.s (.r (ra 4 0 4 (.grp 43 false (ri 2 4 0) [45] (ra 2 6 0 (.grp 47 false (ri 9 8 4160) [56] (rz 1 17 0)))))) (.c (.s (.r (rz 4 0 9)) (.n)) (.n))) (.s (.r (rz 13 0 2360336)) (.n))))) func190 rfl (by kernel_rfl) (by kernel_rfl) h
def Zt(t0 t1 t2 t3:Value)(w:World)(K:VW):Prop:=
 pw w (Instr.box 43 t0) λt4 w1=>
 bt .lss 3 t2 (i6 1) λt10=>za (λK2=>gIf t10 false (fl w1 t4 43 0 40 λt13=>bt .neq 40 t13 (Value.int .u8 4) λt14=>K2 [t14] w1) (K2 [u_] w1)) (λs3 _d4 w5=>
 za (λK6=>gIf (s3.getD 0 u_) true (fl w5 t4 43 1 4 λt17=>K6 [t17] w5) (K6 [u_] w5)) (λs7 _d8 w9=>
 za (λK10=>gIf (s7.getD 0 u_) false (fl w9 t4 43 2 3 λt20=>bt .neq 3 t20 (i6 0) λt21=>K10 [t21] w9) (K10 [u_] w9)) (λs11 _d12 w13=>
 za (λK14=>gIf (s3.getD 0 u_) true (zb (s7.getD 0 u_) tr_ (s11.getD 0 u_) λt22=>K14 [t22] w13) (K14 [u_] w13)) (λs15 _d16 w17=>
 za (λK18=>gIf t10 false (zb (s3.getD 0 u_) (s15.getD 0 u_) fa_ λt23=>K18 [t23] w17) (K18 [u_] w17)) (λs19 _d20 w21=>
 zb t10 tr_ (s19.getD 0 u_) λt24=>za (λK22=>gIf t24 false (fl w21 t4 43 0 40 λt27=>bt .neq 40 t27 (Value.int .u8 5) λt28=>K22 [t28] w21) (K22 [u_] w21)) (λs23 _d24 w25=>
 za (λK26=>gIf (s23.getD 0 u_) true (fl w25 t4 43 3 3 λt31=>bt .neq 3 t31 (i6 0) λt32=>K26 [t32] w25) (K26 [u_] w25)) (λs27 _d28 w29=>
 za (λK30=>gIf t24 false (zb (s23.getD 0 u_) (s27.getD 0 u_) fa_ λt33=>K30 [t33] w29) (K30 [u_] w29)) (λs31 _d32 w33=>
 zb t24 tr_ (s31.getD 0 u_) λt34=>zc t34 (K fa_ w33) (fl w33 t4 43 0 40 λt36=>za (λK34=>
 bt .eql 40 t36 (Value.int .u8 1) λt38=>zc t38 (K34 [t38] w33) (bt .eql 40 t36 (Value.int .u8 2) λt39=>K34 [t39] w33)) (λs35 _d36 w37=>
 zc (s35.getD 0 u_) (fl w37 t4 43 4 41 λt41=>pp (Builtin.len_ #[41] 3 #[t41]) λt42=>bt .eql 3 t42 (i6 0) λt43=>K t43 w37) (bt .eql 40 t36 (Value.int .u8 5) λt45=>zc t45 (fl w37 t4 43 4 41 λt47=>pp (Builtin.len_ #[41] 3 #[t47]) λt48=>bt .eql 3 t48 (i6 0) λt49=>za (λK38=>gIf t49 true (fl w37 t4 43 3 3 λt52=>bt .geq 3 t52 (i6 0) λt53=>K38 [t53] w37) (K38 [u_] w37)) (λs39 _d40 w41=>
 zb t49 (s39.getD 0 u_) fa_ λt54=>za (λK42=>gIf t54 true (fl w41 t4 43 3 3 λt57=>bf .lss 3 t57 t1 λt59=>K42 [t59] w41) (K42 [u_] w41)) (λs43 _d44 w45=>
 zb t54 (s43.getD 0 u_) fa_ λt60=>K t60 w45))) (bt .eql 40 t36 (Value.int .u8 3) λt62=>zc t62 (fl w37 t4 43 4 41 λt64=>pp (Builtin.len_ #[41] 3 #[t64]) λt65=>bt .eql 3 t65 (i6 1) λt66=>za (λK46=>gIf t66 true (fl w37 t4 43 4 41 λt69=>xl w37 41 t69 (i6 0) 43 λt71=>bt .sub 3 t2 (i6 1) λt74=>ca xd #[t71,t1,t74,t3] w37 λt76 w50=>
 K46 [t76] w50) (K46 [u_] w37)) (λs47 _d48 w49=>
 zb t66 (s47.getD 0 u_) fa_ λt77=>K t77 w49)) (bt .eql 40 t36 (Value.int .u8 4) λt79=>zc t79 (za (λK51=>gIf t3 true (fl w37 t4 43 4 41 λt83=>pp (Builtin.len_ #[41] 3 #[t83]) λt84=>bt .eql 3 t84 (i6 1) λt85=>K51 [t85] w37) (K51 [u_] w37)) (λs52 _d53 w54=>
 zb t3 (s52.getD 0 u_) fa_ λt86=>za (λK55=>gIf t86 true (fl w54 t4 43 2 3 λt89=>bt .geq 3 t89 (i6 (-1)) λt90=>K55 [t90] w54) (K55 [u_] w54)) (λs56 _d57 w58=>
 zb t86 (s56.getD 0 u_) fa_ λt91=>za (λK59=>gIf t91 true (fl w58 t4 43 4 41 λt94=>xl w58 41 t94 (i6 0) 43 λt96=>bt .sub 3 t2 (i6 1) λt99=>ca xd #[t96,t1,t99,t3] w58 λt101 w63=>
 K59 [t101] w63) (K59 [u_] w58)) (λs60 _d61 w62=>
 zb t91 (s60.getD 0 u_) fa_ λt102=>K t102 w62)))) (K fa_ w37))))))))))))))
theorem XW{t3:Value}(h:Zt t0 t1 t2 t3 w K):zd prog xd #[t0,t1,t2,t3] w K:=
 okC false (.s (.r (rz 2 0 2)) (.s (.s (.r (ra 3 0 0 (.grp 11 false (ri 4 3 4) [15] (.grp 15 true (ri 3 7 4) [18] (.grp 18 false (ri 3 10 4) [21] (.grp 15 true (ri 1 13 0) [22] (.grp 11 false (ri 1 14 0) [23] (ra 2 15 0 (.grp 25 false (ri 4 17 4) [29] (.grp 29 true (ri 3 21 4) [32] (.grp 25 false (ri 1 24 0) [33] (rz 1 25 0)))))))))))) (.c (.s (.r (rz 1 0 0)) (.n)) (.n))) (.s (.s (.r (rz 2 0 4)) (.b (.j [37] (.s (.r (rz 2 0 0)) (.c (.n) (.r (rz 2 0 0)))) (.c (.s (.r (rz 5 0 4)) (.n)) (.s (.r (rz 2 0 0)) (.c (.s (.r (ra 5 0 4 (.grp 50 true (ri 3 5 4) [53] (ra 2 8 0 (.grp 55 true (ri 4 10 4) [59] (rz 2 14 0)))))) (.n)) (.s (.r (rz 2 0 0)) (.c (.s (.r (ra 5 0 4 (.grp 67 true (ri 9 5 131140) [76] (rz 2 14 0)))) (.n)) (.s (.r (rz 2 0 0)) (.c (.s (.r (ra 2 0 0 (.grp 81 true (ri 4 2 4) [85] (ra 2 6 0 (.grp 87 true (ri 3 8 4) [90] (ra 2 11 0 (.grp 92 true (ri 9 13 131140) [101] (rz 2 22 0)))))))) (.n)) (.n))))))))))) (.s (.r (rz 1 0 0)) (.n))))) func216 rfl (by kernel_rfl) (by kernel_rfl) h
def QA(t0 t1:Value)(w:World)(K:VW):Prop:=
 pw w (Instr.alloc 292 true (.tuple #[])) λt5 w1=>
 zp [(i6 0)] w1 (λs3 _d4 w5 K2=>
 pp (Builtin.len_ #[22] 3 #[t0]) λt11=>bf .leq 3 (s3.getD 0 u_) t11 λt12=>zc t12 (zp [(i6 0)] w5 (λs7 _d8 w9 K6=>
 pp (Builtin.len_ #[22] 3 #[t0]) λt17=>bf .lss 3 (s7.getD 0 u_) t17 λt18=>zc t18 (zp [(i6 0)] w9 (λs11 _d12 w13 K10=>
 px 22 t0 (s7.getD 0 u_) λt24=>fl w13 t24 117 1 115 λt26=>pp (Builtin.len_ #[115] 3 #[t26]) λt27=>bf .lss 3 (s11.getD 0 u_) t27 λt28=>za (λK14=>gIf t28 true (bf .eql 3 (s7.getD 0 u_) t1 λt32=>K14 [t32] w13) (K14 [u_] w13)) (λs15 _d16 w17=>
 za (λK18=>gIf (s15.getD 0 u_) false (xl w17 292 t5 (s7.getD 0 u_) 4 λt36=>K18 [t36] w17) (K18 [u_] w17)) (λs19 _d20 w21=>
 za (λK22=>gIf t28 true (zb (s15.getD 0 u_) tr_ (s19.getD 0 u_) λt37=>K22 [t37] w21) (K22 [u_] w21)) (λs23 _d24 w25=>
 zb t28 (s23.getD 0 u_) fa_ λt38=>zc t38 (za (λK26=>
 px 22 t0 (s7.getD 0 u_) λt43=>fl w25 t43 117 1 115 λt45=>px 115 t45 (s11.getD 0 u_) λt47=>pf 233 t47 1 λt48=>fl w25 t48 43 0 40 λt50=>bt .eql 40 t50 (Value.int .u8 5) λt51=>zc t51 (px 22 t0 (s7.getD 0 u_) λt54=>fl w25 t54 117 1 115 λt56=>px 115 t56 (s11.getD 0 u_) λt58=>pf 233 t58 1 λt59=>fl w25 t59 43 3 3 λt61=>px 292 t5 t61 λt62=>so w25 4 t62 tr_ λw30=>K26 [] w30) (K26 [] w25)) (λ_s27 _d28 w29=>
 bt .add 3 (s11.getD 0 u_) (i6 1) λt40=>K10 [t40] w29)) (bt .add 3 (s7.getD 0 u_) (i6 1) λt20=>K6 [t20] w25)))))) (bt .add 3 (s3.getD 0 u_) (i6 1) λt14=>K2 [t14] w9))) (xl w5 292 t5 t1 4 λt65=>K t65 w5))
theorem acx(h:QA t0 t1 w K):zd prog Zm #[t0,t1] w K:=
 okC false (.s (.r (rz 1 0 0)) (.s (.r (rz 1 0 2)) (.s (.s (.r (rz 1 0 0)) (.b (.lp [6] (.s (.s (.r (rz 4 0 0)) (.c (.n) (.n))) (.s (.b (.s (.r (rz 1 0 0)) (.b (.lp [7] (.s (.s (.r (rz 4 0 0)) (.c (.n) (.n))) (.s (.b (.s (.r (rz 1 0 0)) (.b (.lp [8] (.s (.s (.r (ra 9 0 1024 (.grp 29 true (ri 4 9 0) [33] (.grp 33 false (ri 3 13 16) [36] (.grp 29 true (ri 1 16 0) [37] (rz 1 17 0)))))) (.c (.n) (.n))) (.j [] (.b (.s (.r (rz 11 0 262400)) (.c (.r (rz 12 0 8651008)) (.n)))) (.r (rz 3 0 0)))))))) (.r (rz 3 0 0)))))))) (.r (rz 3 0 0))))))) (.s (.r (rz 4 0 16)) (.n))))) func220 rfl (by kernel_rfl) (by kernel_rfl) h
def YL(t0 t1:Value)(w:World)(K:VW):Prop:=
 pw w (Instr.box 43 t1) λt3 w1=>
 fl w1 t3 43 0 40 λt8=>bt .neq 40 t8 (Value.int .u8 5) λt9=>zc t9 (K (i6 1) w1) (zp [(i6 0),(i6 0)] w1 (λs3 _d4 w5 K2=>
 fl w5 t3 43 3 3 λt13=>px 22 t0 t13 λt14=>fl w5 t14 117 1 115 λt16=>pp (Builtin.len_ #[115] 3 #[t16]) λt17=>bf .lss 3 (s3.getD 1 u_) t17 λt18=>za (λK6=>gIf t18 true (bt .leq 3 (s3.getD 0 u_) (i6 16) λt21=>K6 [t21] w5) (K6 [u_] w5)) (λs7 _d8 w9=>
 zb t18 (s7.getD 0 u_) fa_ λt22=>zc t22 (fl w9 t3 43 3 3 λt29=>px 22 t0 t29 λt30=>fl w9 t30 117 1 115 λt32=>px 115 t32 (s3.getD 1 u_) λt34=>fl w9 t34 233 1 43 λt36=>ca ve #[t0,t36] w9 λt37 w10=>
 bf .add 3 (s3.getD 0 u_) t37 λt38=>bt .add 3 (s3.getD 1 u_) (i6 1) λt24=>K2 [t38,t24] w10) (K (s3.getD 0 u_) w9))))
theorem JA(h:YL t0 t1 w K):zd prog ve #[t0,t1] w K:=
 okC false (.s (.r (rz 2 0 2)) (.s (.s (.r (rz 3 0 4)) (.c (.s (.r (rz 1 0 0)) (.n)) (.n))) (.s (.r (rz 1 0 0)) (.s (.s (.r (rz 1 0 0)) (.b (.lp [5,6] (.s (.s (.r (ra 10 0 4160 (.grp 19 true (ri 2 10 0) [21] (rz 1 12 0)))) (.c (.n) (.n))) (.s (.b (.r (rz 15 0 37765376))) (.r (rz 3 0 0))))))) (.s (.r (rz 2 0 0)) (.n)))))) func221 rfl (by kernel_rfl) (by kernel_rfl) h
def adI(t0 t1 t2:Value)(w:World)(K:VW):Prop:=
 pw w (Instr.box 25 t0) λt3 w1=>
 lo w1 25 t3 λt7=>ca QO #[t7] w1 λt8 w2=>
 za (λK3=>gIf t8 true (bt .geq 3 t1 (i6 0) λt11=>K3 [t11] w2) (K3 [u_] w2)) (λs4 _d5 w6=>
 zb t8 (s4.getD 0 u_) fa_ λt12=>za (λK7=>gIf t12 true (fl w6 t3 25 1 23 λt16=>pp (Builtin.len_ #[23] 3 #[t16]) λt17=>bf .lss 3 t1 t17 λt18=>K7 [t18] w6) (K7 [u_] w6)) (λs8 _d9 w10=>
 zb t12 (s8.getD 0 u_) fa_ λt19=>za (λK11=>gIf t19 true (fl w10 t3 25 1 23 λt23=>px 23 t23 t1 λt25=>fl w10 t25 101 6 99 λt27=>pp (Builtin.len_ #[99] 3 #[t27]) λt28=>bf .lss 3 t2 t28 λt29=>K11 [t29] w10) (K11 [u_] w10)) (λs12 _d13 w14=>
 zb t19 (s12.getD 0 u_) fa_ λt30=>K t30 w14)))
theorem ait(h:adI t0 t1 t2 w K):zd prog JS #[t0,t1,t2] w K:=
 okC false (.s (.r (rz 2 0 2)) (.s (.r (ra 3 0 9 (.grp 9 true (ri 2 3 0) [11] (ra 2 5 0 (.grp 13 true (ri 5 7 16) [18] (ra 2 12 0 (.grp 20 true (ri 9 14 4112) [29] (rz 2 23 0)))))))) (.n))) func54 rfl (by kernel_rfl) (by kernel_rfl) h
def abO(t0:Value)(w:World)(K:VW):Prop:=
 pw w (Instr.box 25 t0) λt1 w1=>
 lo w1 25 t1 λt7=>ca Yw #[t7] w1 λt8 w2=>
 pe t8 0 λ_t9=>pe t8 1 λ_t10=>pe t8 2 λt11=>bt .eql 3 t11 (i6 0) λt13=>K t13 w2
theorem ahF(h:abO t0 w K):zd prog QO #[t0] w K:=
 okC false (.s (.r (rz 2 0 2)) (.s (.r (rz 9 0 9)) (.s (.r (rz 3 0 0)) (.n)))) func117 rfl (by kernel_rfl) (by kernel_rfl) h
def VD(t0:Value)(w:World)(K:VW):Prop:=
 pw w (Instr.box 25 t0) λt1 w1=>
 fl w1 t1 25 0 22 λt10=>ca ja #[t10] w1 λt11 w2=>
 pp (Op.unary .not t11) λt12=>za (λK3=>gIf t12 false (fl w2 t1 25 1 23 λt15=>pp (Builtin.len_ #[23] 3 #[t15]) λt16=>bt .lss 3 t16 (i6 1) λt17=>K3 [t17] w2) (K3 [u_] w2)) (λs4 _d5 w6=>
 zb t12 tr_ (s4.getD 0 u_) λt18=>za (λK7=>gIf t18 false (fl w6 t1 25 1 23 λt21=>pp (Builtin.len_ #[23] 3 #[t21]) λt22=>bt .gtr 3 t22 (i6 32) λt23=>K7 [t23] w6) (K7 [u_] w6)) (λs8 _d9 w10=>
 zb t18 tr_ (s8.getD 0 u_) λt24=>za (λK11=>gIf t24 false (fl w10 t1 25 2 3 λt27=>bt .lss 3 t27 (i6 0) λt28=>K11 [t28] w10) (K11 [u_] w10)) (λs12 _d13 w14=>
 zb t24 tr_ (s12.getD 0 u_) λt29=>za (λK15=>gIf t29 false (fl w14 t1 25 2 3 λt32=>fl w14 t1 25 1 23 λt34=>pp (Builtin.len_ #[23] 3 #[t34]) λt35=>bf .geq 3 t32 t35 λt36=>K15 [t36] w14) (K15 [u_] w14)) (λs16 _d17 w18=>
 zb t29 tr_ (s16.getD 0 u_) λt37=>zc t37 (K (.tuple #[(i6 (-1)),(i6 (-1)),(i6 100)]) w18) (zp [(i6 0)] w18 (λs20 _d21 w22 K19=>
 fl w22 t1 25 1 23 λt40=>pp (Builtin.len_ #[23] 3 #[t40]) λt41=>bf .lss 3 (s20.getD 0 u_) t41 λt42=>zc t42 (lo w22 25 t1 λt45=>ca Xv #[t45,(s20.getD 0 u_)] w22 λt47 w23=>
 pp (Op.unary .not t47) λt48=>zc t48 (K (.tuple #[(s20.getD 0 u_),(i6 (-1)),(i6 100)]) w23) (bt .add 3 (s20.getD 0 u_) (i6 1) λt44=>K19 [t44] w23)) (zp [(i6 0)] w22 (λs25 _d26 w27 K24=>
 fl w27 t1 25 1 23 λt52=>pp (Builtin.len_ #[23] 3 #[t52]) λt53=>bf .lss 3 (s25.getD 0 u_) t53 λt54=>zc t54 (lo w27.drew 25 t1 λt57=>fl w27.drew t1 25 1 23 λt59=>xl w27.drew 23 t59 (s25.getD 0 u_) 101 λt62=>pp (Instr.build 170 #[(0,t57),(1,t62)]) λt63=>pw w27.drew (Instr.box 170 t63) λt64 w28=>
 zp [(i6 0)] w28 (λs30 _d31 w32 K29=>
 fl w32 t1 25 1 23 λt67=>px 23 t67 (s25.getD 0 u_) λt69=>fl w32 t69 101 6 99 λt71=>pp (Builtin.len_ #[99] 3 #[t71]) λt72=>bf .lss 3 (s30.getD 0 u_) t72 λt73=>zc t73 (fl w32 t1 25 1 23 λt78=>px 23 t78 (s25.getD 0 u_) λt80=>fl w32 t80 101 6 99 λt82=>xl w32 99 t82 (s30.getD 0 u_) 96 λt85=>ca qQ #[t64,t85] w32 λt86 w33=>
 pp (Op.unary .not t86) λt87=>zc t87 (K (.tuple #[(s25.getD 0 u_),(s30.getD 0 u_),(i6 100)]) w33) (bt .add 3 (s30.getD 0 u_) (i6 1) λt75=>K29 [t75] w33)) (bt .add 3 (s25.getD 0 u_) (i6 1) λt56=>K24 [t56] w32))) (K (.tuple #[(i6 0),(i6 0),(i6 0)]) w27)))))))))
theorem aeO(h:VD t0 w K):zd prog Yw #[t0] w K:=
 okC false (.s (.r (rz 4 0 2)) (.s (.s (.r (ra 5 0 36 (.grp 13 false (ri 4 5 4) [17] (ra 2 9 0 (.grp 19 false (ri 4 11 4) [23] (ra 2 15 0 (.grp 25 false (ri 3 17 4) [28] (ra 2 20 0 (.grp 30 false (ri 6 22 68) [36] (rz 1 28 0)))))))))) (.c (.s (.r (rz 3 0 0)) (.n)) (.n))) (.s (.s (.r (rz 1 0 0)) (.b (.lp [5] (.s (.s (.r (rz 5 0 16)) (.c (.n) (.n))) (.s (.b (.s (.r (rz 4 0 33)) (.c (.s (.r (rz 4 0 0)) (.n)) (.n)))) (.r (rz 3 0 0))))))) (.s (.s (.r (rz 1 0 0)) (.b (.lp [6] (.s (.s (.r (rz 5 0 16)) (.c (.n) (.n))) (.s (.b (.s (.r (rz 9 0 33809)) (.s (.r (rz 1 0 0)) (.b (.lp [8] (.s (.s (.r (rz 9 0 4112)) (.c (.n) (.n))) (.s (.b (.s (.r (rz 12 0 2363408)) (.c (.s (.r (rz 5 0 0)) (.n)) (.n)))) (.r (rz 3 0 0))))))))) (.r (rz 3 0 0))))))) (.s (.r (rz 3 0 0)) (.n)))))) func168 rfl (by kernel_rfl) (by kernel_rfl) h
def aaw(t0 t1:Value)(w:World)(K:VW):Prop:=
 pw w (Instr.box 25 t0) λt2 w1=>
 fl w1 t2 25 1 23 λt20=>xl w1 23 t20 t1 101 λt23=>pw w1 (Instr.alloc 101 true (.tuple #[])) λt5 w2=>
 so w2 101 t5 t23 λw3=>fl w3 t5 101 1 3 λt25=>bt .lss 3 t25 (i6 0) λt26=>za (λK4=>gIf t26 false (fl w3 t5 101 1 3 λt29=>bt .gtr 3 t29 (i6 8) λt30=>K4 [t30] w3) (K4 [u_] w3)) (λs5 _d6 w7=>
 zb t26 tr_ (s5.getD 0 u_) λt31=>za (λK8=>gIf t31 false (fl w7 t5 101 3 3 λt34=>bt .lss 3 t34 (i6 0) λt35=>K8 [t35] w7) (K8 [u_] w7)) (λs9 _d10 w11=>
 zb t31 tr_ (s9.getD 0 u_) λt36=>za (λK12=>gIf t36 false (fl w11 t5 101 3 3 λt39=>bt .gtr 3 t39 (i6 8) λt40=>K12 [t40] w11) (K12 [u_] w11)) (λs13 _d14 w15=>
 zb t36 tr_ (s13.getD 0 u_) λt41=>za (λK16=>gIf t41 false (fl w15 t5 101 4 41 λt44=>pp (Builtin.len_ #[41] 3 #[t44]) λt45=>fl w15 t5 101 3 3 λt47=>bf .leq 3 t45 t47 λt48=>K16 [t48] w15) (K16 [u_] w15)) (λs17 _d18 w19=>
 zb t41 tr_ (s17.getD 0 u_) λt49=>za (λK20=>gIf t49 false (fl w19 t5 101 4 41 λt52=>pp (Builtin.len_ #[41] 3 #[t52]) λt53=>bt .gtr 3 t53 (i6 512) λt54=>K20 [t54] w19) (K20 [u_] w19)) (λs21 _d22 w23=>
 zb t49 tr_ (s21.getD 0 u_) λt55=>za (λK24=>gIf t55 false (fl w23 t5 101 5 98 λt58=>pp (Builtin.len_ #[98] 3 #[t58]) λt59=>fl w23 t5 101 4 41 λt61=>pp (Builtin.len_ #[41] 3 #[t61]) λt62=>bf .neq 3 t59 t62 λt63=>K24 [t63] w23) (K24 [u_] w23)) (λs25 _d26 w27=>
 zb t55 tr_ (s25.getD 0 u_) λt64=>zc t64 (K fa_ w27) (zp [(i6 0)] w27 (λs29 _d30 w31 K28=>
 fl w31 t5 101 4 41 λt67=>pp (Builtin.len_ #[41] 3 #[t67]) λt68=>bf .lss 3 (s29.getD 0 u_) t68 λt69=>zc t69 (fl w31.drew t5 101 4 41 λt73=>xl w31.drew 41 t73 (s29.getD 0 u_) 43 λt76=>fl w31.drew t2 25 0 22 λt78=>pp (Builtin.len_ #[22] 3 #[t78]) λt79=>ca xd #[t76,t79,(i6 48),tr_] w31.drew λt80 w32=>
 pp (Op.unary .not t80) λt81=>zc t81 (K fa_ w32) (fl w32 t5 101 4 41 λt83=>xl w32 41 t83 (s29.getD 0 u_) 43 λt86=>ca qZ #[t86] w32 λt87 w33=>
 zp [(i6 0)] w33 (λs35 _d36 w37 K34=>
 pp (Builtin.len_ #[55] 3 #[t87]) λt90=>bf .lss 3 (s35.getD 0 u_) t90 λt91=>zc t91 (xl w37.drew 55 t87 (s35.getD 0 u_) 3 λt97=>fl w37.drew t5 101 1 3 λt99=>bf .geq 3 t97 t99 λt100=>za (λK38=>gIf t100 false (fl w37.drew t5 101 3 3 λt104=>bf .leq 3 (s29.getD 0 u_) t104 λt105=>K38 [t105] w37.drew) (K38 [u_] w37.drew)) (λs39 _d40 w41=>
 za (λK42=>gIf (s39.getD 0 u_) true (xl w41 55 t87 (s35.getD 0 u_) 3 λt110=>bt .lss 3 t110 (i6 0) λt111=>K42 [t111] w41) (K42 [u_] w41)) (λs43 _d44 w45=>
 za (λK46=>gIf t100 false (zb (s39.getD 0 u_) (s43.getD 0 u_) fa_ λt112=>K46 [t112] w45) (K46 [u_] w45)) (λs47 _d48 w49=>
 zb t100 tr_ (s47.getD 0 u_) λt113=>zc t113 (K fa_ w49) (bt .add 3 (s35.getD 0 u_) (i6 1) λt93=>K34 [t93] w49))))) (bt .add 3 (s29.getD 0 u_) (i6 1) λt71=>K28 [t71] w37)))) (pw w31 (Instr.alloc 296 true (.tuple #[])) λt9 w50=>
 pw w50 (Instr.alloc 296 true (.tuple #[])) λt10 w51=>
 zp [(i6 0)] w51 (λs53 _d54 w55 K52=>
 fl w55 t5 101 3 3 λt116=>bf .leq 3 (s53.getD 0 u_) t116 λt117=>zc t117 (fl w55 t5 101 4 41 λt121=>xl w55 41 t121 (s53.getD 0 u_) 43 λt124=>ca Xw #[t124,t9] w55 λ_t125 w56=>
 bt .add 3 (s53.getD 0 u_) (i6 1) λt119=>K52 [t119] w56) (zp [(i6 0)] w55 (λs58 _d59 w60 K57=>
 fl w60 t5 101 2 97 λt128=>pp (Builtin.len_ #[97] 3 #[t128]) λt129=>bf .lss 3 (s58.getD 0 u_) t129 λt130=>zc t130 (fl w60 t5 101 2 97 λt134=>xl w60 97 t134 (s58.getD 0 u_) 194 λt137=>pw w60 (Instr.alloc 194 true (.tuple #[])) λt13 w61=>
 so w61 194 t13 t137 λw62=>fl w62 t13 194 0 3 λt139=>bt .lss 3 t139 (i6 0) λt140=>za (λK63=>gIf t140 false (fl w62 t13 194 0 3 λt143=>fl w62 t5 101 1 3 λt145=>bf .geq 3 t143 t145 λt146=>K63 [t146] w62) (K63 [u_] w62)) (λs64 _d65 w66=>
 zb t140 tr_ (s64.getD 0 u_) λt147=>za (λK67=>gIf t147 false (fl w66 t13 194 1 3 λt150=>bt .lss 3 t150 (i6 0) λt151=>K67 [t151] w66) (K67 [u_] w66)) (λs68 _d69 w70=>
 zb t147 tr_ (s68.getD 0 u_) λt152=>za (λK71=>gIf t152 false (fl w70 t13 194 1 3 λt155=>fl w70 t5 101 1 3 λt157=>bf .geq 3 t155 t157 λt158=>K71 [t158] w70) (K71 [u_] w70)) (λs72 _d73 w74=>
 zb t152 tr_ (s72.getD 0 u_) λt159=>za (λK75=>gIf t159 false (fl w74 t13 194 0 3 λt162=>fl w74 t13 194 1 3 λt164=>bf .eql 3 t162 t164 λt165=>K75 [t165] w74) (K75 [u_] w74)) (λs76 _d77 w78=>
 zb t159 tr_ (s76.getD 0 u_) λt166=>zc t166 (K fa_ w78) (bt .gtr 3 (s58.getD 0 u_) (i6 0) λt168=>za (λK79=>gIf t168 true (fl w78.drew t5 101 2 97 λt171=>bt .sub 3 (s58.getD 0 u_) (i6 1) λt173=>px 97 t171 t173 λt174=>fl w78.drew t174 194 0 3 λt176=>fl w78.drew t13 194 0 3 λt178=>bf .gtr 3 t176 t178 λt179=>K79 [t179] w78.drew) (K79 [u_] w78.drew)) (λs80 _d81 w82=>
 za (λK83=>gIf (s80.getD 0 u_) false (fl w82 t5 101 2 97 λt182=>bt .sub 3 (s58.getD 0 u_) (i6 1) λt184=>px 97 t182 t184 λt185=>fl w82 t185 194 0 3 λt187=>fl w82 t13 194 0 3 λt189=>bf .eql 3 t187 t189 λt190=>K83 [t190] w82) (K83 [u_] w82)) (λs84 _d85 w86=>
 za (λK87=>gIf (s84.getD 0 u_) true (fl w86 t5 101 2 97 λt193=>bt .sub 3 (s58.getD 0 u_) (i6 1) λt195=>px 97 t193 t195 λt196=>fl w86 t196 194 1 3 λt198=>fl w86 t13 194 1 3 λt200=>bf .geq 3 t198 t200 λt201=>K87 [t201] w86) (K87 [u_] w86)) (λs88 _d89 w90=>
 za (λK91=>gIf (s80.getD 0 u_) false (zb (s84.getD 0 u_) (s88.getD 0 u_) fa_ λt202=>K91 [t202] w90) (K91 [u_] w90)) (λs92 _d93 w94=>
 za (λK95=>gIf t168 true (zb (s80.getD 0 u_) tr_ (s92.getD 0 u_) λt203=>K95 [t203] w94) (K95 [u_] w94)) (λs96 _d97 w98=>
 zb t168 (s96.getD 0 u_) fa_ λt204=>zc t204 (K fa_ w98) (fl w98.drew t13 194 0 3 λt206=>fl w98.drew t13 194 1 3 λt208=>px 296 t10 t206 λt209=>px 295 t209 t208 λt210=>so w98.drew 4 t210 tr_ λw99=>bt .add 3 (s58.getD 0 u_) (i6 1) λt132=>K57 [t132] w99)))))))))))) (zp [(i6 0)] w60 (λs101 _d102 w103 K100=>
 fl w103 t5 101 1 3 λt213=>bf .lss 3 (s101.getD 0 u_) t213 λt214=>zc t214 (zp [(i6 0)] w103 (λs105 _d106 w107 K104=>
 fl w107 t5 101 1 3 λt219=>bf .lss 3 (s105.getD 0 u_) t219 λt220=>zc t220 (bf .neq 3 (s101.getD 0 u_) (s105.getD 0 u_) λt225=>za (λK108=>gIf t225 true (px 296 t9 (s101.getD 0 u_) λt229=>xl w107 295 t229 (s105.getD 0 u_) 4 λt231=>K108 [t231] w107) (K108 [u_] w107)) (λs109 _d110 w111=>
 zb t225 (s109.getD 0 u_) fa_ λt232=>za (λK112=>gIf t232 true (px 296 t10 (s101.getD 0 u_) λt236=>xl w111 295 t236 (s105.getD 0 u_) 4 λt238=>pp (Op.unary .not t238) λt239=>K112 [t239] w111) (K112 [u_] w111)) (λs113 _d114 w115=>
 zb t232 (s113.getD 0 u_) fa_ λt240=>zc t240 (K fa_ w115) (zp [(i6 0)] w115 (λs117 _d118 w119 K116=>
 fl w119 t5 101 1 3 λt243=>bf .lss 3 (s117.getD 0 u_) t243 λt244=>zc t244 (bf .neq 3 (s101.getD 0 u_) (s117.getD 0 u_) λt249=>za (λK120=>gIf t249 true (px 296 t10 (s101.getD 0 u_) λt253=>xl w119 295 t253 (s105.getD 0 u_) 4 λt255=>K120 [t255] w119) (K120 [u_] w119)) (λs121 _d122 w123=>
 zb t249 (s121.getD 0 u_) fa_ λt256=>za (λK124=>gIf t256 true (px 296 t10 (s105.getD 0 u_) λt260=>xl w123 295 t260 (s117.getD 0 u_) 4 λt262=>K124 [t262] w123) (K124 [u_] w123)) (λs125 _d126 w127=>
 zb t256 (s125.getD 0 u_) fa_ λt263=>za (λK128=>gIf t263 true (px 296 t10 (s101.getD 0 u_) λt267=>xl w127 295 t267 (s117.getD 0 u_) 4 λt269=>pp (Op.unary .not t269) λt270=>K128 [t270] w127) (K128 [u_] w127)) (λs129 _d130 w131=>
 zb t263 (s129.getD 0 u_) fa_ λt271=>zc t271 (K fa_ w131) (bt .add 3 (s117.getD 0 u_) (i6 1) λt246=>K116 [t246] w131))))) (bt .add 3 (s105.getD 0 u_) (i6 1) λt222=>K104 [t222] w119)))))) (bt .add 3 (s101.getD 0 u_) (i6 1) λt216=>K100 [t216] w107))) (zp [(i6 0),(i6 0)] w103 (λs133 _d134 w135 K132=>
 fl w135 t5 101 6 99 λt274=>pp (Builtin.len_ #[99] 3 #[t274]) λt275=>bf .lss 3 (s133.getD 1 u_) t275 λt276=>za (λK136=>gIf t276 true (bt .leq 3 (s133.getD 1 u_) (i6 1024) λt279=>K136 [t279] w135) (K136 [u_] w135)) (λs137 _d138 w139=>
 zb t276 (s137.getD 0 u_) fa_ λt280=>zc t280 (za (λK140=>
 fl w139 t5 101 6 99 λt284=>px 99 t284 (s133.getD 1 u_) λt286=>fl w139 t286 96 0 90 λt288=>bt .eql 90 t288 (Value.int .u8 4) λt289=>zc t289 (bt .add 3 (s133.getD 0 u_) (i6 1) λt291=>K140 [t291] w139) (K140 [(s133.getD 0 u_)] w139)) (λs141 _d142 w143=>
 bt .add 3 (s133.getD 1 u_) (i6 1) λt282=>K132 [(s141.getD 0 u_),t282] w143)) (fl w139 t5 101 6 99 λt293=>pp (Builtin.len_ #[99] 3 #[t293]) λt294=>bt .lss 3 t294 (i6 1) λt295=>za (λK144=>gIf t295 false (fl w139 t5 101 6 99 λt298=>pp (Builtin.len_ #[99] 3 #[t298]) λt299=>bt .gtr 3 t299 (i6 1024) λt300=>K144 [t300] w139) (K144 [u_] w139)) (λs145 _d146 w147=>
 zb t295 tr_ (s145.getD 0 u_) λt301=>za (λK148=>gIf t301 false (bt .gtr 3 (s133.getD 0 u_) (i6 256) λt304=>K148 [t304] w147) (K148 [u_] w147)) (λs149 _d150 w151=>
 zb t301 tr_ (s149.getD 0 u_) λt305=>zc t305 (K fa_ w151) (fl w151 t2 25 2 3 λt308=>bf .neq 3 t1 t308 λt309=>za (λK152=>gIf t309 false (fl w151 t5 101 1 3 λt312=>bt .eql 3 t312 (i6 0) λt313=>K152 [t313] w151) (K152 [u_] w151)) (λs153 _d154 w155=>
 za (λK156=>gIf (s153.getD 0 u_) true (fl w155 t5 101 3 3 λt316=>bt .eql 3 t316 (i6 0) λt317=>K156 [t317] w155) (K156 [u_] w155)) (λs157 _d158 w159=>
 za (λK160=>gIf t309 false (zb (s153.getD 0 u_) (s157.getD 0 u_) fa_ λt318=>K160 [t318] w159) (K160 [u_] w159)) (λs161 _d162 w163=>
 za (λK164=>gIf (s161.getD 0 u_) true (fl w163 t5 101 4 41 λt321=>px 41 t321 (i6 0) λt322=>fl w163 t322 43 0 40 λt324=>bt .eql 40 t324 (Value.int .u8 1) λt325=>K164 [t325] w163) (K164 [u_] w163)) (λs165 _d166 w167=>
 za (λK168=>gIf t309 false (zb (s161.getD 0 u_) (s165.getD 0 u_) fa_ λt326=>K168 [t326] w167) (K168 [u_] w167)) (λs169 _d170 w171=>
 zb t309 tr_ (s169.getD 0 u_) λt327=>K t327 w171))))))))))))))))))))))))))
theorem aga(h:aaw t0 t1 w K):zd prog Xv #[t0,t1] w K:=
 okC false (.s (.r (rz 2 0 2)) (.s (.r (rz 7 0 10500)) (.s (.s (.r (ra 4 0 4 (.grp 27 false (ri 3 4 4) [30] (ra 2 7 0 (.grp 32 false (ri 3 9 4) [35] (ra 2 12 0 (.grp 37 false (ri 3 14 4) [40] (ra 2 17 0 (.grp 42 false (ri 6 19 260) [48] (ra 2 25 0 (.grp 50 false (ri 4 27 4) [54] (ra 2 31 0 (.grp 56 false (ri 7 33 260) [63] (rz 1 40 0)))))))))))))) (.c (.s (.r (rz 1 0 0)) (.n)) (.n))) (.s (.s (.r (rz 1 0 0)) (.b (.lp [6] (.s (.s (.r (rz 5 0 16)) (.c (.n) (.n))) (.s (.b (.s (.s (.r (rz 10 0 135428)) (.c (.s (.r (rz 1 0 0)) (.n)) (.n))) (.s (.r (rz 7 0 2308)) (.s (.r (rz 1 0 0)) (.b (.lp [8] (.s (.s (.r (rz 4 0 0)) (.c (.n) (.n))) (.s (.b (.s (.r (ra 8 0 1088 (.grp 101 false (ri 5 8 16) [106] (.grp 106 true (ri 5 13 64) [111] (.grp 101 false (ri 1 18 0) [112] (rz 1 19 0)))))) (.c (.s (.r (rz 1 0 0)) (.n)) (.n)))) (.r (rz 3 0 0)))))))))) (.r (rz 3 0 0))))))) (.s (.r (rz 2 0 10)) (.s (.s (.r (rz 1 0 0)) (.b (.lp [11] (.s (.s (.r (rz 4 0 16)) (.c (.n) (.n))) (.s (.b (.r (rz 6 0 2308))) (.r (rz 3 0 0))))))) (.s (.s (.r (rz 1 0 0)) (.b (.lp [12] (.s (.s (.r (rz 5 0 16)) (.c (.n) (.n))) (.s (.b (.s (.r (rz 7 0 10500)) (.s (.s (.r (ra 4 0 4 (.grp 141 false (ri 5 4 68) [146] (ra 2 9 0 (.grp 148 false (ri 3 11 4) [151] (ra 2 14 0 (.grp 153 false (ri 5 16 68) [158] (ra 2 21 0 (.grp 160 false (ri 5 23 68) [165] (rz 1 28 0)))))))))) (.c (.s (.r (rz 1 0 0)) (.n)) (.n))) (.s (.s (.r (ra 3 0 0 (.grp 169 true (ri 11 3 69636) [180] (.grp 180 false (ri 11 14 69636) [191] (.grp 191 true (ri 10 25 69636) [201] (.grp 180 false (ri 1 35 0) [202] (.grp 169 true (ri 1 36 0) [203] (rz 1 37 0)))))))) (.c (.s (.r (rz 1 0 0)) (.n)) (.n))) (.r (rz 7 0 8260)))))) (.r (rz 3 0 0))))))) (.s (.s (.r (rz 1 0 0)) (.b (.lp [14] (.s (.s (.r (rz 4 0 16)) (.c (.n) (.n))) (.s (.b (.s (.r (rz 1 0 0)) (.b (.lp [15] (.s (.s (.r (rz 4 0 16)) (.c (.n) (.n))) (.s (.b (.s (.s (.r (ra 4 0 0 (.grp 226 true (ri 5 4 256) [231] (ra 2 9 0 (.grp 233 true (ri 6 11 256) [239] (rz 1 17 0)))))) (.c (.s (.r (rz 1 0 0)) (.n)) (.n))) (.s (.r (rz 1 0 0)) (.b (.lp [16] (.s (.s (.r (rz 4 0 16)) (.c (.n) (.n))) (.s (.b (.s (.r (ra 4 0 0 (.grp 250 true (ri 5 4 256) [255] (ra 2 9 0 (.grp 257 true (ri 5 11 256) [262] (ra 2 16 0 (.grp 264 true (ri 6 18 256) [270] (rz 1 24 0)))))))) (.c (.s (.r (rz 1 0 0)) (.n)) (.n)))) (.r (rz 3 0 0))))))))) (.r (rz 3 0 0)))))))) (.r (rz 3 0 0))))))) (.s (.r (rz 1 0 0)) (.s (.s (.r (rz 1 0 0)) (.b (.lp [17,18] (.s (.s (.r (ra 6 0 16 (.grp 277 true (ri 2 6 0) [279] (rz 1 8 0)))) (.c (.n) (.n))) (.j [17] (.b (.s (.r (rz 7 0 1028)) (.c (.r (rz 3 0 0)) (.n)))) (.r (rz 3 0 0))))))) (.s (.s (.r (ra 5 0 4 (.grp 296 false (ri 4 5 4) [300] (ra 2 9 0 (.grp 302 false (ri 2 11 0) [304] (rz 1 13 0)))))) (.c (.s (.r (rz 1 0 0)) (.n)) (.n))) (.s (.r (ra 5 0 16 (.grp 310 false (ri 4 5 4) [314] (.grp 314 true (ri 3 9 4) [317] (.grp 310 false (ri 2 12 0) [319] (.grp 319 true (ri 6 14 260) [325] (.grp 310 false (ri 1 20 0) [326] (rz 2 21 0)))))))) (.n))))))))))))) func205 rfl (by kernel_rfl) (by kernel_rfl) h
def ZF(t0 t1:Value)(w:World)(K:VW):Prop:=
 pw w (Instr.box 96 t1) λt3 w1=>
 fa t0 170 1 λt23=>fl w1 t23 101 6 99 λt25=>pp (Builtin.len_ #[99] 3 #[t25]) λt26=>fl w1 t3 96 12 3 λt28=>bt .lss 3 t28 (i6 0) λt29=>za (λK2=>gIf t29 false (fl w1 t3 96 0 90 λt32=>bt .eql 90 t32 (Value.int .u8 14) λt33=>K2 [t33] w1) (K2 [u_] w1)) (λs3 _d4 w5=>
 za (λK6=>gIf (s3.getD 0 u_) true (fl w5 t3 96 10 3 λt36=>bt .neq 3 t36 (i6 0) λt37=>K6 [t37] w5) (K6 [u_] w5)) (λs7 _d8 w9=>
 za (λK10=>gIf t29 false (zb (s3.getD 0 u_) (s7.getD 0 u_) fa_ λt38=>K10 [t38] w9) (K10 [u_] w9)) (λs11 _d12 w13=>
 zb t29 tr_ (s11.getD 0 u_) λt39=>za (λK14=>gIf t39 false (fl w13 t3 96 0 90 λt42=>bt .neq 90 t42 (Value.int .u8 14) λt43=>K14 [t43] w13) (K14 [u_] w13)) (λs15 _d16 w17=>
 za (λK18=>gIf (s15.getD 0 u_) true (fl w17 t3 96 10 3 λt46=>bt .lss 3 t46 (i6 0) λt47=>K18 [t47] w17) (K18 [u_] w17)) (λs19 _d20 w21=>
 za (λK22=>gIf (s19.getD 0 u_) false (fl w21 t3 96 10 3 λt50=>bf .geq 3 t50 t26 λt52=>K22 [t52] w21) (K22 [u_] w21)) (λs23 _d24 w25=>
 za (λK26=>gIf (s15.getD 0 u_) true (zb (s19.getD 0 u_) tr_ (s23.getD 0 u_) λt53=>K26 [t53] w25) (K26 [u_] w25)) (λs27 _d28 w29=>
 za (λK30=>gIf t39 false (zb (s15.getD 0 u_) (s27.getD 0 u_) fa_ λt54=>K30 [t54] w29) (K30 [u_] w29)) (λs31 _d32 w33=>
 zb t39 tr_ (s31.getD 0 u_) λt55=>zc t55 (K fa_ w33) (fl w33 t3 96 1 80 λt59=>ca vu #[t0,t59] w33 λt60 w34=>
 pe t60 0 λt61=>pe t60 1 λt62=>pw w34 (Instr.alloc 43 true (.tuple #[])) λt6 w35=>
 so w35 43 t6 t61 λw36=>fl w36 t3 96 2 93 λt66=>ca y7 #[t0,t66] w36 λt67 w37=>
 pe t67 0 λt68=>pe t67 1 λt69=>pw w37 (Instr.alloc 43 true (.tuple #[])) λt8 w38=>
 so w38 43 t8 t68 λw39=>fl w39 t3 96 3 93 λt73=>ca y7 #[t0,t73] w39 λt74 w40=>
 pe t74 0 λt75=>pe t74 1 λt76=>pw w40 (Instr.alloc 43 true (.tuple #[])) λt10 w41=>
 so w41 43 t10 t75 λw42=>fl w42 t3 96 6 80 λt80=>ca yC #[t0,t80] w42 λt81 w43=>
 pe t81 0 λt82=>pe t81 1 λt83=>pe t81 2 λt84=>pw w43 (Instr.alloc 43 true (.tuple #[])) λt12 w44=>
 so w44 43 t12 t82 λw45=>fl w45 t3 96 0 90 λt86=>bt .eql 90 t86 (Value.int .u8 1) λt88=>zc t88 (lo w45 96 t3 λt89=>ca zR #[t89,(Value.string { data:=#[84,65] })] w45 λt90 w46=>
 za (λK47=>gIf t90 true (K47 [t62] w46) (K47 [u_] w46)) (λs48 _d49 w50=>
 zb t90 (s48.getD 0 u_) fa_ λt93=>za (λK51=>gIf t93 true (K51 [t69] w50) (K51 [u_] w50)) (λs52 _d53 w54=>
 zb t93 (s52.getD 0 u_) fa_ λt96=>za (λK55=>gIf t96 true (lo w54 43 t8 λt98=>lo w54 43 t6 λt99=>ca yT #[t98,t99] w54 λt100 w59=>
 K55 [t100] w59) (K55 [u_] w54)) (λs56 _d57 w58=>
 zb t96 (s56.getD 0 u_) fa_ λt101=>K t101 w58)))) (bt .eql 90 t86 (Value.int .u8 2) λt103=>zc t103 (lo w45 96 t3 λt104=>ca zR #[t104,(Value.string { data:=#[84,65,66,83] })] w45 λt105 w60=>
 pp (Op.unary .not t105) λt106=>za (λK61=>gIf t106 false (pp (Op.unary .not t62) λt109=>K61 [t109] w60) (K61 [u_] w60)) (λs62 _d63 w64=>
 zb t106 tr_ (s62.getD 0 u_) λt110=>za (λK65=>gIf t110 false (pp (Op.unary .not t69) λt113=>K65 [t113] w64) (K65 [u_] w64)) (λs66 _d67 w68=>
 zb t110 tr_ (s66.getD 0 u_) λt114=>za (λK69=>gIf t114 false (pp (Op.unary .not t76) λt117=>K69 [t117] w68) (K69 [u_] w68)) (λs70 _d71 w72=>
 zb t114 tr_ (s70.getD 0 u_) λt118=>zc t118 (K fa_ w72) (fl w72 t3 96 5 9 λt120=>ca Xx #[t120] w72 λt121 w73=>
 zc t121 (lo w73 43 t6 λt122=>ca zO #[t122,(Value.int .u8 1)] w73 λt123 w74=>
 za (λK75=>gIf t123 true (lo w74 43 t8 λt125=>ca zO #[t125,(Value.int .u8 1)] w74 λt126 w79=>
 K75 [t126] w79) (K75 [u_] w74)) (λs76 _d77 w78=>
 zb t123 (s76.getD 0 u_) fa_ λt127=>za (λK80=>gIf t127 true (lo w78 43 t10 λt129=>ca zO #[t129,(Value.int .u8 1)] w78 λt130 w84=>
 K80 [t130] w84) (K80 [u_] w78)) (λs81 _d82 w83=>
 zb t127 (s81.getD 0 u_) fa_ λt131=>K t131 w83))) (lo w73 43 t8 λt132=>ca zO #[t132,(Value.int .u8 1)] w73 λt133 w85=>
 za (λK86=>gIf t133 true (lo w85 43 t10 λt135=>ca zO #[t135,(Value.int .u8 1)] w85 λt136 w90=>
 K86 [t136] w90) (K86 [u_] w85)) (λs87 _d88 w89=>
 zb t133 (s87.getD 0 u_) fa_ λt137=>za (λK91=>gIf t137 false (fl w89 t3 96 5 9 λt140=>bt .eql 9 t140 (Value.string { data:=#[61,61] }) λt141=>K91 [t141] w89) (K91 [u_] w89)) (λs92 _d93 w94=>
 za (λK95=>gIf (s92.getD 0 u_) false (fl w94 t3 96 5 9 λt144=>bt .eql 9 t144 (Value.string { data:=#[33,61] }) λt145=>K95 [t145] w94) (K95 [u_] w94)) (λs96 _d97 w98=>
 za (λK99=>gIf t137 false (zb (s92.getD 0 u_) tr_ (s96.getD 0 u_) λt146=>K99 [t146] w98) (K99 [u_] w98)) (λs100 _d101 w102=>
 za (λK103=>gIf (s100.getD 0 u_) true (lo w102 43 t8 λt148=>ca zO #[t148,(Value.int .u8 2)] w102 λt149 w107=>
 K103 [t149] w107) (K103 [u_] w102)) (λs104 _d105 w106=>
 za (λK108=>gIf t137 false (zb (s100.getD 0 u_) (s104.getD 0 u_) fa_ λt150=>K108 [t150] w106) (K108 [u_] w106)) (λs109 _d110 w111=>
 za (λK112=>gIf (s109.getD 0 u_) true (lo w111 43 t10 λt152=>ca zO #[t152,(Value.int .u8 2)] w111 λt153 w116=>
 K112 [t153] w116) (K112 [u_] w111)) (λs113 _d114 w115=>
 za (λK117=>gIf t137 false (zb (s109.getD 0 u_) (s113.getD 0 u_) fa_ λt154=>K117 [t154] w115) (K117 [u_] w115)) (λs118 _d119 w120=>
 zb t137 tr_ (s118.getD 0 u_) λt155=>fl w120 t3 96 5 9 λt157=>ca ZP #[t157] w120 λt158 w121=>
 za (λK122=>gIf t158 true (lo w121 43 t6 λt160=>ca zO #[t160,(Value.int .u8 2)] w121 λt161 w126=>
 K122 [t161] w126) (K122 [u_] w121)) (λs123 _d124 w125=>
 zb t158 (s123.getD 0 u_) fa_ λt162=>za (λK127=>gIf t162 true (K127 [t155] w125) (K127 [u_] w125)) (λs128 _d129 w130=>
 zb t162 (s128.getD 0 u_) fa_ λt165=>K t165 w130)))))))))))))))) (bt .eql 90 t86 (Value.int .u8 3) λt167=>zc t167 (lo w45 96 t3 λt168=>ca zR #[t168,(Value.string { data:=#[84,65,83] })] w45 λt169 w131=>
 za (λK132=>gIf t169 true (K132 [t62] w131) (K132 [u_] w131)) (λs133 _d134 w135=>
 zb t169 (s133.getD 0 u_) fa_ λt172=>za (λK136=>gIf t172 true (K136 [t69] w135) (K136 [u_] w135)) (λs137 _d138 w139=>
 zb t172 (s137.getD 0 u_) fa_ λt175=>za (λK140=>gIf t175 true (fl w139 t3 96 5 9 λt178=>bt .eql 9 t178 (Value.string { data:=#[45] }) λt179=>K140 [t179] w139) (K140 [u_] w139)) (λs141 _d142 w143=>
 za (λK144=>gIf (s141.getD 0 u_) true (lo w143 43 t6 λt181=>ca zO #[t181,(Value.int .u8 1)] w143 λt182 w148=>
 K144 [t182] w148) (K144 [u_] w143)) (λs145 _d146 w147=>
 za (λK149=>gIf t175 true (zb (s141.getD 0 u_) (s145.getD 0 u_) fa_ λt183=>K149 [t183] w147) (K149 [u_] w147)) (λs150 _d151 w152=>
 za (λK153=>gIf (s150.getD 0 u_) true (lo w152 43 t8 λt185=>ca zO #[t185,(Value.int .u8 1)] w152 λt186 w157=>
 K153 [t186] w157) (K153 [u_] w152)) (λs154 _d155 w156=>
 za (λK158=>gIf t175 true (zb (s150.getD 0 u_) (s154.getD 0 u_) fa_ λt187=>K158 [t187] w156) (K158 [u_] w156)) (λs159 _d160 w161=>
 za (λK162=>gIf (s159.getD 0 u_) false (fl w161 t3 96 5 9 λt190=>bt .eql 9 t190 (Value.string { data:=#[33] }) λt191=>K162 [t191] w161) (K162 [u_] w161)) (λs163 _d164 w165=>
 za (λK166=>gIf (s163.getD 0 u_) true (lo w165 43 t6 λt193=>ca zO #[t193,(Value.int .u8 2)] w165 λt194 w170=>
 K166 [t194] w170) (K166 [u_] w165)) (λs167 _d168 w169=>
 za (λK171=>gIf (s159.getD 0 u_) false (zb (s163.getD 0 u_) (s167.getD 0 u_) fa_ λt195=>K171 [t195] w169) (K171 [u_] w169)) (λs172 _d173 w174=>
 za (λK175=>gIf (s172.getD 0 u_) true (lo w174 43 t8 λt197=>ca zO #[t197,(Value.int .u8 2)] w174 λt198 w179=>
 K175 [t198] w179) (K175 [u_] w174)) (λs176 _d177 w178=>
 za (λK180=>gIf (s159.getD 0 u_) false (zb (s172.getD 0 u_) (s176.getD 0 u_) fa_ λt199=>K180 [t199] w178) (K180 [u_] w178)) (λs181 _d182 w183=>
 za (λK184=>gIf t175 true (zb (s159.getD 0 u_) tr_ (s181.getD 0 u_) λt200=>K184 [t200] w183) (K184 [u_] w183)) (λs185 _d186 w187=>
 zb t175 (s185.getD 0 u_) fa_ λt201=>K t201 w187)))))))))))))) (bt .eql 90 t86 (Value.int .u8 4) λt203=>zc t203 (lo w45.drew 96 t3 λt204=>ca zR #[t204,(Value.string { data:=#[84,70,77] })] w45.drew λt205 w188=>
 za (λK189=>gIf t205 true (K189 [t62] w188) (K189 [u_] w188)) (λs190 _d191 w192=>
 zb t205 (s190.getD 0 u_) fa_ λt208=>za (λK193=>gIf t208 true (K193 [t84] w192) (K193 [u_] w192)) (λs194 _d195 w196=>
 zb t208 (s194.getD 0 u_) fa_ λt211=>za (λK197=>gIf t211 true (lo w196 43 t6 λt213=>ca zO #[t213,(Value.int .u8 4)] w196 λt214 w201=>
 K197 [t214] w201) (K197 [u_] w196)) (λs198 _d199 w200=>
 zb t211 (s198.getD 0 u_) fa_ λt215=>za (λK202=>gIf t215 true (fl w200 t6 43 1 4 λt218=>fl w200 t3 96 7 4 λt220=>bf .eql 4 t218 t220 λt221=>K202 [t221] w200) (K202 [u_] w200)) (λs203 _d204 w205=>
 zb t215 (s203.getD 0 u_) fa_ λt222=>za (λK206=>gIf t222 true (fl w205 t6 43 4 41 λt225=>xl w205 41 t225 (i6 0) 43 λt227=>lo w205 43 t12 λt228=>ca yT #[t227,t228] w205 λt229 w210=>
 K206 [t229] w210) (K206 [u_] w205)) (λs207 _d208 w209=>
 zb t222 (s207.getD 0 u_) fa_ λt230=>za (λK211=>gIf t230 true (fl w209 t3 96 7 4 λt233=>pp (Op.unary .not t233) λt234=>K211 [t234] w209) (K211 [u_] w209)) (λs212 _d213 w214=>
 za (λK215=>gIf (s212.getD 0 u_) false (ca kO #[t83] w214 λt237 w219=>
 bt .lss 3 t237 (i6 3) λt238=>K215 [t238] w219) (K215 [u_] w214)) (λs216 _d217 w218=>
 za (λK220=>gIf t230 true (zb (s212.getD 0 u_) tr_ (s216.getD 0 u_) λt239=>K220 [t239] w218) (K220 [u_] w218)) (λs221 _d222 w223=>
 zb t230 (s221.getD 0 u_) fa_ λt240=>K t240 w223))))))))) (bt .eql 90 t86 (Value.int .u8 5) λt242=>zc t242 (lo w45.drew 96 t3 λt243=>ca zR #[t243,(Value.string { data:=#[84,65] })] w45.drew λt244 w224=>
 za (λK225=>gIf t244 true (K225 [t62] w224) (K225 [u_] w224)) (λs226 _d227 w228=>
 zb t244 (s226.getD 0 u_) fa_ λt247=>za (λK229=>gIf t247 true (K229 [t69] w228) (K229 [u_] w228)) (λs230 _d231 w232=>
 zb t247 (s230.getD 0 u_) fa_ λt250=>za (λK233=>gIf t250 true (lo w232 43 t6 λt252=>ca zO #[t252,(Value.int .u8 3)] w232 λt253 w237=>
 K233 [t253] w237) (K233 [u_] w232)) (λs234 _d235 w236=>
 zb t250 (s234.getD 0 u_) fa_ λt254=>za (λK238=>gIf t254 true (fl w236 t6 43 4 41 λt257=>xl w236 41 t257 (i6 0) 43 λt259=>lo w236 43 t8 λt260=>ca yT #[t259,t260] w236 λt261 w242=>
 K238 [t261] w242) (K238 [u_] w236)) (λs239 _d240 w241=>
 zb t254 (s239.getD 0 u_) fa_ λt262=>K t262 w241))))) (bt .eql 90 t86 (Value.int .u8 6) λt264=>zc t264 (lo w45 96 t3 λt265=>ca zR #[t265,(Value.string { data:=#[84,76,85] })] w45 λt266 w243=>
 pp (Op.unary .not t266) λt267=>za (λK244=>gIf t267 false (pp (Op.unary .not t62) λt270=>K244 [t270] w243) (K244 [u_] w243)) (λs245 _d246 w247=>
 zb t267 tr_ (s245.getD 0 u_) λt271=>za (λK248=>gIf t271 false (lo w247 43 t6 λt273=>ca zO #[t273,(Value.int .u8 5)] w247 λt274 w252=>
 pp (Op.unary .not t274) λt275=>K248 [t275] w252) (K248 [u_] w247)) (λs249 _d250 w251=>
 zb t271 tr_ (s249.getD 0 u_) λt276=>za (λK253=>gIf t276 false (fl w251 t6 43 3 3 λt279=>fl w251 t3 96 9 3 λt281=>bf .neq 3 t279 t281 λt282=>K253 [t282] w251) (K253 [u_] w251)) (λs254 _d255 w256=>
 zb t276 tr_ (s254.getD 0 u_) λt283=>zc t283 (K fa_ w256) (fa t0 170 0 λt287=>fl w256.drew t287 25 0 22 λt289=>lo w256.drew 43 t6 λt290=>ca ZO #[t289,t290] w256.drew λt291 w257=>
 pe t291 0 λt292=>pe t291 1 λ_t293=>fl w257 t3 96 4 94 λt296=>ca kq #[t0,t296,t292] w257 λt298 w258=>
 K t298 w258))))) (bt .eql 90 t86 (Value.int .u8 7) λt300=>zc t300 (lo w45.drew 96 t3 λt301=>ca zR #[t301,(Value.string { data:=#[84,76,78] })] w45.drew λt302 w259=>
 pp (Op.unary .not t302) λt303=>za (λK260=>gIf t303 false (pp (Op.unary .not t62) λt306=>K260 [t306] w259) (K260 [u_] w259)) (λs261 _d262 w263=>
 zb t303 tr_ (s261.getD 0 u_) λt307=>za (λK264=>gIf t307 false (fl w263 t3 96 8 3 λt310=>bt .lss 3 t310 (i6 0) λt311=>K264 [t311] w263) (K264 [u_] w263)) (λs265 _d266 w267=>
 zb t307 tr_ (s265.getD 0 u_) λt312=>za (λK268=>gIf t312 false (fl w267 t3 96 8 3 λt315=>fa t0 170 0 λt318=>fl w267 t318 25 1 23 λt320=>pp (Builtin.len_ #[23] 3 #[t320]) λt321=>bf .geq 3 t315 t321 λt322=>K268 [t322] w267) (K268 [u_] w267)) (λs269 _d270 w271=>
 zb t312 tr_ (s269.getD 0 u_) λt323=>zc t323 (K fa_ w271) (fa t0 170 0 λt326=>fl w271.drew t326 25 1 23 λt328=>fl w271.drew t3 96 8 3 λt330=>xl w271.drew 23 t328 t330 101 λt332=>pw w271.drew (Instr.alloc 101 true (.tuple #[])) λt18 w272=>
 Ext w271.drew w272∧
 so w272 101 t18 t332 λw273=>fl w273.drew t3 96 4 94 λt335=>fl w273.drew t18 101 4 41 λt337=>fl w273.drew t18 101 3 3 λt339=>bt .add 3 t339 (i6 1) λt340=>pp (Instr.sliceAt 41 t337 (some (i6 1)) (some t340) none) λt341=>ca kq #[t0,t335,t341] w273.drew λt342 w274=>
 za (λK275=>gIf t342 true (lo w274 43 t6 λt344=>fl w274 t18 101 4 41 λt346=>xl w274 41 t346 (i6 0) 43 λt348=>ca yT #[t344,t348] w274 λt349 w279=>
 K275 [t349] w279) (K275 [u_] w274)) (λs276 _d277 w278=>
 zb t342 (s276.getD 0 u_) fa_ λt350=>K t350 w278)))))) (bt .eql 90 t86 (Value.int .u8 8) λt352=>zc t352 (lo w45 96 t3 λt353=>ca zR #[t353,(Value.string { data:=#[84] })] w45 λt354 w280=>
 za (λK281=>gIf t354 true (K281 [t62] w280) (K281 [u_] w280)) (λs282 _d283 w284=>
 zb t354 (s282.getD 0 u_) fa_ λt357=>za (λK285=>gIf t357 true (lo w284 43 t6 λt359=>ca zO #[t359,(Value.int .u8 1)] w284 λt360 w289=>
 K285 [t360] w289) (K285 [u_] w284)) (λs286 _d287 w288=>
 zb t357 (s286.getD 0 u_) fa_ λt361=>K t361 w288))) (bt .eql 90 t86 (Value.int .u8 9) λt363=>zc t363 (lo w45 96 t3 λt364=>ca zR #[t364,(Value.string { data:=#[65] })] w45 λt365 w290=>
 za (λK291=>gIf t365 true (K291 [t69] w290) (K291 [u_] w290)) (λs292 _d293 w294=>
 zb t365 (s292.getD 0 u_) fa_ λt368=>za (λK295=>gIf t368 true (lo w294 43 t8 λt370=>ca zO #[t370,(Value.int .u8 1)] w294 λt371 w299=>
 K295 [t371] w299) (K295 [u_] w294)) (λs296 _d297 w298=>
 zb t368 (s296.getD 0 u_) fa_ λt372=>K t372 w298))) (bt .eql 90 t86 (Value.int .u8 10) λt374=>zc t374 (fa t0 170 0 λt378=>fl w45.drew t378 25 0 22 λt380=>lo w45.drew 43 t12 λt381=>ca j7 #[t380,t381] w45.drew λt382 w300=>
 pe t382 0 λt383=>pe t382 1 λ_t384=>lo w300 96 t3 λt385=>ca zR #[t385,(Value.string { data:=#[70] })] w300 λt386 w301=>
 za (λK302=>gIf t386 true (K302 [t84] w301) (K302 [u_] w301)) (λs303 _d304 w305=>
 zb t386 (s303.getD 0 u_) fa_ λt389=>za (λK306=>gIf t389 true (K306 [t383] w305) (K306 [u_] w305)) (λs307 _d308 w309=>
 zb t389 (s307.getD 0 u_) fa_ λt392=>za (λK310=>gIf t392 true (ca kO #[t83] w309 λt395 w314=>
 bt .lss 3 t395 (i6 2) λt396=>K310 [t396] w314) (K310 [u_] w309)) (λs311 _d312 w313=>
 zb t392 (s311.getD 0 u_) fa_ λt397=>K t397 w313)))) (bt .eql 90 t86 (Value.int .u8 11) λt399=>zc t399 (lo w45 96 t3 λt400=>ca zR #[t400,(Value.string { data:=#[70] })] w45 λt401 w315=>
 za (λK316=>gIf t401 true (K316 [t84] w315) (K316 [u_] w315)) (λs317 _d318 w319=>
 zb t401 (s317.getD 0 u_) fa_ λt404=>za (λK320=>gIf t404 true (pf 96 t3 6 λt406=>fl w319 t406 80 0 3 λt408=>bt .gtr 3 t408 (i6 0) λt409=>K320 [t409] w319) (K320 [u_] w319)) (λs321 _d322 w323=>
 zb t404 (s321.getD 0 u_) fa_ λt410=>za (λK324=>gIf t410 true (pf 96 t3 6 λt412=>fl w323 t412 80 1 78 λt414=>pp (Builtin.len_ #[78] 3 #[t414]) λt415=>bt .eql 3 t415 (i6 0) λt416=>K324 [t416] w323) (K324 [u_] w323)) (λs325 _d326 w327=>
 zb t410 (s325.getD 0 u_) fa_ λt417=>K t417 w327)))) (bt .eql 90 t86 (Value.int .u8 12) λt419=>zc t419 (lo w45 96 t3 λt420=>ca zR #[t420,(Value.string { data:=#[65,69] })] w45 λt421 w328=>
 za (λK329=>gIf t421 true (K329 [t69] w328) (K329 [u_] w328)) (λs330 _d331 w332=>
 zb t421 (s330.getD 0 u_) fa_ λt424=>za (λK333=>gIf t424 true (lo w332 43 t8 λt426=>ca zO #[t426,(Value.int .u8 2)] w332 λt427 w337=>
 K333 [t427] w337) (K333 [u_] w332)) (λs334 _d335 w336=>
 zb t424 (s334.getD 0 u_) fa_ λt428=>za (λK338=>gIf t428 true (fl w336 t3 96 11 3 λt431=>bt .geq 3 t431 (i6 0) λt432=>K338 [t432] w336) (K338 [u_] w336)) (λs339 _d340 w341=>
 zb t428 (s339.getD 0 u_) fa_ λt433=>za (λK342=>gIf t433 true (fl w341 t3 96 11 3 λt436=>bf .lss 3 t436 t26 λt438=>K342 [t438] w341) (K342 [u_] w341)) (λs343 _d344 w345=>
 zb t433 (s343.getD 0 u_) fa_ λt439=>K t439 w345))))) (za (λK346=>
 bt .eql 90 t86 (Value.int .u8 13) λt441=>zc t441 (K346 [t441] w45) (bt .eql 90 t86 (Value.int .u8 14) λt442=>K346 [t442] w45)) (λs347 _d348 w349=>
 zc (s347.getD 0 u_) (lo w349 96 t3 λt443=>ca zR #[t443,(Value.string { data:=#[] })] w349 λt444 w350=>
 K t444 w350) (K fa_ w349)))))))))))))))))))))))
theorem Vc(h:ZF t0 t1 w K):zd prog qQ #[t0,t1] w K:=
 okC false (.s (.r (rz 2 0 2)) (.s (.r (rz 7 0 256)) (.s (.s (.r (ra 4 0 4 (.grp 30 false (ri 4 4 4) [34] (.grp 34 true (ri 3 8 4) [37] (.grp 30 false (ri 1 11 0) [38] (ra 2 12 0 (.grp 40 false (ri 4 14 4) [44] (.grp 44 true (ri 4 18 4) [48] (.grp 48 false (ri 4 22 4) [52] (.grp 44 true (ri 1 26 0) [53] (.grp 40 false (ri 1 27 0) [54] (rz 1 28 0)))))))))))) (.c (.s (.r (rz 1 0 0)) (.n)) (.n))) (.s (.r (rz 10 0 163984)) (.s (.r (rz 10 0 163984)) (.s (.r (rz 10 0 163984)) (.s (.r (rz 12 0 655504)) (.s (.s (.r (rz 2 0 4)) (.b (.s (.r (rz 2 0 0)) (.c (.s (.r (ra 3 0 9 (.grp 91 true (ri 1 3 0) [92] (ra 2 4 0 (.grp 94 true (ri 1 6 0) [95] (ra 2 7 0 (.grp 97 true (ri 3 9 37) [100] (rz 2 12 0)))))))) (.n)) (.s (.r (rz 2 0 0)) (.c (.s (.s (.r (ra 4 0 9 (.grp 107 false (ri 2 4 0) [109] (ra 2 6 0 (.grp 111 false (ri 2 8 0) [113] (ra 2 10 0 (.grp 115 false (ri 2 12 0) [117] (rz 1 14 0)))))))) (.c (.s (.r (rz 1 0 0)) (.n)) (.n))) (.s (.s (.r (rz 3 0 36)) (.c (.s (.r (ra 3 0 9 (.grp 124 true (ri 2 3 9) [126] (ra 2 5 0 (.grp 128 true (ri 2 7 9) [130] (rz 2 9 0)))))) (.n)) (.n))) (.s (.r (ra 3 0 9 (.grp 134 true (ri 2 3 9) [136] (ra 2 5 0 (.grp 138 false (ri 4 7 4) [142] (.grp 142 false (ri 3 11 4) [145] (.grp 138 false (ri 2 14 0) [147] (.grp 147 true (ri 2 16 9) [149] (.grp 138 false (ri 2 18 0) [151] (.grp 151 true (ri 2 20 9) [153] (.grp 138 false (ri 1 22 0) [154] (rz 2 23 0)))))))))))) (.s (.r (ra 4 0 36 (.grp 159 true (ri 2 4 9) [161] (ra 2 6 0 (.grp 163 true (ri 1 8 0) [164] (rz 2 9 0)))))) (.n))))) (.s (.r (rz 2 0 0)) (.c (.s (.r (ra 3 0 9 (.grp 170 true (ri 1 3 0) [171] (ra 2 4 0 (.grp 173 true (ri 1 6 0) [174] (ra 2 7 0 (.grp 176 true (ri 4 9 4) [180] (.grp 180 true (ri 2 13 9) [182] (.grp 176 true (ri 2 15 0) [184] (.grp 184 true (ri 2 17 9) [186] (.grp 176 true (ri 2 19 0) [188] (.grp 188 false (ri 4 21 4) [192] (.grp 192 true (ri 2 25 9) [194] (.grp 188 false (ri 2 27 0) [196] (.grp 196 true (ri 2 29 9) [198] (.grp 188 false (ri 1 31 0) [199] (.grp 176 true (ri 1 32 0) [200] (rz 2 33 0)))))))))))))))))) (.n)) (.s (.r (rz 2 0 0)) (.c (.s (.r (ra 3 0 9 (.grp 206 true (ri 1 3 0) [207] (ra 2 4 0 (.grp 209 true (ri 1 6 0) [210] (ra 2 7 0 (.grp 212 true (ri 2 9 9) [214] (ra 2 11 0 (.grp 216 true (ri 5 13 68) [221] (ra 2 18 0 (.grp 223 true (ri 6 20 2372) [229] (ra 2 26 0 (.grp 231 true (ri 4 28 4) [235] (.grp 235 false (ri 3 32 8) [238] (.grp 231 true (ri 1 35 0) [239] (rz 2 36 0)))))))))))))))) (.n)) (.s (.r (rz 2 0 0)) (.c (.s (.r (ra 3 0 9 (.grp 245 true (ri 1 3 0) [246] (ra 2 4 0 (.grp 248 true (ri 1 6 0) [249] (ra 2 7 0 (.grp 251 true (ri 2 9 9) [253] (ra 2 11 0 (.grp 255 true (ri 6 13 2372) [261] (rz 2 19 0)))))))))) (.n)) (.s (.r (rz 2 0 0)) (.c (.s (.s (.r (ra 4 0 9 (.grp 268 false (ri 2 4 0) [270] (ra 2 6 0 (.grp 272 false (ri 3 8 9) [275] (ra 2 11 0 (.grp 277 false (ri 5 13 68) [282] (rz 1 18 0)))))))) (.c (.s (.r (rz 1 0 0)) (.n)) (.n))) (.s (.r (rz 12 0 9472)) (.s (.r (rz 6 0 528)) (.n)))) (.s (.r (rz 2 0 0)) (.c (.s (.s (.r (ra 4 0 9 (.grp 304 false (ri 2 4 0) [306] (ra 2 6 0 (.grp 308 false (ri 3 8 4) [311] (ra 2 11 0 (.grp 313 false (ri 9 13 4100) [322] (rz 1 22 0)))))))) (.c (.s (.r (rz 1 0 0)) (.n)) (.n))) (.s (.r (rz 11 0 2953472)) (.s (.r (ra 11 0 528656 (.grp 343 true (ri 6 11 2321) [349] (rz 2 17 0)))) (.n)))) (.s (.r (rz 2 0 0)) (.c (.s (.r (ra 3 0 9 (.grp 355 true (ri 1 3 0) [356] (ra 2 4 0 (.grp 358 true (ri 2 6 9) [360] (rz 2 8 0)))))) (.n)) (.s (.r (rz 2 0 0)) (.c (.s (.r (ra 3 0 9 (.grp 366 true (ri 1 3 0) [367] (ra 2 4 0 (.grp 369 true (ri 2 6 9) [371] (rz 2 8 0)))))) (.n)) (.s (.r (rz 2 0 0)) (.c (.s (.r (rz 12 0 9472)) (.s (.r (ra 3 0 9 (.grp 387 true (ri 1 3 0) [388] (ra 2 4 0 (.grp 390 true (ri 1 6 0) [391] (ra 2 7 0 (.grp 393 true (ri 3 9 8) [396] (rz 2 12 0)))))))) (.n))) (.s (.r (rz 2 0 0)) (.c (.s (.r (ra 3 0 9 (.grp 402 true (ri 1 3 0) [403] (ra 2 4 0 (.grp 405 true (ri 4 6 16) [409] (ra 2 10 0 (.grp 411 true (ri 5 12 16) [416] (rz 2 17 0)))))))) (.n)) (.s (.r (rz 2 0 0)) (.c (.s (.r (ra 3 0 9 (.grp 422 true (ri 1 3 0) [423] (ra 2 4 0 (.grp 425 true (ri 2 6 9) [427] (ra 2 8 0 (.grp 429 true (ri 3 10 4) [432] (ra 2 13 0 (.grp 434 true (ri 4 15 4) [438] (rz 2 19 0)))))))))) (.n)) (.j [440] (.s (.r (rz 2 0 0)) (.c (.n) (.r (rz 2 0 0)))) (.c (.s (.r (rz 3 0 9)) (.n)) (.n))))))))))))))))))))))))))))) (.s (.r (rz 1 0 0)) (.n)))))))))) func206 rfl (by kernel_rfl) (by kernel_rfl) h
def aax(t0 t1:Value)(w:World)(K:VW):Prop:=
 pw w (Instr.box 43 t0) λt2 w1=>
 lo w1 43 t2 λt7=>ca qZ #[t7] w1 λt8 w2=>
 zp [(i6 0)] w2 (λs4 _d5 w6 K3=>
 pp (Builtin.len_ #[55] 3 #[t8]) λt11=>bf .lss 3 (s4.getD 0 u_) t11 λt12=>zc t12 (bt .add 3 (s4.getD 0 u_) (i6 1) λt16=>zp [t16] w6 (λs8 _d9 w10 K7=>
 pp (Builtin.len_ #[55] 3 #[t8]) λt19=>bf .lss 3 (s8.getD 0 u_) t19 λt20=>zc t20 (xl w10.drew 55 t8 (s8.getD 0 u_) 3 λt27=>xl w10.drew 55 t8 (s4.getD 0 u_) 3 λt31=>ab3 t1 λt32=>px 296 t32 t27 λt33=>px 295 t33 t31 λt34=>so w10.drew 4 t34 tr_ λw11=>bt .add 3 (s8.getD 0 u_) (i6 1) λt22=>K7 [t22] w11) (bt .add 3 (s4.getD 0 u_) (i6 1) λt14=>K3 [t14] w10))) (K (.tuple #[]) w6))
theorem agb(h:aax t0 t1 w K):zd prog Xw #[t0,t1] w K:=
 okC false (.s (.r (rz 1 0 2)) (.s (.r (rz 3 0 9)) (.s (.r (rz 1 0 0)) (.b (.lp [5] (.s (.s (.r (rz 4 0 0)) (.c (.n) (.n))) (.s (.b (.s (.r (rz 3 0 0)) (.b (.lp [6] (.s (.s (.r (rz 4 0 0)) (.c (.n) (.n))) (.s (.b (.r (rz 13 0 33620224))) (.r (rz 3 0 0)))))))) (.r (rz 3 0 0))))))))) func223 rfl (by kernel_rfl) (by kernel_rfl) h
def XX(t0 t1:Value)(w:World)(K:VW):Prop:=
 pw w (Instr.box 80 t1) λt3 w1=>
 pw w1 (Instr.alloc 43 true (.tuple #[])) λt4 w2=>
 lo w2 80 t3 λt11=>ca yC #[t0,t11] w2 λt12 w3=>
 pe t12 0 λt13=>pe t12 1 λt14=>pe t12 2 λt15=>pw w3 (Instr.alloc 43 true (.tuple #[])) λt6 w4=>
 so w4 43 t6 t13 λw5=>lo w5.drew 43 t6 λt16=>za (λK6=>gIf t15 true (ca kO #[t14] w5.drew λt20 w10=>
 Ext w5.drew w10∧
 bt .lss 3 t20 (i6 3) λt21=>K6 [t21] w10) (K6 [u_] w5.drew)) (λs7 _d8 w9=>
 zb t15 (s7.getD 0 u_) fa_ λt22=>so w9 43 t4 t16 λw11=>pq w11 (zi 43 t4) λr12=>K (.tuple #[r12,t22]) w11)
theorem abp(h:XX t0 t1 w K):zd prog vu #[t0,t1] w K:=
 okC false (.s (.r (rz 3 0 10)) (.s (.r (rz 11 0 163876)) (.s (.r (ra 3 0 1 (.grp 18 true (ri 3 3 12) [21] (rz 3 6 8)))) (.n)))) func224 rfl (by kernel_rfl) (by kernel_rfl) h
def vY(t0 t1:Value)(w:World)(K:VW):Prop:=
 pw w (Instr.box 93 t1) λt3 w1=>
 pw w1 (Instr.alloc 43 true (.tuple #[])) λt4 w2=>
 fl w2 t3 93 0 91 λt10=>bt .eql 91 t10 (Value.int .u8 1) λt12=>zc t12 (pp (Instr.build 43 #[(0,(Value.int .u8 1))]) λt13=>fl w2 t3 93 2 80 λt15=>ca yL #[t15] w2 λt16 w3=>
 so w3 43 t4 t13 λw4=>pq w4 (zi 43 t4) λr5=>K (.tuple #[r5,t16]) w4) (bt .eql 91 t10 (Value.int .u8 2) λt18=>zc t18 (pp (Instr.build 43 #[(0,(Value.int .u8 2))]) λt19=>fl w2.drew t3 93 2 80 λt21=>ca yL #[t21] w2.drew λt22 w6=>
 za (λK7=>gIf t22 true (fl w6 t3 93 1 2 λt25=>bt .eql 2 t25 (i6 0) λt26=>K7 [t26] w6) (K7 [u_] w6)) (λs8 _d9 w10=>
 za (λK11=>gIf (s8.getD 0 u_) false (pf 93 t3 1 λt28=>K11 [t28] w10) (K11 [u_] w10)) (λs12 _d13 w14=>
 ((za (λK15=>gIf (s8.getD 0 u_) false (pw w14 (Instr.loadAt 2 (s12.getD 0 u_)) λt29 w19=>
 bt .eql 2 t29 (i6 1) λt30=>K15 [t30] w19) (K15 [u_] w14)) (λs16 _d17 w18=>
 za (λK20=>gIf t22 true (zb (s8.getD 0 u_) tr_ (s16.getD 0 u_) λt31=>K20 [t31] w18) (K20 [u_] w18)) (λs21 _d22 w23=>
 zb t22 (s21.getD 0 u_) fa_ λt32=>so w23 43 t4 t19 λw24=>pq w24 (zi 43 t4) λr25=>K (.tuple #[r25,t32]) w24)))∧
 (so w14 43 t4 t19 λw26=>za (λK27=>gIf (s8.getD 0 u_) false (pw w26 (Instr.loadAt 2 (s12.getD 0 u_)) λt29_32 w31=>
 bt .eql 2 t29_32 (i6 1) λt30_33=>K27 [t30_33] w31) (K27 [u_] w26)) (λs28 _d29 w30=>
 za (λK34=>gIf t22 true (zb (s8.getD 0 u_) tr_ (s28.getD 0 u_) λt31_38=>K34 [t31_38] w30) (K34 [u_] w30)) (λs35 _d36 w37=>
 zb t22 (s35.getD 0 u_) fa_ λt32_39=>pq w37 (zi 43 t4) λr40=>K (.tuple #[r40,t32_39]) w37))))))) (za (λK41=>
 bt .eql 91 t10 (Value.int .u8 3) λt34=>zc t34 (K41 [t34] w2) (bt .eql 91 t10 (Value.int .u8 4) λt35=>K41 [t35] w2)) (λs42 _d43 w44=>
 zc (s42.getD 0 u_) (fl w44 t3 93 2 80 λt39=>ca yC #[t0,t39] w44 λt40 w45=>
 pe t40 0 λt41=>pe t40 1 λt42=>pe t40 2 λt43=>pw w45 (Instr.alloc 43 true (.tuple #[])) λt6 w46=>
 so w46 43 t6 t41 λw47=>pp (Op.unary .not t43) λt45=>za (λK48=>gIf t45 false (fl w47 t3 93 1 2 λt48=>bt .neq 2 t48 (i6 0) λt49=>K48 [t49] w47) (K48 [u_] w47)) (λs49 _d50 w51=>
 zb t45 tr_ (s49.getD 0 u_) λt50=>zc t50 (lo w51 43 t6 λt51=>so w51 43 t4 t51 λw52=>pq w52 (zi 43 t4) λr53=>K (.tuple #[r53,fa_]) w52) (fl w51 t3 93 0 91 λt53=>bt .eql 91 t53 (Value.int .u8 3) λt54=>zc t54 (lo w51.drew 43 t6 λt55=>lo w51.drew 43 t6 λt56=>ca jz #[t56] w51.drew λt57 w54=>
 Ext w51.drew w54∧
 so w54 43 t4 t55 λw55=>pq w55 (zi 43 t4) λr56=>K (.tuple #[r56,t57]) w55) (lo w51.drew 43 t6 λt58=>lo w51.drew 43 t6 λt59=>ca jz #[t59] w51.drew λt60 w57=>
 Ext w51.drew w57∧
 pp (Op.unary .not t60) λt61=>za (λK58=>gIf t61 true (ca kO #[t42] w57 λt64 w62=>
 Ext w57 w62∧
 bt .lss 3 t64 (i6 2) λt65=>K58 [t65] w62) (K58 [u_] w57)) (λs59 _d60 w61=>
 zb t61 (s59.getD 0 u_) fa_ λt66=>so w61 43 t4 t58 λw63=>pq w63 (zi 43 t4) λr64=>K (.tuple #[r64,t66]) w63))))) (pp (Instr.build 43 #[]) λt67=>so w44 43 t4 t67 λw65=>pq w65 (zi 43 t4) λr66=>K (.tuple #[r66,fa_]) w65))))
theorem Q2(h:vY t0 t1 w K):zd prog y7 #[t0,t1] w K:=
 okC false (.s (.r (rz 3 0 10)) (.s (.s (.r (rz 2 0 4)) (.b (.s (.r (rz 2 0 0)) (.c (.s (.r (rz 6 0 656)) (.n)) (.s (.r (rz 2 0 0)) (.c (.s (.r (ra 5 0 144 (.grp 23 true (ri 4 5 4) [27] (.grp 27 false (ri 1 9 0) [28] (.bth (.grp 27 false (ri 2 10 2) [30] (.grp 23 true (ri 1 12 0) [31] (rz 3 13 8))) (ra 1 14 2 (.grp 27 false (ri 2 10 2) [30] (.grp 23 true (ri 1 12 0) [31] (ra 1 13 0 (rz 1 15 0)))))))))) (.n)) (.j [33] (.s (.r (rz 2 0 0)) (.c (.n) (.r (rz 2 0 0)))) (.c (.s (.r (rz 12 0 655504)) (.s (.s (.r (ra 3 0 0 (.grp 46 false (ri 3 3 4) [49] (rz 1 6 0)))) (.c (.s (.r (rz 3 0 9)) (.n)) (.n))) (.s (.s (.r (rz 3 0 4)) (.c (.s (.r (rz 5 0 181)) (.n)) (.n))) (.s (.r (ra 5 0 53 (.grp 62 true (ri 3 5 12) [65] (rz 3 8 8)))) (.n))))) (.n))))))))) (.s (.r (rz 3 0 8)) (.n)))) func225 rfl (by kernel_rfl) (by kernel_rfl) h
def Yo(t0 t1:Value)(w:World)(K:VW):Prop:=
 pw w (Instr.box 80 t1) λt3 w1=>
 pw w1 (Instr.alloc 43 true (.tuple #[])) λt4 w2=>
 fl w2.drew t3 80 0 3 λt8=>bt .lss 3 t8 (i6 0) λt9=>za (λK3=>gIf t9 false (fl w2.drew t3 80 0 3 λt12=>fa t0 170 1 λt15=>fl w2.drew t15 101 4 41 λt17=>pp (Builtin.len_ #[41] 3 #[t17]) λt18=>bf .geq 3 t12 t18 λt19=>K3 [t19] w2.drew) (K3 [u_] w2.drew)) (λs4 _d5 w6=>
 zb t9 tr_ (s4.getD 0 u_) λt20=>zc t20 (pp (Instr.build 43 #[]) λt21=>so w6 43 t4 t21 λw7=>pq w7 (zi 43 t4) λr8=>K (.tuple #[r8,(Value.slice Option.none 0 0),fa_]) w7) (fa t0 170 0 λt24=>fl w6.drew t24 25 0 22 λt26=>fa t0 170 1 λt29=>fl w6.drew t29 101 4 41 λt31=>fl w6.drew t3 80 0 3 λt33=>fl w6.drew t3 80 0 3 λt35=>bt .add 3 t35 (i6 1) λt36=>pp (Instr.sliceAt 41 t31 (some t33) (some t36) none) λt37=>fl w6.drew t3 80 1 78 λt39=>pp (Instr.build 80 #[(1,t39)]) λt40=>ca Xu #[t26,t37,t40] w6.drew λt41 w9=>
 pe t41 0 λt42=>pe t41 1 λt43=>pe t41 2 λt44=>so w9 43 t4 t42 λw10=>pq w10 (zi 43 t4) λr11=>K (.tuple #[r11,t43,t44]) w10))
theorem VX(h:Yo t0 t1 w K):zd prog yC #[t0,t1] w K:=
 okC false (.s (.r (rz 4 0 10)) (.s (.s (.r (ra 4 0 4 (.grp 10 false (ri 9 4 4100) [19] (rz 1 13 0)))) (.c (.s (.r (rz 4 0 8)) (.n)) (.n))) (.s (.r (rz 26 0 141304495603968)) (.n)))) func93 rfl (by kernel_rfl) (by kernel_rfl) h
def aay(t0 t1:Value)(w:World)(K:VW):Prop:=
 pw w (Instr.box 96 t0) λt2 w1=>
 zp [tr_,(i6 0)] w1 (λs3 _d4 w5 K2=>
 bt .lss 3 (s3.getD 1 u_) (i6 10) λt11=>zc t11 (za (λK6=>
 pp (Instr.index 9 (Value.string { data:=#[84,65,66,76,70,83,78,85,77,69] }) (s3.getD 1 u_)) λt15=>zp [fa_,(i6 0)] w5 (λs11 _d12 w13 K10=>
 pp (Builtin.len_ #[9] 3 #[t1]) λt18=>bf .lss 3 (s11.getD 1 u_) t18 λt19=>zc t19 (za (λK14=>gIf (s11.getD 0 u_) false (pp (Instr.index 9 t1 (s11.getD 1 u_)) λt26=>bf .eql 5 t26 t15 λt28=>K14 [t28] w13) (K14 [u_] w13)) (λs15 _d16 w17=>
 zb (s11.getD 0 u_) tr_ (s15.getD 0 u_) λt29=>bt .add 3 (s11.getD 1 u_) (i6 1) λt21=>K10 [t29,t21] w17)) (zc (s11.getD 0 u_) (K6 [(s3.getD 0 u_)] w13) (bt .eql 5 t15 (Value.int .u8 84) λt33=>zc t33 (za (λK18=>gIf (s3.getD 0 u_) true (fl w13 t2 96 1 80 λt37=>ca yL #[t37] w13 λt38 w22=>
 K18 [t38] w22) (K18 [u_] w13)) (λs19 _d20 w21=>
 zb (s3.getD 0 u_) (s19.getD 0 u_) fa_ λt39=>K6 [t39] w21)) (bt .eql 5 t15 (Value.int .u8 65) λt41=>zc t41 (za (λK23=>gIf (s3.getD 0 u_) true (fl w13 t2 96 2 93 λt45=>ca kg #[t45] w13 λt46 w27=>
 K23 [t46] w27) (K23 [u_] w13)) (λs24 _d25 w26=>
 zb (s3.getD 0 u_) (s24.getD 0 u_) fa_ λt47=>K6 [t47] w26)) (bt .eql 5 t15 (Value.int .u8 66) λt49=>zc t49 (za (λK28=>gIf (s3.getD 0 u_) true (fl w13 t2 96 3 93 λt53=>ca kg #[t53] w13 λt54 w32=>
 K28 [t54] w32) (K28 [u_] w13)) (λs29 _d30 w31=>
 zb (s3.getD 0 u_) (s29.getD 0 u_) fa_ λt55=>K6 [t55] w31)) (bt .eql 5 t15 (Value.int .u8 76) λt57=>zc t57 (za (λK33=>gIf (s3.getD 0 u_) true (fl w13 t2 96 4 94 λt61=>pp (Builtin.len_ #[94] 3 #[t61]) λt62=>bt .eql 3 t62 (i6 0) λt63=>K33 [t63] w13) (K33 [u_] w13)) (λs34 _d35 w36=>
 zb (s3.getD 0 u_) (s34.getD 0 u_) fa_ λt64=>K6 [t64] w36)) (bt .eql 5 t15 (Value.int .u8 70) λt66=>zc t66 (za (λK37=>gIf (s3.getD 0 u_) true (fl w13 t2 96 6 80 λt70=>ca yL #[t70] w13 λt71 w41=>
 K37 [t71] w41) (K37 [u_] w13)) (λs38 _d39 w40=>
 zb (s3.getD 0 u_) (s38.getD 0 u_) fa_ λt72=>K6 [t72] w40)) (bt .eql 5 t15 (Value.int .u8 83) λt74=>zc t74 (za (λK42=>gIf (s3.getD 0 u_) true (fl w13 t2 96 5 9 λt78=>bt .eql 9 t78 (Value.string { data:=#[] }) λt79=>K42 [t79] w13) (K42 [u_] w13)) (λs43 _d44 w45=>
 zb (s3.getD 0 u_) (s43.getD 0 u_) fa_ λt80=>K6 [t80] w45)) (bt .eql 5 t15 (Value.int .u8 78) λt82=>zc t82 (za (λK46=>gIf (s3.getD 0 u_) true (fl w13 t2 96 8 3 λt86=>bt .eql 3 t86 (i6 0) λt87=>K46 [t87] w13) (K46 [u_] w13)) (λs47 _d48 w49=>
 zb (s3.getD 0 u_) (s47.getD 0 u_) fa_ λt88=>K6 [t88] w49)) (bt .eql 5 t15 (Value.int .u8 85) λt90=>zc t90 (za (λK50=>gIf (s3.getD 0 u_) true (fl w13 t2 96 9 3 λt94=>bt .eql 3 t94 (i6 0) λt95=>K50 [t95] w13) (K50 [u_] w13)) (λs51 _d52 w53=>
 zb (s3.getD 0 u_) (s51.getD 0 u_) fa_ λt96=>K6 [t96] w53)) (bt .eql 5 t15 (Value.int .u8 77) λt98=>zc t98 (za (λK54=>gIf (s3.getD 0 u_) true (fl w13 t2 96 7 4 λt102=>pp (Op.unary .not t102) λt103=>K54 [t103] w13) (K54 [u_] w13)) (λs55 _d56 w57=>
 zb (s3.getD 0 u_) (s55.getD 0 u_) fa_ λt104=>K6 [t104] w57)) (bt .eql 5 t15 (Value.int .u8 69) λt106=>zc t106 (za (λK58=>gIf (s3.getD 0 u_) true (fl w13 t2 96 11 3 λt110=>bt .eql 3 t110 (i6 0) λt111=>K58 [t111] w13) (K58 [u_] w13)) (λs59 _d60 w61=>
 zb (s3.getD 0 u_) (s59.getD 0 u_) fa_ λt112=>K6 [t112] w61)) (K6 [(s3.getD 0 u_)] w13)))))))))))))) (λs7 _d8 w9=>
 bt .add 3 (s3.getD 1 u_) (i6 1) λt13=>K2 [(s7.getD 0 u_),t13] w9)) (K (s3.getD 0 u_) w5))
theorem agc(h:aay t0 t1 w K):zd prog zR #[t0,t1] w K:=
 okC false (.s (.r (rz 2 0 2)) (.s (.r (rz 1 0 0)) (.s (.s (.r (rz 1 0 0)) (.b (.lp [5,6] (.s (.s (.r (rz 2 0 0)) (.c (.n) (.n))) (.j [5] (.b (.s (.r (rz 3 0 0)) (.s (.r (rz 1 0 0)) (.s (.s (.r (rz 1 0 0)) (.b (.lp [8,9] (.s (.s (.r (rz 4 0 0)) (.c (.n) (.n))) (.s (.b (.r (ra 2 0 0 (.grp 23 false (ri 5 2 0) [28] (rz 2 7 0))))) (.r (rz 3 0 0))))))) (.s (.s (.r (rz 1 0 0)) (.c (.n) (.n))) (.s (.r (rz 1 0 0)) (.b (.s (.r (rz 2 0 0)) (.c (.r (ra 2 0 0 (.grp 35 true (ri 3 2 36) [38] (rz 2 5 0)))) (.s (.r (rz 2 0 0)) (.c (.r (ra 2 0 0 (.grp 43 true (ri 3 2 36) [46] (rz 2 5 0)))) (.s (.r (rz 2 0 0)) (.c (.r (ra 2 0 0 (.grp 51 true (ri 3 2 36) [54] (rz 2 5 0)))) (.s (.r (rz 2 0 0)) (.c (.r (ra 2 0 0 (.grp 59 true (ri 4 2 4) [63] (rz 2 6 0)))) (.s (.r (rz 2 0 0)) (.c (.r (ra 2 0 0 (.grp 68 true (ri 3 2 36) [71] (rz 2 5 0)))) (.s (.r (rz 2 0 0)) (.c (.r (ra 2 0 0 (.grp 76 true (ri 3 2 4) [79] (rz 2 5 0)))) (.s (.r (rz 2 0 0)) (.c (.r (ra 2 0 0 (.grp 84 true (ri 3 2 4) [87] (rz 2 5 0)))) (.s (.r (rz 2 0 0)) (.c (.r (ra 2 0 0 (.grp 92 true (ri 3 2 4) [95] (rz 2 5 0)))) (.s (.r (rz 2 0 0)) (.c (.r (ra 2 0 0 (.grp 100 true (ri 3 2 4) [103] (rz 2 5 0)))) (.s (.r (rz 2 0 0)) (.c (.r (ra 2 0 0 (.grp 108 true (ri 3 2 4) [111] (rz 2 5 0)))) (.n)))))))))))))))))))))))))))) (.r (rz 3 0 0))))))) (.s (.r (rz 2 0 0)) (.n))))) func226 rfl (by kernel_rfl) (by kernel_rfl) h
def VE(t0 t1:Value)(w:World)(K:VW):Prop:=
 pw w (Instr.box 43 t0) λt2 w1=>
 pw w1 (Instr.box 43 t1) λt3 w2=>
 fl w2 t2 43 0 40 λt6=>fl w2 t3 43 0 40 λt8=>bf .neq 40 t6 t8 λt9=>za (λK3=>gIf t9 false (fl w2 t2 43 1 4 λt12=>fl w2 t3 43 1 4 λt14=>bf .neq 4 t12 t14 λt15=>K3 [t15] w2) (K3 [u_] w2)) (λs4 _d5 w6=>
 zb t9 tr_ (s4.getD 0 u_) λt16=>za (λK7=>gIf t16 false (fl w6 t2 43 3 3 λt19=>fl w6 t3 43 3 3 λt21=>bf .neq 3 t19 t21 λt22=>K7 [t22] w6) (K7 [u_] w6)) (λs8 _d9 w10=>
 zb t16 tr_ (s8.getD 0 u_) λt23=>za (λK11=>gIf t23 false (fl w10 t2 43 4 41 λt26=>pp (Builtin.len_ #[41] 3 #[t26]) λt27=>fl w10 t3 43 4 41 λt29=>pp (Builtin.len_ #[41] 3 #[t29]) λt30=>bf .neq 3 t27 t30 λt31=>K11 [t31] w10) (K11 [u_] w10)) (λs12 _d13 w14=>
 zb t23 tr_ (s12.getD 0 u_) λt32=>zc t32 (K fa_ w14) (fl w14.drew t2 43 4 41 λt34=>pp (Builtin.len_ #[41] 3 #[t34]) λt35=>bt .eql 3 t35 (i6 0) λt36=>za (λK15=>gIf t36 false (fl w14.drew t2 43 4 41 λt39=>xl w14.drew 41 t39 (i6 0) 43 λt41=>fl w14.drew t3 43 4 41 λt43=>xl w14.drew 41 t43 (i6 0) 43 λt45=>ca yT #[t41,t45] w14.drew λt46 w19=>
 K15 [t46] w19) (K15 [u_] w14.drew)) (λs16 _d17 w18=>
 zb t36 tr_ (s16.getD 0 u_) λt47=>K t47 w18)))))
theorem aeP(h:VE t0 t1 w K):zd prog yT #[t0,t1] w K:=
 okC false (.s (.r (rz 3 0 10)) (.s (.s (.r (ra 6 0 68 (.grp 10 false (ri 5 6 68) [15] (ra 2 11 0 (.grp 17 false (ri 5 13 68) [22] (ra 2 18 0 (.grp 24 false (ri 7 20 260) [31] (rz 1 27 0)))))))) (.c (.s (.r (rz 1 0 0)) (.n)) (.n))) (.s (.r (ra 5 0 4 (.grp 37 false (ri 9 5 148548) [46] (rz 2 14 0)))) (.n)))) func227 rfl (by kernel_rfl) (by kernel_rfl) h
def aaz(t0:Value)(w:World)(K:VW):Prop:=
 bt .eql 9 t0 (Value.string { data:=#[43] }) λt4=>za (λK1=>gIf t4 false (bt .eql 9 t0 (Value.string { data:=#[45] }) λt7=>K1 [t7] w) (K1 [u_] w)) (λs2 _d3 w4=>
 zb t4 tr_ (s2.getD 0 u_) λt8=>za (λK5=>gIf t8 false (bt .eql 9 t0 (Value.string { data:=#[42] }) λt11=>K5 [t11] w4) (K5 [u_] w4)) (λs6 _d7 w8=>
 zb t8 tr_ (s6.getD 0 u_) λt12=>za (λK9=>gIf t12 false (bt .eql 9 t0 (Value.string { data:=#[47] }) λt15=>K9 [t15] w8) (K9 [u_] w8)) (λs10 _d11 w12=>
 zb t12 tr_ (s10.getD 0 u_) λt16=>za (λK13=>gIf t16 false (bt .eql 9 t0 (Value.string { data:=#[37] }) λt19=>K13 [t19] w12) (K13 [u_] w12)) (λs14 _d15 w16=>
 zb t16 tr_ (s14.getD 0 u_) λt20=>K t20 w16))))
theorem agd(h:aaz t0 w K):zd prog Xx #[t0] w K:=
 okC false (.s (.r (rz 1 0 0)) (.s (.r (ra 3 0 0 (.grp 5 false (ri 2 3 0) [7] (ra 2 5 0 (.grp 9 false (ri 2 7 0) [11] (ra 2 9 0 (.grp 13 false (ri 2 11 0) [15] (ra 2 13 0 (.grp 17 false (ri 2 15 0) [19] (rz 2 17 0)))))))))) (.n))) func228 rfl (by kernel_rfl) (by kernel_rfl) h
def adJ(t0 t1:Value)(w:World)(K:VW):Prop:=
 pw w (Instr.box 43 t0) λt2 w1=>
 fl w1 t2 43 0 40 λt6=>bf .eql 40 t6 t1 λt8=>K t8 w1
theorem aiu(h:adJ t0 t1 w K):zd prog zO #[t0,t1] w K:=
 okC false (.s (.r (rz 2 0 2)) (.s (.r (rz 5 0 4)) (.n))) func229 rfl (by kernel_rfl) (by kernel_rfl) h
def JB(t0:Value)(w:World)(K:VW):Prop:=
 bt .eql 9 t0 (Value.string { data:=#[61,61] }) λt4=>za (λK1=>gIf t4 false (bt .eql 9 t0 (Value.string { data:=#[33,61] }) λt7=>K1 [t7] w) (K1 [u_] w)) (λs2 _d3 w4=>
 zb t4 tr_ (s2.getD 0 u_) λt8=>za (λK5=>gIf t8 false (bt .eql 9 t0 (Value.string { data:=#[60] }) λt11=>K5 [t11] w4) (K5 [u_] w4)) (λs6 _d7 w8=>
 zb t8 tr_ (s6.getD 0 u_) λt12=>za (λK9=>gIf t12 false (bt .eql 9 t0 (Value.string { data:=#[60,61] }) λt15=>K9 [t15] w8) (K9 [u_] w8)) (λs10 _d11 w12=>
 zb t12 tr_ (s10.getD 0 u_) λt16=>za (λK13=>gIf t16 false (bt .eql 9 t0 (Value.string { data:=#[62] }) λt19=>K13 [t19] w12) (K13 [u_] w12)) (λs14 _d15 w16=>
 zb t16 tr_ (s14.getD 0 u_) λt20=>za (λK17=>gIf t20 false (bt .eql 9 t0 (Value.string { data:=#[62,61] }) λt23=>K17 [t23] w16) (K17 [u_] w16)) (λs18 _d19 w20=>
 zb t20 tr_ (s18.getD 0 u_) λt24=>K t24 w20)))))
theorem adK(h:JB t0 w K):zd prog ZP #[t0] w K:=
 okC false (.s (.r (rz 1 0 0)) (.s (.r (ra 3 0 0 (.grp 5 false (ri 2 3 0) [7] (ra 2 5 0 (.grp 9 false (ri 2 7 0) [11] (ra 2 9 0 (.grp 13 false (ri 2 11 0) [15] (ra 2 13 0 (.grp 17 false (ri 2 15 0) [19] (ra 2 17 0 (.grp 21 false (ri 2 19 0) [23] (rz 2 21 0)))))))))))) (.n))) func230 rfl (by kernel_rfl) (by kernel_rfl) h
def aaA(t0:Value)(w:World)(K:VW):Prop:=
 zp [(i6 0),(i6 0)] w (λs2 _d3 w4 K1=>
 pp (Builtin.len_ #[55] 3 #[t0]) λt7=>bf .lss 3 (s2.getD 1 u_) t7 λt8=>zc t8 (za (λK5=>
 xl w4 55 t0 (s2.getD 1 u_) 3 λt14=>bf .gtr 3 t14 (s2.getD 0 u_) λt16=>zc t16 (xl w4 55 t0 (s2.getD 1 u_) 3 λt20=>K5 [t20] w4) (K5 [(s2.getD 0 u_)] w4)) (λs6 _d7 w8=>
 bt .add 3 (s2.getD 1 u_) (i6 1) λt10=>K1 [(s6.getD 0 u_),t10] w8)) (K (s2.getD 0 u_) w4))
theorem age(h:aaA t0 w K):zd prog kO #[t0] w K:=
 okC false (.s (.r (rz 1 0 0)) (.s (.r (rz 1 0 0)) (.s (.s (.r (rz 1 0 0)) (.b (.lp [3,4] (.s (.s (.r (rz 4 0 0)) (.c (.n) (.n))) (.j [3] (.b (.s (.r (rz 6 0 64)) (.c (.r (rz 5 0 64)) (.n)))) (.r (rz 3 0 0))))))) (.s (.r (rz 2 0 0)) (.n))))) func231 rfl (by kernel_rfl) (by kernel_rfl) h
def Yp(t0 t1 t2:Value)(w:World)(K:VW):Prop:=
 pp (Builtin.len_ #[94] 3 #[t1]) λt11=>pp (Builtin.len_ #[41] 3 #[t2]) λt13=>bf .neq 3 t11 t13 λt14=>zc t14 (K fa_ w) (zp [(i6 0)] w (λs2 _d3 w4 K1=>
 pp (Builtin.len_ #[94] 3 #[t1]) λt17=>bf .lss 3 (s2.getD 0 u_) t17 λt18=>zc t18 (xl w4 94 t1 (s2.getD 0 u_) 93 λt26=>ca y7 #[t0,t26] w4 λt27 w5=>
 pe t27 0 λt28=>pe t27 1 λt29=>pw w5 (Instr.alloc 43 true (.tuple #[])) λt8 w6=>
 so w6 43 t8 t28 λw7=>pp (Op.unary .not t29) λt31=>za (λK8=>gIf t31 false (lo w7.drew 43 t8 λt33=>xl w7.drew 41 t2 (s2.getD 0 u_) 43 λt37=>ca yT #[t33,t37] w7.drew λt38 w12=>
 pp (Op.unary .not t38) λt39=>K8 [t39] w12) (K8 [u_] w7.drew)) (λs9 _d10 w11=>
 zb t31 tr_ (s9.getD 0 u_) λt40=>zc t40 (K fa_ w11) (bt .add 3 (s2.getD 0 u_) (i6 1) λt20=>K1 [t20] w11))) (K tr_ w4)))
theorem VY(h:Yp t0 t1 t2 w K):zd prog kq #[t0,t1,t2] w K:=
 okC false (.s (.r (rz 1 0 0)) (.s (.s (.r (rz 5 0 0)) (.c (.s (.r (rz 1 0 0)) (.n)) (.n))) (.s (.s (.r (rz 1 0 0)) (.b (.lp [7] (.s (.s (.r (rz 4 0 0)) (.c (.n) (.n))) (.s (.b (.s (.r (rz 12 0 2623744)) (.s (.r (ra 3 0 0 (.grp 32 false (ri 7 3 2305) [39] (rz 1 10 0)))) (.c (.s (.r (rz 1 0 0)) (.n)) (.n))))) (.r (rz 3 0 0))))))) (.s (.r (rz 1 0 0)) (.n))))) func233 rfl (by kernel_rfl) (by kernel_rfl) h
def YW(t0:Value)(w:World)(K:VW):Prop:=
 pw w (Instr.box 80 t0) λt1 w1=>
 fl w1 t1 80 0 3 λt4=>bt .eql 3 t4 (i6 0) λt5=>za (λK2=>gIf t5 true (fl w1 t1 80 1 78 λt8=>pp (Builtin.len_ #[78] 3 #[t8]) λt9=>bt .eql 3 t9 (i6 0) λt10=>K2 [t10] w1) (K2 [u_] w1)) (λs3 _d4 w5=>
 zb t5 (s3.getD 0 u_) fa_ λt11=>K t11 w5)
theorem aaB(h:YW t0 w K):zd prog yL #[t0] w K:=
 okC false (.s (.r (rz 2 0 2)) (.s (.r (ra 4 0 4 (.grp 6 true (ri 4 4 4) [10] (rz 2 8 0)))) (.n))) func249 rfl (by kernel_rfl) (by kernel_rfl) h
def ZG(t0:Value)(w:World)(K:VW):Prop:=
 pw w (Instr.box 93 t0) λt1 w1=>
 fl w1 t1 93 0 91 λt4=>bt .eql 91 t4 (Value.int .u8 0) λt5=>za (λK2=>gIf t5 true (fl w1 t1 93 1 2 λt8=>bt .eql 2 t8 (i6 0) λt9=>K2 [t9] w1) (K2 [u_] w1)) (λs3 _d4 w5=>
 zb t5 (s3.getD 0 u_) fa_ λt10=>za (λK6=>gIf t10 true (fl w5 t1 93 2 80 λt13=>ca yL #[t13] w5 λt14 w10=>
 K6 [t14] w10) (K6 [u_] w5)) (λs7 _d8 w9=>
 zb t10 (s7.getD 0 u_) fa_ λt15=>K t15 w9))
theorem Vd(h:ZG t0 w K):zd prog kg #[t0] w K:=
 okC false (.s (.r (rz 2 0 2)) (.s (.r (ra 4 0 4 (.grp 6 true (ri 3 4 4) [9] (ra 2 7 0 (.grp 11 true (ri 3 9 36) [14] (rz 2 12 0)))))) (.n))) func251 rfl (by kernel_rfl) (by kernel_rfl) h
def adL(t0 t1 t2:Value)(w:World)(K:VW):Prop:=
 pw w (Instr.box 25 t0) λt3 w1=>
 pw w1 (Instr.alloc 74 true (.tuple #[])) λt6 w2=>
 lo w2 25 t3 λt9=>ca JS #[t9,t1,t2] w2 λt12 w3=>
 pp (Op.unary .not t12) λt13=>zc t13 (pp (Instr.build 74 #[]) λt14=>so w3 74 t6 t14 λw4=>pq w4 (zi 74 t6) λr5=>K (.tuple #[r5,(i6 2)]) w4) (lo w3 25 t3 λt15=>ca QP #[t15,t1] w3 λt17 w6=>
 pw w6 (Instr.alloc 74 true (.tuple #[])) λt8 w7=>
 so w7 74 t8 t17 λw8=>fl w8 t8 74 2 3 λt19=>bt .gtr 3 t19 (i6 512) λt20=>zc t20 (pp (Instr.build 74 #[]) λt21=>so w8 74 t6 t21 λw9=>pq w9 (zi 74 t6) λr10=>K (.tuple #[r10,(i6 5)]) w9) (lo w8 74 t8 λt22=>so w8 74 t6 t22 λw11=>pq w11 (zi 74 t6) λr12=>K (.tuple #[r12,(i6 0)]) w11))
theorem aiv(h:adL t0 t1 t2 w K):zd prog Y5 #[t0,t1,t2] w K:=
 okC false (.s (.r (rz 3 0 10)) (.s (.s (.r (rz 5 0 129)) (.c (.s (.r (rz 3 0 8)) (.n)) (.n))) (.s (.r (rz 5 0 673)) (.s (.s (.r (rz 3 0 4)) (.c (.s (.r (rz 3 0 8)) (.n)) (.n))) (.s (.r (rz 3 0 9)) (.n)))))) func33 rfl (by kernel_rfl) (by kernel_rfl) h
def abP(t0 t1:Value)(w:World)(K:VW):Prop:=
 pw w (Instr.box 25 t0) λt2 w1=>
 pw w1 (Instr.alloc 74 true (.tuple #[])) λt4 w2=>
 fl w2 t2 25 1 23 λt13=>xl w2 23 t13 t1 101 λt16=>pw w2 (Instr.alloc 101 true (.tuple #[])) λt5 w3=>
 so w3 101 t5 t16 λw4=>fl w4 t5 101 1 3 λt18=>fl w4 t5 101 6 99 λt20=>pp (Builtin.len_ #[99] 3 #[t20]) λt21=>pp (Instr.build 74 #[(0,t18),(1,t21)]) λt22=>pw w4 (Instr.alloc 74 true (.tuple #[])) λt6 w5=>
 so w5 74 t6 t22 λw6=>fl w6 t5 101 1 3 λt24=>zp [t24,(i6 0)] w6 (λs8 _d9 w10 K7=>
 fl w10 t5 101 4 41 λt27=>pp (Builtin.len_ #[41] 3 #[t27]) λt28=>bf .lss 3 (s8.getD 1 u_) t28 λt29=>zc t29 (pw w10 (Instr.alloc 43 true (.tuple #[])) λt9 w11=>
 fl w11 t5 101 4 41 λt34=>xl w11 41 t34 (s8.getD 1 u_) 43 λt37=>ca qg #[t37,(s8.getD 0 u_)] w11 λt39 w12=>
 pe t39 0 λt40=>pe t39 1 λt41=>so w12 43 t9 t40 λw13=>fl w13 t6 74 3 41 λt43=>lo w13 43 t9 λt44=>pw w13 (Instr.buildSlice 41 1 #[(0,t44)]) λt45 w14=>
 pw w14 (Builtin.append_ #[41,41] 41 #[t43,t45]) λt46 w15=>
 pf 74 t6 3 λt47=>so w15 41 t47 t46 λw16=>bt .add 3 (s8.getD 1 u_) (i6 1) λt31=>K7 [t41,t31] w16) (zp [(s8.getD 0 u_),(i6 0)] w10 (λs18 _d19 w20 K17=>
 fl w20 t5 101 6 99 λt50=>pp (Builtin.len_ #[99] 3 #[t50]) λt51=>bf .lss 3 (s18.getD 1 u_) t51 λt52=>zc t52 (za (λK21=>
 fl w20 t5 101 6 99 λt56=>px 99 t56 (s18.getD 1 u_) λt58=>fl w20 t58 96 0 90 λt60=>bt .eql 90 t60 (Value.int .u8 4) λt61=>zc t61 (K21 [(i6 1)] w20) (K21 [(i6 0)] w20)) (λs22 _d23 w24=>
 za (λK25=>
 fl w24 t5 101 6 99 λt63=>px 99 t63 (s18.getD 1 u_) λt65=>fl w24 t65 96 0 90 λt67=>bt .eql 90 t67 (Value.int .u8 7) λt68=>zc t68 (fl w24.drew t2 25 1 23 λt70=>fl w24.drew t5 101 6 99 λt72=>px 99 t72 (s18.getD 1 u_) λt74=>fl w24.drew t74 96 8 3 λt76=>px 23 t70 t76 λt77=>fl w24.drew t77 101 1 3 λt79=>K25 [t79] w24.drew) (K25 [(s22.getD 0 u_)] w24)) (λs26 _d27 w28=>
 za (λK29=>
 bt .eql 3 (s26.getD 0 u_) (i6 0) λt81=>zc t81 (fl w28 t6 74 4 55 λt83=>pw w28 (Instr.buildSlice 55 1 #[(0,(i6 (-1)))]) λt84 w33=>
 pw w33 (Builtin.append_ #[55,55] 55 #[t83,t84]) λt85 w34=>
 pf 74 t6 4 λt86=>so w34 55 t86 t85 λw35=>K29 [] w35) (fl w28 t6 74 4 55 λt88=>pw w28 (Instr.buildSlice 55 1 #[(0,(s18.getD 0 u_))]) λt90 w36=>
 pw w36 (Builtin.append_ #[55,55] 55 #[t88,t90]) λt91 w37=>
 pf 74 t6 4 λt92=>so w37 55 t92 t91 λw38=>K29 [] w38)) (λ_s30 _d31 w32=>
 bf .add 3 (s18.getD 0 u_) (s26.getD 0 u_) λt95=>bt .add 3 (s18.getD 1 u_) (i6 1) λt54=>K17 [t95,t54] w32)))) (pf 74 t6 2 λt97=>so w20 3 t97 (s18.getD 0 u_) λw39=>lo w39 74 t6 λt98=>so w39 74 t4 t98 λw40=>pq w40 (zi 74 t4) λr41=>K r41 w40))))
theorem ahG(h:abP t0 t1 w K):zd prog QP #[t0,t1] w K:=
 okC false (.s (.r (rz 2 0 10)) (.s (.r (rz 7 0 10500)) (.s (.r (rz 8 0 41028)) (.s (.r (rz 3 0 4)) (.s (.s (.r (rz 1 0 0)) (.b (.lp [7,8] (.s (.s (.r (rz 5 0 16)) (.c (.n) (.n))) (.s (.b (.s (.r (rz 1 0 2)) (.s (.r (rz 12 0 2105604)) (.r (rz 7 0 8852))))) (.r (rz 3 0 0))))))) (.s (.s (.r (rz 1 0 0)) (.b (.lp [7,10] (.s (.s (.r (rz 5 0 16)) (.c (.n) (.n))) (.s (.b (.s (.r (rz 1 0 0)) (.j [11] (.s (.r (rz 7 0 1028)) (.c (.r (rz 1 0 0)) (.n))) (.j [11] (.s (.r (rz 7 0 1028)) (.c (.r (rz 12 0 1065028)) (.n))) (.j [] (.s (.r (rz 2 0 0)) (.c (.r (rz 6 0 2212)) (.r (rz 7 0 8836)))) (.r (rz 4 0 0))))))) (.r (rz 3 0 0))))))) (.s (.r (rz 3 0 32)) (.s (.r (rz 2 0 9)) (.n))))))))) func83 rfl (by kernel_rfl) (by kernel_rfl) h
def XY(t0 t1:Value)(w:World)(K:VW):Prop:=
 pw w (Instr.box 43 t0) λt2 w1=>
 pw w1 (Instr.alloc 43 true (.tuple #[])) λt4 w2=>
 lo w2 43 t2 λt8=>pw w2 (Instr.alloc 43 true (.tuple #[])) λt6 w3=>
 so w3 43 t6 t8 λw4=>pf 43 t6 4 λt9=>so w4 41 t9 (Value.slice Option.none 0 0) λw5=>za (λK6=>
 fl w5 t2 43 0 40 λt11=>bt .eql 40 t11 (Value.int .u8 4) λt12=>za (λK10=>gIf t12 true (fl w5 t2 43 2 3 λt15=>bt .eql 3 t15 (i6 (-1)) λt16=>K10 [t16] w5) (K10 [u_] w5)) (λs11 _d12 w13=>
 zb t12 (s11.getD 0 u_) fa_ λt17=>zc t17 (pf 43 t6 2 λt19=>so w13 3 t19 t1 λw14=>bt .add 3 t1 (i6 1) λt21=>K6 [t21] w14) (K6 [t1] w13))) (λs7 _d8 w9=>
 za (λK15=>
 fl w9 t2 43 4 41 λt23=>pp (Builtin.len_ #[41] 3 #[t23]) λt24=>bt .gtr 3 t24 (i6 0) λt25=>zc t25 (pw w9 (Instr.alloc 43 true (.tuple #[])) λt7 w19=>
 fl w19 t2 43 4 41 λt28=>xl w19 41 t28 (i6 0) 43 λt30=>ca qg #[t30,(s7.getD 0 u_)] w19 λt32 w20=>
 pe t32 0 λt33=>pe t32 1 λt34=>so w20 43 t7 t33 λw21=>lo w21 43 t7 λt35=>pw w21 (Instr.buildSlice 41 1 #[(0,t35)]) λt36 w22=>
 pf 43 t6 4 λt37=>so w22 41 t37 t36 λw23=>K15 [t34] w23) (K15 [(s7.getD 0 u_)] w9)) (λs16 _d17 w18=>
 lo w18 43 t6 λt38=>so w18 43 t4 t38 λw24=>pq w24 (zi 43 t4) λr25=>K (.tuple #[r25,(s16.getD 0 u_)]) w24))
theorem abq(h:XY t0 t1 w K):zd prog qg #[t0,t1] w K:=
 okC false (.s (.r (rz 3 0 10)) (.s (.r (rz 3 0 41)) (.s (.r (rz 2 0 8)) (.j [1] (.s (.r (ra 4 0 4 (.grp 13 true (ri 3 4 4) [16] (rz 1 7 0)))) (.c (.s (.r (rz 3 0 32)) (.r (rz 3 0 0))) (.n))) (.j [1] (.s (.r (rz 4 0 4)) (.c (.s (.r (rz 1 0 2)) (.s (.r (rz 11 0 526404)) (.r (rz 4 0 137)))) (.n))) (.s (.r (rz 4 0 33)) (.n))))))) func145 rfl (by kernel_rfl) (by kernel_rfl) h
end
end Go.Proofs.Tryz
namespace Go.Sh
theorem aeQ{w:World}{b g m c:Bool}{A1:(List Value→World→Prop)→Prop}{A2 A3:(List Value→World→Prop)→World→Prop}{Z:Value→World→Prop}
  (h1:∀K:List Value→World→Prop,K [.bool g] w→A1 K) (h2:∀K:List Value→World→Prop,K [.bool m] w→A2 K w) (h3:∀K:List Value→World→Prop,K [.bool c] w→A3 K w)
  (hZ:Z (.bool (b||(g&&(m||c)))) w):
  za (λK=>gIf (.bool b) false (A1 K) (K [u_] w)) λs3 _ w5=>
   za (λK=>gIf (s3.getD 0 u_) true (A2 K w5) (K [u_] w5)) λs7 _ w9=>
    za (λK=>gIf (s7.getD 0 u_) false (A3 K w9) (K [u_] w9)) λs11 _ w13=>
     za (λK=>gIf (s3.getD 0 u_) true (zb (s7.getD 0 u_) (.bool true) (s11.getD 0 u_) λt=>K [t] w13) (K [u_] w13)) λs15 _ w17=>
      za (λK=>gIf (.bool b) false (zb (s3.getD 0 u_) (s15.getD 0 u_) (.bool false) λt=>K [t] w17) (K [u_] w17)) λs19 _ w21=>
       zb (.bool b) (.bool true) (s19.getD 0 u_) λt=>Z t w21:=by
 cases b<;>cases g<;>cases m<;>cases c <;>
  (iterate 5 (intro K hK;first|refine hK _ _ λ_=>?_|refine h1 _ (hK _ _ λ_=>?_)|refine h2 _ (hK _ _ λ_=>?_)|refine h3 _ (hK _ _ λ_=>?_)|refine ⟨_,rfl,hK _ _ λ_=>?_⟩)) <;>
  exact⟨_,rfl,by simpa using hZ⟩
end Go.Sh
namespace Go.Proofs
open Go.Sh
def mtB(s:Int)(n:Nat)(refs:Bool)(t:TyD):Bool:=zt s n t&&(refs||decide (t.regs.length=0))
def Ve(s:Int)(n:Nat)(refs:Bool)(t:TyD):Bool:=match t.of with|u::_=>mtB s n refs u|[]=>false
theorem ai5{s:Int}{n:Nat}{refs:Bool}:∀{t:TyD}{h:0<t.of.length},Ve s n refs t=mtB s n refs t.of[0]
 |.mk _ _ _ _ (_::_),_=>rfl
 |.mk _ _ _ _ [],h=>absurd h (Nat.not_lt_zero _)
theorem alL(s:Int)(n:Nat)(refs:Bool)(t:TyD):mtB s (n+1) refs t =
  if((decide (t.k≠4)&&(t.m||decide (t.re≠0)))||(decide (t.k≠5)&&decide (t.st≠0)))=true then false
  else if t.k=1∨t.k=2 then decide (t.of.length=0)
  else if t.k=5 then(decide (t.of.length=0)&&decide (0≤t.st))&&decide (t.st<s)
  else if t.k=3 then decide (t.of.length=1)&&Ve s n refs t
  else if t.k=4 then((refs&&decide (t.of.length=1))&&decide (-1≤t.re))&&Ve s n refs t
  else false:=by
 have hreg0:t.of=[]→t.k≠4→t.regs=[]:=λho hk=>by rw[XM ho,if_neg hk]
 rw[mtB,yv]
 cases hof:t.of with
 |nil=>
  have hi:inB s n t=false:=by rw[inB,hof]
  have hi2:Ve s n refs t=false:=by rw[Ve,hof]
  rw[hi,hi2]
  by_cases h4:t.k=4
  ·simp[h4]
  ·rw[hreg0 hof h4]
   by_cases h12:t.k=1∨t.k=2
   ·rw[if_pos h12,if_pos h12]
    have h5:¬t.k=5:=by omega
    by_cases hm:t.m=true<;>by_cases hr:t.re=0<;>by_cases hs:t.st=0<;>simp [hm,hr,hs,h4,h5]
   ·rw[if_neg h12,if_neg h12]
    by_cases h5:t.k=5
    ·by_cases hm:t.m=true<;>by_cases hr:t.re=0<;>simp [hm,hr,h4,h5]
    ·simp[h5,h4]
 |cons u l=>
  have hi:inB s n t=zt s n u:=by rw[inB,hof]
  have hi2:Ve s n refs t=mtB s n refs u:=by rw[Ve,hof]
  rw[hi,hi2,mtB]
  by_cases h12:t.k=1∨t.k=2
  ·rw[if_pos h12,if_pos h12];simp
  rw[if_neg h12,if_neg h12]
  by_cases h5:t.k=5
  ·simp[h5]
  rw[if_neg h5,if_neg h5]
  cases l with
  |cons x l=>simp
  |nil=>
   rw[ZU hof]
   by_cases h3:t.k=3
   ·have h4:¬t.k=4:=by omega
    by_cases hm:t.m=true<;>by_cases hr:t.re=0<;>by_cases hs:t.st=0<;>simp [hm,hr,hs,h3,h4]
   ·rw[if_neg h3,if_neg h3]
    by_cases h4:t.k=4
    ·by_cases hs:t.st=0<;>cases refs<;>by_cases hr: -1≤t.re<;>simp [hs,hr,h4,h5]
    ·simp[h4]
theorem ahH(s:Int)(n:Nat)(t:TyD):mtB s n true t=zt s n t:=by rw[mtB,Bool.true_or,Bool.and_true]
theorem Zu:∀(n:Nat){t:TyD}{refs:Bool}{w:World}{r:Gh}{v:Value}{s:Int}{K:Value→World→Prop},n≤1000→Holds r w→TyG r v t→
  (∀w',Ext w w'→K (.bool (mtB s n refs t)) w')→zd Tryz.prog Tryz.xd #[v,.int .i64 s,.int .i64 (n:Int),.bool refs] w K:=by
 intro n
 induction n with
 |zero=>
  intro t refs w r v s K _ hr hv h
  refine Tryz.XW ?_
  unfold Tryz.Zt
  obtain⟨p,cap,rfl,_,_,hof⟩:=hv
  have S:=St.start hr
  refine S.box λb2 w1 S=>?_
  refine gg_ ?_
  refine aeQ (g:=decide (t.k≠4)) (m:=t.m) (c:=decide (t.re≠0)) (λK hK=>by refine gg_ ?_;exact hK) (λK hK=>by refine gg_ ?_;exact hK) (λK hK=>by refine gg_ ?_;exact hK) ?_
  refine ZY (g:=decide (t.k≠5)) (c:=decide (t.st≠0)) (λ_ K hK=>by refine gg_ ?_;exact hK) (λ_ K hK=>by refine gg_ ?_;exact hK) ?_
  refine c_t (by simp) ?_
  exact h _ S.ext
 |succ n ih=>
  intro t refs w r v s K hn hr hv h
  refine Tryz.XW ?_
  unfold Tryz.Zt
  obtain⟨p,cap,rfl,_,_,hof⟩:=hv
  have S:=St.start hr
  refine S.box λb2 w1 S=>?_
  have S:StX noX w r w1 [.cell b2 (tyL t p cap) 43]:=S
  refine gg_ ?_
  refine aeQ (g:=decide (t.k≠4)) (m:=t.m) (c:=decide (t.re≠0)) (λK hK=>by refine gg_ ?_;exact hK) (λK hK=>by refine gg_ ?_;exact hK) (λK hK=>by refine gg_ ?_;exact hK) ?_
  refine ZY (g:=decide (t.k≠5)) (c:=decide (t.st≠0)) (λ_ K hK=>by refine gg_ ?_;exact hK) (λ_ K hK=>by refine gg_ ?_;exact hK) ?_
  rw[decide_eq_false (show¬((n+1:Nat):Int)<1 by omega),Bool.false_or]
  rw[alL]at h
  refine c_b (λhbad=>?_) (λhok=>?_)
  ·rw[if_pos hbad]at h;exact h _ S.ext
  rw[if_neg (by rw[hok];decide)]at h
  refine gg_ ?_
  intro K11 hK11
  refine gg_ ?_
  refine qd (c:=decide (t.k=2)) (hK11 _ _ λ_=>?_) λ_ hk=>?_
  rotate_left
  ·refine gg_ ?_;exact hk
  simp only[gdz]
  refine c_b (λh12=>?_) (λh12=>?_)
  ·have h12:t.k=1∨t.k=2:=by simpa using h12
   rw[if_pos h12]at h
   refine gg_ ?_
   rw[decide_eq_decide.2 (qk t.of.length)]
   exact h _ S.ext
  have h12:¬(t.k=1∨t.k=2):=by simpa using h12
  rw[if_neg h12]at h
  refine gg_ ?_
  refine zh (λh5=>?_) (λh5=>?_)
  ·rw[if_pos h5]at h
   refine gg_ ?_
   refine zg (c:=decide (0≤t.st)) (λ_ K2 hK2=>by refine gg_ ?_;exact hK2) ?_
   refine zg (c:=decide (t.st<s)) (λ_ K2 hK2=>by refine gg_ ?_;exact hK2) ?_
   rw[decide_eq_decide.2 (qk t.of.length)]
   exact h _ S.ext
  rw[if_neg h5]at h
  refine gg_ ?_
  refine zh (λh3=>?_) (λh3=>?_)
  ·rw[if_pos h3]at h
   refine gg_ ?_
   refine zr (c:=Ve s n refs t) (λhb K2 hK2=>?_) λw5 e5=>?_
   ·have hlen:t.of.length=1:=by simpa [vP]using hb
    refine gg_ ?_
    obtain⟨b,off,c,rfl,hc,hcell,ht⟩:=vO S hof (i:=0) (by omega)
    refine gg_ ?_
    refine zo (n:=5) hc (by simpa using hcell) ?_
    refine gg_ ?_
    rw[show ((n+1:Nat):Int)-1=(n:Int)by omega]
    refine ih (by omega) S.holds ht λw6 e6=>?_
    rw[← ai5]
    exact hK2 _ e6
   rw[decide_eq_decide.2 (vP t.of.length)]
   exact h _ (S.go e5).ext
  rw[if_neg h3]at h
  refine gg_ ?_
  refine zh (λh4=>?_) (λh4=>?_)
  ·rw[if_pos h4]at h
   refine zg (c:=decide (t.of.length=1)) (λ_ K2 hK2=>by refine gg_ ?_;rw[decide_eq_decide.2 (vP t.of.length)];exact hK2) ?_
   refine zg (c:=decide (-1≤t.re)) (λ_ K2 hK2=>by refine gg_ ?_;exact hK2) ?_
   refine zr (c:=Ve s n refs t) (λhb K2 hK2=>?_) λw5 e5=>?_
   ·have hlen:t.of.length=1:=by
     simp only[gba,gdt]at hb;exact hb.1.2
    refine gg_ ?_
    obtain⟨b,off,c,rfl,hc,hcell,ht⟩:=vO S hof (i:=0) (by omega)
    refine gg_ ?_
    refine zo (n:=5) hc (by simpa using hcell) ?_
    refine gg_ ?_
    rw[show ((n+1:Nat):Int)-1=(n:Int)by omega]
    refine ih (by omega) S.holds ht λw6 e6=>?_
    rw[← ai5]
    exact hK2 _ e6
   exact h _ (S.go e5).ext
  rw[if_neg h4]at h
  exact h _ S.ext
end Go.Proofs
namespace Go.Sh
theorem amM{w:World}{b g c:Bool}{A1:(List Value→World→Prop)→Prop}{A2:(List Value→World→Prop)→World→Prop}{Z:Value→World→Prop}
  (h1:∀K:List Value→World→Prop,K [.bool g] w→A1 K) (h2:∀K:List Value→World→Prop,K [.bool c] w→A2 K w) (hZ:Z (.bool (b&&(g||c))) w):
  za (λK=>gIf (.bool b) true (A1 K) (K [u_] w)) λs15 _ w17=>
   za (λK=>gIf (s15.getD 0 u_) false (A2 K w17) (K [u_] w17)) λs19 _ w21=>
    za (λK=>gIf (.bool b) true (zb (s15.getD 0 u_) (.bool true) (s19.getD 0 u_) λt=>K [t] w21) (K [u_] w21)) λs23 _ w25=>
     zb (.bool b) (s23.getD 0 u_) (.bool false) λt=>Z t w25:=by
 cases b<;>cases g<;>cases c <;>
  (iterate 3 (intro K hK;first|refine hK _ _ λ_=>?_|refine h1 _ (hK _ _ λ_=>?_)|refine h2 _ (hK _ _ λ_=>?_)|refine ⟨_,rfl,hK _ _ λ_=>?_⟩)) <;>
  exact⟨_,rfl,by simpa using hZ⟩
end Go.Sh
namespace Go.Proofs
open Go.Sh
theorem agf{ss:List StD}{p:Option Addr}{cap:Nat}(hg:x8 ss)(hac:∀k,¬Rch ss k k):∀(m:Nat){t:TyD}{w:World}{r:Gh}{v:Value}{K:Value→World→Prop},m≤100→rkT ss t≤m→zt ss.length 48 t=true→ss.length≤32→(∀k,(ze ss k).length≤8)→
  Holds r w→StG r p ss→TyG r v t→(∀(n:Nat) w',Ext w w'→n≤17*m+1→(n=wF ss m t∨(16<n∧16<wF ss m t))→K (.int .i64 (n:Int)) w')→zd Tryz.prog Tryz.ve #[.slice p ss.length cap,v] w K:=by
 intro m
 induction m with
 |zero=>
  intro t w r v K _ hrk hl h32 h8 hr hs hv h
  have h5:¬t.k=5:=λh=>by unfold rkT at hrk;rw[if_pos h]at hrk;omega
  refine Tryz.JA ?_
  unfold Tryz.YL
  obtain⟨p1,cap1,rfl,_⟩:=hv
  have S:=St.start hr
  refine S.box λb3 w1 S=>?_
  refine gg_ ?_
  refine zh (λ_=>?_) (λhn=>absurd (by omega) h5)
  exact h 1 _ S.ext (by omega) (.inl (by rw[wF]))
 |succ m ih=>
  intro t w r v K hm hrk hl h32 h8 hr hs hv h
  refine Tryz.JA ?_
  unfold Tryz.YL
  obtain⟨p1,cap1,rfl,_⟩:=hv
  have S:=St.start hr
  refine S.box λb3 w1 S=>?_
  refine gg_ ?_
  refine zh (λhn=>?_) (λh5=>?_)
  ·exact h 1 _ S.ext (by omega) (.inl (by rw[wF,if_neg (by omega)]))
  have h5:t.k=5:=by omega
  obtain⟨hst0,hst1,_⟩:=jB hl h5
  have hlt:t.st.toNat<ss.length:=by omega
  obtain⟨b,off,q,capq,rfl,hcell,_,_,hf⟩:=xI hs hlt
  have htl:ze ss t.st=ss[t.st.toNat].fs.map (·.2):=by
   rw[← yD hlt];simp only[ze,tnc]
  have hlen:(ze ss t.st).length=ss[t.st.toNat].fs.length:=by rw[htl,List.length_map]
  have h88:=h8 t.st
  refine zj (ι:=Nat×Nat) (λi=>[.int .i64 (i.2:Nat),.int .i64 (i.1:Nat)]) (λi w'=>i.1≤(ze ss t.st).length∧i.2≤17*(m+1)+1∧(i.2=yi (((ze ss t.st).take i.1).map (wF ss m))∨(16<i.2∧16<yi (((ze ss t.st).take i.1).map (wF ss m))))∧St w r w' _)
   (λi=>(ze ss t.st).length-i.1) (0,0) rfl ⟨gzl _,gzl _,.inl (by simp[yi]),S⟩ ?_
  clear S
  rintro⟨i,n⟩ d w2 ⟨hi,hnb,hn,S⟩ K6 hK6
  simp only at hi hnb hn S⊢
  simp only[gdz,gds]
  refine gg_ ?_
  refine zf (S.at hcell) ?_
  refine gg_ ?_
  have hle:yi (((ze ss t.st).take i).map (wF ss m))≤wF ss (m+1) t:=by
   rw[wF,if_pos h5];exact aex _ _ _
  refine zg (c:=decide (n≤16)) (λ_ K2 hK2=>?_) ?_
  ·refine gg_ ?_
   rw[show decide ((n:Int)≤16)=decide (n≤16)from decide_eq_decide.2 (by omega)]
   exact hK2
  refine c_b (λhlt2=>?_) (λhge=>?_)
  ·obtain⟨hlt2,hsm⟩:i<ss[t.st.toNat].fs.length∧n≤16:=by
    simp only[gba,gdt]at hlt2;omega
   have hlt3:i<(ze ss t.st).length:=by omega
   have hn:n=yi (((ze ss t.st).take i).map (wF ss m)):=by omega
   obtain⟨b2,off2,c,rfl,hcl,hcc,hty⟩:=qm hf hlt2
   refine gg_ ?_
   refine zf (S.at hcell) ?_
   refine gg_ ?_
   refine zo (n:=5) (c:=c) hcl (λj v hj=>by
    have:=S.at (hcc (j+1) v (by simpa using hj))
    rw[tnc,Nat.add_assoc _ 1 j,Nat.add_comm 1 j];exact this) ?_
   have hel:(ze ss t.st)[i]=ss[t.st.toNat].fs[i].2:=by simp only[htl,List.getElem_map]
   have hmem:ss[t.st.toNat].fs[i].2∈ze ss t.st:=by rw[← hel];exact gem hlt3
   have hrk2:=adk hg hac h5 hmem
   refine ih (by omega) (by omega) (hg _ _ hmem) h32 h8 S.holds hs hty λx w5 e5 hxb hx=>?_
   have S:=S.go e5
   have hst:=aag (wF ss m) hlt3
   rw[hel]at hst
   refine gg_ ?_
   rw[show ((n:Int)+(x:Int))=((n+x:Nat):Int)by omega,show ((i:Int)+1)=((i+1:Nat):Int)by omega]
   exact hK6 (i+1,n+x) _ ⟨hlt3,by simp only;omega,by simp only;omega,S⟩ (by simp only;omega)
  ·refine h n _ S.ext hnb ?_
   by_cases hie:i=(ze ss t.st).length
   ·rw[hie,List.take_length]at hn
    rw[wF,if_pos h5];exact hn
   ·have h1:¬n≤16:=by
     intro hc
     rw[gde hc,Bool.and_true,decide_eq_false_iff_not]at hge
     omega
    exact .inr ⟨by omega,by omega⟩
theorem ajH:∀(l:List Bool)(L:Nat),(∀j,l.getD j false=true→j<L)→l.length≤cf l+L
 |[],L,_=>gzl _
 |b::l,0,h=>by
  have hb:b=false:=by
   cases b
   ·rfl
   ·exact absurd (h 0 rfl) (Nat.lt_irrefl 0)
  have:=ajH l 0 λj hj=>absurd (h (j+1) (by simpa using hj)) (Nat.not_lt_zero _)
  rw[hb,cf,List.length_cons]
  simp only[Bool.false_eq_true,if_false]
  omega
 |b::l,L+1,h=>by
  have:=ajH l L λj hj=>Nat.lt_of_succ_lt_succ (h (j+1) (by simpa using hj))
  rw[cf,List.length_cons]
  omega
def Shut(ss:List StD)(k:Nat)(met:List Bool):Prop:=∀b:Nat,b<ss.length→(b=k∨mt met b=true)→∀t∈ze ss b,t.k=5→mt met t.st=true
theorem alO{ss:List StD}{k:Nat}{met:List Bool}(hg:x8 ss)(hk:k<ss.length)(h:Shut ss k met){j:Int}(hr:Rch ss k j):mt met j=true:=by
 induction hr with
 |one e=>obtain ⟨t,ht,h5,rfl⟩:=e;exact h k hk (.inl rfl) t ht h5
 |@more x j hr e ih=>
  obtain⟨t,ht,h5,rfl⟩:=e
  have hin:=adi hg hr
  have hx:((x.toNat:Nat):Int)=x:=by omega
  exact h x.toNat (by omega) (.inr (by rw[hx];exact ih)) t (by rw[hx];exact ht) h5
theorem aeR{met:List Bool}{j:Int}(h:mt met j=true):met.set j.toNat true=met:=by
 unfold mt at h
 rw[ggd]at h
 by_cases hl:j.toNat<met.length
 ·rw[gqg hl]at h
  have h:met[j.toNat]=true:=h
  rw[← h,List.set_getElem_self]
 ·rw[List.getElem?_eq_none (by omega)]at h;cases h
theorem adM{ss:List StD}{p:Option Addr}{cap k:Nat}(hg:x8 ss)(h32:ss.length≤32)(hk:k<ss.length)(h8:∀k,(ze ss k).length≤8){w:World}{r:Gh}{K:Value→World→Prop}(hr:Holds r w)(hs:StG r p ss)
  (h:∀w',Ext w w'→K (.bool (qS ss k)) w'):zd Tryz.prog Tryz.Zm #[.slice p ss.length cap,.int .i64 (k:Nat)] w K:=by
 refine Tryz.acx ?_
 unfold Tryz.QA
 have S:=St.start hr
 refine S.al λb5 w1 S=>?_
 have S:StX noX w r w1 [.cell b5 (yb (List.replicate 32 false)) 292]:=S
 have hno:∀j:Nat,mt (List.replicate 32 false) j=true→False:=λj hj=>by
  unfold mt at hj;rw[ggd,List.getElem?_replicate]at hj
  split at hj<;>cases hj
 refine zj (ι:=Nat×List Bool) (λi=>[.int .i64 (i.1:Nat)]) (λi w'=>i.1≤ss.length+1∧i.2.length=32∧(∀j:Nat,mt i.2 j=true→Rch ss k j)∧(Shut ss k i.2∨cf i.2+i.1≤32)∧StX noX w r w' [.cell b5 (yb i.2) 292])
  (λi=>ss.length+1-i.1) (0,List.replicate 32 false) rfl ⟨gzl _,rfl,λj hj=>(hno j hj).elim,.inr (show cf (List.replicate 32 false)+0≤32 by decide),S⟩ ?_
 clear S
 rintro⟨R,met⟩ d w2 ⟨hR,hl32,hsnd,hcl,S⟩ K2 hK2
 simp only at hR hl32 hsnd hcl S⊢
 rw[gdz]
 refine gg_ ?_
 refine zh (λhlt=>?_) (λhge=>?_)
 rotate_left
 ·have hRe:R=ss.length+1:=by omega
  have hsh:Shut ss k met:=by
   refine hcl.resolve_right λhc=>?_
   have:=ajH met ss.length λj hj=>by
    have h1:mt met j=true:=by unfold mt;rw[tnc];exact hj
    have:=adi hg (hsnd j h1)
    omega
   omega
  refine gg_ ?_
  refine S.ld (b:=b5) (v:=.bool (mt met (k:Int))) ?_ (by rw[Nat.zero_add,Nat.mul_one];exact XN (by omega))
  rw[aba (b:=mt met (k:Int)) (λhb=>hsnd k hb) λhr=>alO hg hk hsh hr]
  exact h _ S.ext
 have hlt:R≤ss.length:=by omega
 refine zj (ι:=Nat×List Bool) (λi=>[.int .i64 (i.1:Nat)]) (λi w'=>i.1≤ss.length∧i.2.length=32∧(∀j:Nat,mt i.2 j=true→Rch ss k j)∧cf i.2≤cf met∧(cf i.2=cf met→∀b:Nat,b<i.1→(b=k∨mt i.2 b=true)→∀t∈ze ss b,t.k=5→mt i.2 t.st=true)∧(Shut ss k met→i.2=met)∧StX noX w r w' [.cell b5 (yb i.2) 292])
  (λi=>ss.length-i.1) (0,met) rfl ⟨gzl _,hl32,hsnd,Nat.le_refl _,λ_ b hb=>absurd hb (Nat.not_lt_zero _),λ_=>rfl,S⟩ ?_
 clear S
 rintro⟨b,m1⟩ d w3 ⟨hb,hl1,hsnd1,hc1,hsh1,hfx1,S⟩ K6 hK6
 simp only at hb hl1 hsnd1 hc1 hsh1 hfx1 S⊢
 rw[gdz]
 refine gg_ ?_
 refine zh (λhlt2=>?_) (λhge2=>?_)
 rotate_left
 ·have hbe:b=ss.length:=by omega
  refine gg_ ?_
  rw[show ((R:Int)+1)=((R+1:Nat):Int)by omega]
  refine hK2 (R+1,m1) _ ⟨by simp only;omega,hl1,hsnd1,?_,S⟩ (by simp only;omega)
  rcases hcl with hcl|hcl
  ·rw[hfx1 hcl];exact .inl hcl
  ·by_cases hce:cf m1=cf met
   ·exact .inl λb' hb'=>hsh1 hce b' (by omega)
   ·exact .inr (by simp only;omega)
 have hlt2:b<ss.length:=by omega
 obtain⟨bs,os,q,capf,rfl,hcs,_,_,hf⟩:=xI hs hlt2
 have htl:=yD hlt2
 have hlen:(ze ss (b:Int)).length=ss[b].fs.length:=by rw[htl,List.length_map]
 have h88:=h8 b
 refine zj (ι:=Nat×List Bool) (λi=>[.int .i64 (i.1:Nat)]) (λi w'=>i.1≤(ze ss (b:Int)).length∧i.2.length=32∧(∀j:Nat,mt i.2 j=true→Rch ss k j)∧cf i.2≤cf met∧(cf i.2=cf met→∀b':Nat,b'<b→(b'=k∨mt i.2 b'=true)→∀t∈ze ss b',t.k=5→mt i.2 t.st=true)∧
   (cf i.2=cf met→∀t∈(ze ss (b:Int)).take i.1,t.k=5→mt i.2 t.st=true)∧(Shut ss k met→i.2=met)∧StX noX w r w' [.cell b5 (yb i.2) 292])
  (λi=>(ze ss (b:Int)).length-i.1) (0,m1) rfl ⟨gzl _,hl1,hsnd1,hc1,hsh1,λ_ t ht=>by simp at ht,hfx1,S⟩ ?_
 clear S
 rintro⟨i,m2⟩ d w4 ⟨hi,hl2,hsnd2,hc2,hsh2,hrow2,hfx2,S⟩ K10 hK10
 simp only at hi hl2 hsnd2 hc2 hsh2 hrow2 hfx2 S⊢
 rw[gdz]
 refine gg_ ?_
 refine zf (by rw[tnc];exact S.at hcs) ?_
 refine gg_ ?_
 refine amM (g:=decide ((b:Int)=(k:Int))) (c:=mt m2 (b:Int)) (λK hK=>by refine gg_ ?_;exact hK) (λK hK=>?_) ?_
 ·refine gg_ ?_
  refine S.ld (b:=b5) (v:=.bool (mt m2 (b:Int))) ?_ (by rw[Nat.zero_add,Nat.mul_one];exact XN (by omega))
  exact hK
 refine c_b (λhgo=>?_) (λhno=>?_)
 rotate_left
 ·refine gg_ ?_
  rw[show ((b:Int)+1)=((b+1:Nat):Int)by omega]
  refine hK6 (b+1,m2) _ ⟨hlt2,hl2,hsnd2,hc2,λhce b' hb' hor t ht h5=>?_,hfx2,S⟩ (by simp only;omega)
  have hb':b'<b+1:=hb'
  by_cases hbb:b'=b
  ·subst hbb
   by_cases hie:i=(ze ss (b':Int)).length
   ·refine hrow2 hce t ?_ h5
    rw[hie,List.take_length];exact ht
   ·exfalso
    have hor:b'=k∨mt m2 (b':Int)=true:=hor
    rw[gde (show(i:Int)<(ss[b'].fs.length:Int)by omega),Bool.true_and,Bool.or_eq_false_iff,decide_eq_false_iff_not]at hno
    rcases hor with rfl|hor
    ·exact hno.1 rfl
    ·rw[hno.2]at hor;cases hor
  ·exact hsh2 hce b' (by omega) hor t ht h5
 simp only[gba,Bool.or_eq_true,gdt]at hgo
 obtain⟨hil,hor⟩:=hgo
 have hlt3:i<ss[b].fs.length:=by omega
 have hlt4:i<(ze ss (b:Int)).length:=by omega
 have hel:(ze ss (b:Int))[i]=ss[b].fs[i].2:=by simp only[htl,List.getElem_map]
 obtain⟨b2,off2,c,rfl,hcl2,hcc,hty⟩:=qm hf hlt3
 obtain⟨pt,capt,rfl,_⟩:=XK hty
 have lk:Ob r λw=>w.cell? ⟨b2,off2+i*6+1,none⟩=some (.int .u8 ss[b].fs[i].2.k):=hcc 1 _ rfl
 have ls:Ob r λw=>w.cell? ⟨b2,off2+i*6+4,none⟩=some (.int .i64 ss[b].fs[i].2.st):=hcc 4 _ rfl
 have hst:=List.take_succ_eq_append_getElem hlt4
 have hmem:(ze ss (b:Int))[i]∈ze ss (b:Int):=gem hlt4
 rw[hel]at hst hmem
 generalize ss[b].fs[i].2=u at lk ls hst hmem
 have hgo2:∀{m3:List Bool}{w9:World},m3.length=32→(∀j:Nat,mt m3 j=true→Rch ss k j)→cf m3≤cf m2→(cf m3=cf m2→m3=m2)→(cf m3=cf met→u.k=5→mt m3 u.st=true)→(Shut ss k met→m3=met)→StX noX w r w9 [.cell b5 (yb m3) 292]→K10 [.int .i64 ((i+1:Nat):Int)] w9:=λh1 h2 h3 h4 h5 h6 S=>by
  refine hK10 (i+1,_) _ ⟨hlt4,h1,h2,by simp only;omega,λhce=>?_,λhce t ht htk=>?_,h6,S⟩ (by simp only;omega)
  ·rw[h4 (by simp only at hce;omega)];exact hsh2 (by simp only at hce;omega)
  ·simp only at hce ht⊢
   rw[hst,List.mem_append,List.mem_singleton]at ht
   rcases ht with ht|rfl
   ·rw[h4 (by omega)];exact hrow2 (by omega) t ht htk
   ·exact h5 hce htk
 refine zk (λ_ w'=>∃m3:List Bool,m3.length=32∧(∀j:Nat,mt m3 j=true→Rch ss k j)∧cf m3≤cf m2∧(cf m3=cf m2→m3=m2)∧(cf m3=cf met→u.k=5→mt m3 u.st=true)∧(Shut ss k met→m3=met)∧StX noX w r w' [.cell b5 (yb m3) 292]) (λK11 hK11=>?_) ?_
 rotate_left
 ·rintro _ w5 ⟨m3,h1,h2,h3,h4,h5,h6,S⟩ d5
  refine gg_ ?_
  rw[show ((i:Int)+1)=((i+1:Nat):Int)by omega]
  exact hgo2 h1 h2 h3 h4 h5 h6 S
 refine gg_ ?_
 refine zf (by rw[tnc];exact S.at hcs) ?_
 refine gg_ ?_
 refine zf (by rw[tnc];exact S.at lk) ?_
 refine gg_ ?_
 refine zh (λh5=>?_) (λh5=>?_)
 rotate_left
 ·exact hK11 _ _ ⟨m2,hl2,hsnd2,Nat.le_refl _,λ_=>rfl,λ_ hh=>absurd (by omega) h5,hfx2,S⟩
 have h5:u.k=5:=by omega
 have hkid:Kid ss (b:Int) u.st:=⟨u,hmem,h5,rfl⟩
 have hin:=Zo hg hkid
 have hrk:Rch ss k u.st:=by
  rcases hor with hor|hor
  ·have :b=k:=by omega
   subst this;exact .one hkid
  ·exact .more (hsnd2 b hor) hkid
 refine gg_ ?_
 refine zf (by rw[tnc];exact S.at hcs) ?_
 refine gg_ ?_
 refine zf (by rw[tnc];exact S.at ls) ?_
 refine gg_ ?_
 refine S.st (b:=b5) (λw7 S=>?_) (by rw[aai];omega)
 have e1:(yb m2).set (0+u.st.toNat*1) (.bool true)=yb (m2.set u.st.toNat true):=by
  rw[Nat.zero_add,Nat.mul_one,yb,yb,List.map_set]
 rw[e1]at S
 have hms:∀j:Int,0≤j→mt (m2.set u.st.toNat true) j=(decide (j=u.st)||mt m2 j):=λj hj=>ahl hin.1 hj (by omega)
 refine hK11 _ _ ⟨m2.set u.st.toNat true,by rw[List.length_set];exact hl2,λj hj=>?_,?_,λhce=>?_,λ_ _=>?_,λhsh=>?_,S⟩
 ·rw[hms j (by omega),Bool.or_eq_true,gdt]at hj
  rcases hj with hj|hj
  ·rw[hj];exact hrk
  ·exact hsnd2 j hj
 ·cases hm:mt m2 u.st with
  |true=>rw [aeR hm];exact Nat.le_refl _
  |false=>
   have:=aah (l:=m2) (i:=u.st.toNat) (by
    unfold mt at hm
    rw[ggd,gqg (by omega)]at hm
    rw[gqg (by omega)]
    simpa using hm)
   omega
 ·cases hm:mt m2 u.st with
  |true=>exact aeR hm
  |false=>
   have:=aah (l:=m2) (i:=u.st.toNat) (by
    unfold mt at hm
    rw[ggd,gqg (by omega)]at hm
    rw[gqg (by omega)]
    simpa using hm)
   omega
 ·rw[hms _ hin.1];simp
 ·have hm2:=hfx2 hsh
  have hmt:mt met u.st=true:=hsh b hlt2 (by
   rcases hor with hor|hor
   ·exact .inl (by omega)
   ·rw[← hm2];exact .inr hor) u hmem h5
  rw[hm2,aeR hmt]
section
variable {w:World} {K:Value→World→Prop} {r:Gh} {ss:List StD} {cap:Nat} {q p:Option Addr} {c:List Value} {tys:List TyD} {s:ByteArray}
theorem QB{cap:Nat}{K:Value→World→Prop}(hr:Holds r w)(hs:StG r p ss)
  (h:∀w',Ext w w'→K (.bool (decide ((zx ss).2=0))) w'):zd Tryz.prog Tryz.ja #[.slice p ss.length cap] w K:=by
 refine Tryz.acw ?_
 unfold Tryz.Qz
 have S:=St.start hr
 refine gg_ ?_
 refine c_b (λhbig=>?_) (λhsm=>?_)
 ·have hbig:32<ss.length:=by have:=of_decide_eq_true hbig;omega
  rw[zx,if_pos hbig]at h
  exact h _ S.ext
 have hsm:¬32<ss.length:=by have:=of_decide_eq_false hsm;omega
 rw[zx,if_neg hsm]at h
 refine zj (ι:=Nat) (λi=>[.int .i64 (i:Nat)]) (λi w'=>i≤ss.length∧(∀j,j<i→xw ss j=false)∧StX noX w r w' []) (λi=>ss.length-i) 0 rfl ⟨gzl _,λj hj=>by omega,S⟩ ?_
 clear S
 rintro i d w1 ⟨hi,hb,S⟩ K1 hK1
 rw[gdz]
 refine gg_ ?_
 refine c_b (λhlt=>?_) (λhge=>?_)
 ·have hlt:i<ss.length:=by simpa using hlt
  have hbadd:xw ss i=true→∀w',Ext w w'→K (.bool false) w':=λhbd w' e=>by
   have hf:=jq hlt hbd hb
   have:=h w' e
   rw[hf,if_pos hlt]at this
   exact this
  obtain⟨b,off,q,capq,rfl,hcell,hq0,hqc,hf⟩:=xI hs hlt
  have hlen:=vU hlt
  have htl:=yD hlt
  refine gg_ ?_
  refine zf (by rw[tnc];exact S.at hcell) ?_
  refine gg_ ?_
  refine zn (c:=decide (8<(ze ss i).length)) (λ_ K2 hK2=>?_) ?_
  ·refine gg_ ?_
   refine zf (by rw[tnc];exact S.at hcell) ?_
   refine gg_ ?_
   rw[show decide ((8:Int)<(ss[i].fs.length:Int))=decide (8<(ze ss i).length)from decide_eq_decide.2 (by omega)]
   exact hK2
  rw[show decide ((ss[i].fs.length:Int)<1)=decide ((ze ss i).length<1)from decide_eq_decide.2 (by omega)]
  refine c_b (λhl=>?_) (λhl=>?_)
  ·refine hbadd ?_ _ S.ext
   rw[xw,hl];rfl
  have hl8:(ze ss (i:Int)).length≤8:=by
   simp only[Bool.or_eq_false_iff,decide_eq_false_iff_not]at hl;omega
  refine zj (ι:=Nat) (λk=>[.int .i64 (k:Nat)]) (λk w'=>k≤(ze ss i).length∧(((ze ss i).take k).any λt=>!zt ss.length 48 t||decide (0<t.regs.length))=false∧StX noX w r w' []) (λk=>(ze ss i).length-k) 0 rfl ⟨gzl _,by simp,S⟩ ?_
  clear S
  rintro k d w2 ⟨hk,hno,S⟩ K9 hK9
  rw[gdz]
  refine gg_ ?_
  refine zf (by rw[tnc];exact S.at hcell) ?_
  refine gg_ ?_
  refine c_b (λhlt2=>?_) (λhge2=>?_)
  ·have hlt2:k<ss[i].fs.length:=by simpa using hlt2
   have hlt3:k<(ze ss i).length:=by omega
   have hel:(ze ss i)[k]=ss[i].fs[k].2:=by simp only[htl,List.getElem_map]
   obtain⟨b2,off2,c,rfl,hcl,hcc,hty⟩:=qm hf hlt2
   refine gg_ ?_
   refine zf (by rw[tnc];exact S.at hcell) ?_
   refine gg_ ?_
   refine zo (n:=5) (c:=c) hcl (λj v hj=>by
    have:=S.at (hcc (j+1) v (by simpa using hj))
    rw[tnc,Nat.add_assoc _ 1 j,Nat.add_comm 1 j];exact this) ?_
   refine gg_ ?_
   refine Zu 48 (by decide) S.holds hty λw3 e3=>?_
   have S:=S.go e3
   refine gg_ ?_
   have hmt:mtB ss.length 48 false ss[i].fs[k].2 = !(!zt ss.length 48 ss[i].fs[k].2||decide (0<ss[i].fs[k].2.regs.length)):=by
    rw[mtB,Bool.false_or,Bool.not_or,Bool.not_not,← decide_not]
    congr 1
    exact decide_eq_decide.2 (by omega)
   rw[hmt,Bool.not_not]
   refine c_b (λhy=>?_) (λhn=>?_)
   ·refine hbadd ?_ _ S.ext
    have :((ze ss i).any λt=>!zt ss.length 48 t||decide (0<t.regs.length))=true:=List.any_eq_true.2 ⟨_,gem hlt3,by rw[hel];exact hy⟩
    rw[xw,this,Bool.or_true]
   ·refine gg_ ?_
    rw[show ((k:Int)+1)=((k+1:Nat):Int)by omega]
    refine hK9 (k+1) _ ⟨hlt3,?_,S⟩ (by omega)
    rw[List.take_succ_eq_append_getElem hlt3,List.any_append,hno,hel]
    simp only[List.any_cons,List.any_nil,Bool.false_or,Bool.or_false]
    exact hn
  ·have hie:k=(ze ss i).length:=by
    have :¬k<ss[i].fs.length:=by simpa using hge2
    omega
   rw[hie,List.take_length]at hno
   refine gg_ ?_
   rw[show ((i:Int)+1)=((i+1:Nat):Int)by omega]
   refine hK1 (i+1) _ ⟨hlt,λj hj=>?_,S⟩ (by omega)
   by_cases hji:j=i
   ·rw[hji,xw,hl,hno];rfl
   ·exact hb j (by omega)
 have hie:i=ss.length:=by
  have :¬i<ss.length:=by simpa using hge
  omega
 rw[hie]at hb
 have h1:¬xF ss.length (xw ss)<ss.length:=by rw[jp hb];omega
 rw[if_neg h1]at h
 have hgd:=Jq hb
 refine zj (ι:=Nat) (λi=>[.int .i64 (i:Nat)]) (λi w'=>i≤ss.length∧(∀j,j<i→qS ss j=false)∧StX noX w r w' []) (λi=>ss.length-i) 0 rfl ⟨gzl _,λj hj=>by omega,S⟩ ?_
 clear S hie hge hi
 rintro i d w5 ⟨hi,hb2,S⟩ K1 hK1
 rw[gdz]
 refine gg_ ?_
 refine c_b (λhlt=>?_) (λhge=>?_)
 ·have hlt:i<ss.length:=by simpa using hlt
  refine adM hgd (by omega) hlt (xV hb) S.holds hs λw6 e6=>?_
  have S:=S.go e6
  refine c_b (λhy=>?_) (λhn=>?_)
  ·have hf:=jq hlt hy hb2
   rw[hf,if_pos hlt]at h
   exact h _ S.ext
  ·refine gg_ ?_
   rw[show ((i:Int)+1)=((i+1:Nat):Int)by omega]
   refine hK1 (i+1) _ ⟨hlt,λj hj=>?_,S⟩ (by omega)
   by_cases hji:j=i
   ·rw[hji];exact hn
   ·exact hb2 j (by omega)
 have hie:i=ss.length:=by
  have :¬i<ss.length:=by simpa using hge
  omega
 rw[hie]at hb2
 have h2:¬xF ss.length (qS ss)<ss.length:=by rw[jp hb2];omega
 rw[if_neg h2]at h
 have hac:=aa9 hgd hb2
 refine zj (ι:=Nat) (λi=>[.int .i64 (i:Nat)]) (λi w'=>i≤ss.length∧(∀j,j<i→ZV ss j=false)∧StX noX w r w' []) (λi=>ss.length-i) 0 rfl ⟨gzl _,λj hj=>by omega,S⟩ ?_
 clear S hie hge hi
 rintro i d w5 ⟨hi,hb3,S⟩ K1 hK1
 rw[gdz]
 refine gg_ ?_
 refine c_b (λhlt=>?_) (λhge=>?_)
 ·have hlt:i<ss.length:=by simpa using hlt
  refine zq (cs:=#[.int .u8 5,.bool false,.int .i64 0,.int .i64 i,.slice none 0 0]) (by kernel_rfl) ?_
  refine agf hgd hac 40 (t:=.mk 5 false 0 i []) (by decide) (by have:=adj ss (.mk 5 false 0 i []);omega) ?_ (by omega) (xV hb) S.holds hs (yH (r:=r)) λx w9 e9 _ hx=>?_
  ·rw[yv]
   simp[TyD.k,TyD.m,TyD.re,TyD.of,TyD.st]
   omega
  have S:=S.go e9
  refine gg_ ?_
  rw[show decide ((x:Int)>16)=decide (16<wF ss 40 (.mk 5 false 0 i []))from decide_eq_decide.2 (by omega)]
  refine c_b (λhy=>?_) (λhn=>?_)
  ·have hf:=jq (p:=ZV ss) hlt hy hb3
   rw[hf,if_pos hlt]at h
   exact h _ S.ext
  ·refine gg_ ?_
   rw[show ((i:Int)+1)=((i+1:Nat):Int)by omega]
   refine hK1 (i+1) _ ⟨hlt,λj hj=>?_,S⟩ (by omega)
   by_cases hji:j=i
   ·rw[hji];exact hn
   ·exact hb3 j (by omega)
 have hie:i=ss.length:=by
  have :¬i<ss.length:=by simpa using hge
  omega
 rw[hie]at hb3
 have h3:¬xF ss.length (ZV ss)<ss.length:=by rw[jp hb3];omega
 rw[if_neg h3]at h
 exact h _ S.ext
theorem agh{cap capt:Nat}{K:Value→World→Prop}(hr:Holds r w)(hs:StG r p ss)(ht:TysG r q tys)(htl:tys.length≤maxLen)
  (h:∀w',Ext w w'→K (.bool (decide ((zx ss).2=0)&&tys.all λt=>mayB ss t)) w'):zd Tryz.prog Tryz.Yv #[.slice p ss.length cap,.slice q tys.length capt] w K:=by
 refine Tryz.aeN ?_
 unfold Tryz.VC
 have S:=St.start hr
 have htl':tys.length≤9223372036854775807:=htl
 refine QB S.holds hs λw1 e1=>?_
 have S:=S.go e1
 refine gp_ ?_
 by_cases hst:(zx ss).2=0
 ·rw[gde hst]at h⊢
  refine c_f rfl ?_
  refine zj (ι:=Nat) (λi=>[.int .i64 (i:Nat)]) (λi w'=>i≤tys.length∧((tys.take i).all λt=>mayB ss t)=true∧StX noX w r w' []) (λi=>tys.length-i) 0 rfl ⟨gzl _,by simp,S⟩ ?_
  clear S
  rintro i d w2 ⟨hi,hall,S⟩ K2 hK2
  rw[gdz]
  refine gg_ ?_
  refine zh (λhlt=>?_) (λhge=>?_)
  ·have hlt:i<tys.length:=by omega
   obtain⟨b,off,c,rfl,hc,hcell,hto⟩:=ht i hlt
   obtain⟨q2,cap2,rfl,ht2⟩:=yj hto
   refine gg_ ?_
   refine zo (n:=5) hc (λj v hj=>by rw[tnc];exact S.at (hcell j v hj)) ?_
   refine gg_ ?_
   refine Zu 48 (by decide) S.holds ht2 λw3 e3=>?_
   have S:=S.go e3
   rw[ahH]
   refine gg_ ?_
   have hm:mayB ss tys[i]=zt ss.length 48 tys[i]:=by rw[mayB,gde hst,Bool.true_and]
   refine c_b (λhb=>?_) (λhb=>?_)
   ·have hf:(tys.all λt=>mayB ss t)=false:=by
     rw[List.all_eq_false]
     exact⟨tys[i],gem hlt,by rw[hm];simpa using hb⟩
    have:=h _ S.ext
    rw[hf,Bool.and_false]at this
    exact this
   ·refine gg_ ?_
    rw[show ((i:Int)+1)=((i+1:Nat):Int)by omega]
    refine hK2 (i+1) _ ⟨hlt,?_,S⟩ (by omega)
    rw[List.take_succ_eq_append_getElem hlt,List.all_append,hall]
    simp only[List.all_cons,List.all_nil,Bool.true_and,Bool.and_true]
    rw[hm];simpa using hb
  ·have hie:i=tys.length:=by omega
   rw[hie,List.take_length]at hall
   have:=h _ S.ext
   rw[hall,Bool.and_true]at this
   exact this
 ·rw[decide_eq_false hst]at h⊢
  refine c_t rfl ?_
  exact h _ S.ext
theorem aaC{t:TyD}{k:Int}{cap ct:Nat}{K:Value→World→Prop}(hft:Fine ss t)(hr:Holds r w)(hs:StG r p ss)(htt:TyG r (tyV t q ct) t)
  (h:∀t' q' c' (n:Int) (ok:Bool) w',Ext w w'→TyG r (tyV t' q' c') t'→(ok=true→zF ss t k=some (t',n))→(ok=false→zF ss t k=none)→K (.tuple #[tyV t' q' c',.int .i64 n,.bool ok]) w'):
  zd Tryz.prog Tryz.Zl #[.slice p ss.length cap,tyV t q ct,.int .i64 k] w K:=by
 refine Tryz.af9 ?_
 unfold Tryz.aav
 have S:=St.start hr
 refine S.box λb4 w1 S=>?_
 have S:StX noX w r w1 [.cell b4 (tyL t q ct) 43]:=S
 refine S.al λb6 w2 S=>?_
 have down:(t.k=3∨t.k=4)→∃uu,t.of=[uu]:=by
  intro hk
  rcases hft.cases with⟨_,h1⟩|⟨uu,h1,_⟩
  ·omega
  ·exact⟨uu,h1⟩
 have hinn:∀{hw:Int},k = -1→((t.k=3∧hw=1)∨(t.k=4∧hw=if t.m then 2 else 3))→∀{uu:TyD},t.of=[uu]→zF ss t k=some (uu,hw):=λhk1 h34 uu hof=>by
  rcases h34 with⟨h1,h2⟩|⟨h1,h2⟩
  ·rw[zF,if_pos ⟨hk1,h1⟩,hof,h2];rfl
  ·rw[zF,if_neg (by omega),if_pos ⟨hk1,h1⟩,hof,h2];rfl
 have stay:∀{w3:World}{L:List Asr},zF ss t k=none→StX noX w r w3 (.cell b6 je 43::.cell b4 (tyL t q ct) 43::L)→
   opQ Tryz.prog w3 (Instr.loadAt 43 (.pointer (some ⟨b4,0,none⟩))) λv=>opU Tryz.prog w3 (Instr.storeAt 43 (.pointer (some ⟨b6,0,none⟩)) v) λw4=>opQ Tryz.prog w4 (zi 43 (.pointer (some ⟨b6,0,none⟩))) λv'=>K (.tuple #[v',.int .i64 0,.bool false]) w4:=by
  intro w3 L hn S
  refine S.ldB (b:=b4) ?_ rfl
  refine S.stB (b:=b6) λw4 S=>?_
  refine S.ceB (b:=b6) ?_ rfl
  exact h _ _ _ 0 false _ S.ext htt (λhh=>by cases hh) λ_=>hn
 refine gg_ ?_
 refine zh (λhk1=>?_) (λhk1=>?_)
 ·refine gg_ ?_
  refine zh (λh3=>?_) (λh3=>?_)
  ·obtain⟨uu,hof⟩:=down (.inl h3)
   obtain⟨bo,oo,q2,cap2,rfl,ht2,hcc⟩:=Zs htt hof
   have hl1:t.of.length=1:=by rw[hof];rfl
   refine gg_ ?_
   refine zo (n:=5) (c:=tyL uu q2 cap2) rfl (λj v hj=>by simpa using S.at (hcc j v hj)) ?_
   refine S.stB (b:=b6) λw3 S=>?_
   refine S.ceB (b:=b6) ?_ rfl
   exact h _ _ _ 1 true _ S.ext ht2 (λ_=>hinn hk1 (.inl ⟨h3,rfl⟩) hof) λhh=>by cases hh
  refine gg_ ?_
  refine zg (c:=t.m) (λ_ K2 hK2=>by refine gg_ ?_;exact hK2) ?_
  refine c_b (λhM=>?_) (λhM=>?_)
  ·have hM:t.k=4∧t.m=true:=by simpa using hM
   obtain⟨uu,hof⟩:=down (.inr hM.1)
   obtain⟨bo,oo,q2,cap2,rfl,ht2,hcc⟩:=Zs htt hof
   have hl1:t.of.length=1:=by rw[hof];rfl
   refine gg_ ?_
   refine zo (n:=5) (c:=tyL uu q2 cap2) rfl (λj v hj=>by simpa using S.at (hcc j v hj)) ?_
   refine S.stB (b:=b6) λw3 S=>?_
   refine S.ceB (b:=b6) ?_ rfl
   exact h _ _ _ 2 true _ S.ext ht2 (λ_=>hinn hk1 (.inr ⟨hM.1,by rw[hM.2];rfl⟩) hof) λhh=>by cases hh
  refine gg_ ?_
  refine zh (λh4=>?_) (λh4=>?_)
  ·have hm:t.m=false:=by
    cases e:t.m
    ·rfl
    ·rw[e,gde h4]at hM;cases hM
   obtain⟨uu,hof⟩:=down (.inr h4)
   obtain⟨bo,oo,q2,cap2,rfl,ht2,hcc⟩:=Zs htt hof
   have hl1:t.of.length=1:=by rw[hof];rfl
   refine gg_ ?_
   refine zo (n:=5) (c:=tyL uu q2 cap2) rfl (λj v hj=>by simpa using S.at (hcc j v hj)) ?_
   refine S.stB (b:=b6) λw3 S=>?_
   refine S.ceB (b:=b6) ?_ rfl
   exact h _ _ _ 3 true _ S.ext ht2 (λ_=>hinn hk1 (.inr ⟨h4,by rw[hm];rfl⟩) hof) λhh=>by cases hh
  ·exact stay (by rw[zF,if_neg (by omega),if_neg (by omega),if_neg (by omega)]) S
 ·refine gg_ ?_
  refine zn (c:=decide (k<0)) (λ_ K2 hK2=>by refine gg_ ?_;exact hK2) ?_
  refine zn (c:=decide (((ze ss t.st).length:Int)≤k)) (λh5 K2 hK2=>?_) ?_
  ·have h5:t.k=5∧0≤k:=by simpa using h5
   obtain⟨hst0,hst1⟩:=hft.st h5.1
   have hslt:t.st.toNat<ss.length:=by omega
   obtain⟨b,off,q9,capq,rfl,hcell9,_,_,hfl⟩:=xI hs hslt
   have hlen:(ze ss t.st).length=ss[t.st.toNat].fs.length:=by
    rw[← vU hslt];simp only[ze,tnc]
   refine gg_ ?_
   refine zf (S.at hcell9) ?_
   refine gg_ ?_
   rw[← hlen]
   exact hK2
  refine c_b (λhX=>?_) (λhX=>?_)
  ·refine stay ?_ S
   rw[zF,if_neg (by omega),if_neg (by omega)]
   split
   ·rename_i h5
    have h50:=h5.1
    rw[List.getElem?_eq_none]
    ·rfl
    ·have :((ze ss t.st).length:Int)≤k:=by
      simp only[Bool.or_eq_true,gdt]at hX;omega
     omega
   ·rfl
  ·have hX:(t.k=5∧0≤k)∧k<(ze ss t.st).length:=by
    simp only[Bool.or_eq_false_iff,decide_eq_false_iff_not]at hX;omega
   obtain⟨⟨hk5,hk0⟩,hkl⟩:=hX
   obtain⟨hst0,hst1⟩:=hft.st hk5
   have hslt:t.st.toNat<ss.length:=by omega
   obtain⟨b,off,q9,capq,rfl,hcell9,_,_,hfl⟩:=xI hs hslt
   have htl2:ze ss t.st=ss[t.st.toNat].fs.map (·.2):=by
    rw[← yD hslt];simp only[ze,tnc]
   have hkf:k.toNat<ss[t.st.toNat].fs.length:=by
    rw[htl2,List.length_map]at hkl;omega
   obtain⟨b10,off9,c9,rfl,hc9,hcell8,ht9⟩:=qm hfl hkf
   obtain⟨q2,cap2,rfl,ht2⟩:=yj ht9
   refine gg_ ?_
   refine zf (S.at hcell9) ?_
   refine gg_ ?_
   refine zo (n:=5) (c:=tyL _ q2 cap2) rfl (λj v hj=>by have:=S.at (hcell8 (j+1) v hj);rwa[show off9+k.toNat*6+(j+1)=off9+k.toNat*6+1+j by omega]at this) ?_
   refine S.stB (b:=b6) λw3 S=>?_
   refine S.ceB (b:=b6) ?_ rfl
   refine h _ _ _ 0 true _ S.ext ht2 (λ_=>?_) λhh=>by cases hh
   rw[zF,if_neg (by omega),if_neg (by omega),if_pos ⟨hk0,hk5⟩,htl2,List.getElem?_map,gqg hkf];rfl
theorem ahI{p:PlD}{p0:Option Addr}{cap0 capt:Nat}{K:Value→World→Prop}(hr:Holds r w)(hs:StG r p0 ss)(ht:TysG r q tys)(htl:tys.length≤maxLen)(hp:PlG r c p)
  (hN:∀w',zK ss tys p=none→Ext w w'→K (.tuple #[agK,.slice none 0 0,.bool false]) w')
  (hS:∀t g q cap vg s w',zK ss tys p=some (t,g)→Ext w w'→New w s w'→TyG r (tyV t q cap) t→SlG 1 s yz vg g→K (.tuple #[tyV t q cap,vg,.bool true]) w'):
  zd Tryz.prog Tryz.Xu #[.slice p0 ss.length cap0,.slice q tys.length capt,.agg c.toArray] w K:=by
 obtain⟨v,rfl,hl⟩:=hp
 obtain⟨qs,caps,rfl,_,_⟩:=hl.sl.shape
 have hbl:=hl.lt
 have htl':tys.length≤9223372036854775807:=htl
 refine Tryz.af8 ?_
 unfold Tryz.aau
 have S:=St.start hr
 refine S.box λb5 w1 S=>?_
 refine S.al λb6 w3 S=>?_
 have S:StX noX w r w3 [.cell b6 je 43,.cell b5 [.int .i64 p.l,.slice qs p.ps.length caps] 80]:=S
 refine gg_ ?_
 refine zn (c:=decide ((tys.length:Int)≤p.l)) (λ_ K2 hK2=>by refine gg_ ?_;exact hK2) ?_
 refine zn (c:=decide (8<p.ps.length)) (λ_ K2 hK2=>?_) ?_
 ·refine gg_ ?_
  rw[show decide ((8:Int)<(p.ps.length:Int))=decide (8<p.ps.length)from decide_eq_decide.2 (by omega)]
  exact hK2
 refine yZ (c:=!(decide ((zx ss).2=0)&&tys.all λt=>mayB ss t)) (λ_ K2 hK2=>?_) λw4 e4=>?_
 ·refine agh S.holds hs ht htl λw6 e6=>?_
  refine gp_ ?_
  exact hK2 _ e6
 have S:=S.go e4
 have hO:yd ss tys p = !(((decide (p.l<0)||decide ((tys.length:Int)≤p.l))||decide (8<p.ps.length)) || !(decide ((zx ss).2=0)&&tys.all λt=>mayB ss t)):=by
  rw[yd]
  simp only[Bool.not_or,Bool.not_not]
  congr 1
  rw[← decide_not,← decide_not,← decide_not]
  congr 1
  ·congr 1<;>exact decide_eq_decide.2 (by omega)
  ·exact decide_eq_decide.2 (by omega)
 refine c_b (λhbad=>?_) (λhgood=>?_)
 ·rw[hbad]at hO
  refine zq (cs:=#[.int .u8 0,.bool false,.int .i64 0,.int .i64 0,.slice none 0 0]) (by kernel_rfl) ?_
  refine S.stB (b:=b6) λw4 S=>?_
  refine S.ceB (b:=b6) ?_ rfl
  exact hN _ (aar hO) S.ext
 rw[hgood]at hO
 have hO:yd ss tys p=true:=hO
 have hO2:=hO
 simp only[yd,gba,gdt,List.all_eq_true]at hO2
 obtain⟨⟨⟨hl0,hl1⟩,hl8⟩,hst,hmay⟩:=hO2
 obtain⟨h32,_,hg,_⟩:=yU hst
 have hlt0:p.l.toNat<tys.length:=by omega
 have hW:zK ss tys p=zC ss p.ps tys[p.l.toNat]:=by
  rw[zK,if_pos hO,ggd,gqg hlt0];rfl
 rw[hW]at hN hS
 obtain⟨bt,ot,ct,rfl,hct,hcell,htc⟩:=ht p.l.toNat hlt0
 have hfi:Fine ss tys[p.l.toNat]:=(Zq (hmay _ (gem hlt0))).2
 generalize tys[p.l.toNat]=t0 at hN hS htc hfi
 obtain⟨q0,cap1,rfl,ht0⟩:=yj htc
 clear hgood hbl
 refine gg_ ?_
 refine zo (n:=5) hct (λj v hj=>S.at (hcell j v hj)) ?_
 refine S.al λb9 w7 S=>?_
 refine S.stB (b:=b9) λw7 S=>?_
 have S:=S.ownNil 3 1
 refine zj (ι:=Nat×Value×TyD×Option Addr×Nat×List Int) (λi=>[i.2.1,.int .i64 (i.1:Nat)]) (λi w'=>i.1≤p.ps.length∧zC ss (p.ps.take i.1) t0=some (i.2.2.1,i.2.2.2.2.2)∧TyG r (tyV i.2.2.1 i.2.2.2.1 i.2.2.2.2.1) i.2.2.1∧
  StX noX w r w' [.row i.2.1 3 1 i.1 (ints i.2.2.2.2.2),.cell b9 (tyL i.2.2.1 i.2.2.2.1 i.2.2.2.2.1) 43,.cell b6 je 43,.cell b5 [.int .i64 p.l,.slice qs p.ps.length caps] 80]) (λi=>p.ps.length-i.1) (0,.slice none 0 0,t0,q0,cap1,[]) rfl ⟨gzl _,rfl,ht0,S⟩ ?_
 clear S
 rintro⟨i,vg,t,q,cap,g⟩ d w8 ⟨hi,hw,htt,S⟩ K6 hK6
 simp only at hi hw htt S⊢
 simp only[gdz,gds]
 have hft:Fine ss t:=Xb hg hfi hw
 have hgl:g.length=(p.ps.take i).length:=Ym hw
 rw[List.length_take]at hgl
 refine gg_ ?_
 refine zh (λhlt=>?_) (λhge=>?_)
 rotate_left
 ·have hie:i=p.ps.length:=by omega
  rw[hie,List.take_length]at hw
  refine S.ldB (b:=b9) ?_ rfl
  refine S.stB (b:=b6) λw9 S=>?_
  refine S.ceB (b:=b6) ?_ rfl
  obtain⟨s,S,hsl,_,hab⟩:=S.doneRow (l:=g) (R:=yz) (sz:=1) ⟨by rw[yh,Nat.mul_one],λj hj=>by
   show _=_
   rw[Nat.mul_one,ints,← List.map_drop,← List.map_take,List.drop_eq_getElem_cons hj];rfl⟩ (by decide) (by omega)
  exact hS _ _ _ _ _ s _ hw S.ext (S.newOf λb o ho=>(hab b o ho).resolve_right id) htt hsl
 have hlt:i<p.ps.length:=by omega
 obtain⟨k,hke⟩:∃k,p.ps[i]=k:=⟨_,rfl⟩
 obtain⟨bs,os,cs,rfl,hcs,hck,hcl⟩:=hl.sl.get (by decide) hlt
 rw[hke]at hck
 obtain⟨rfl,hin⟩:=hck
 have hstep:zC ss (p.ps.take (i+1)) t0=(zF ss t k).map λs=>(s.1,g++[s.2]):=by
  rw[List.take_succ_eq_append_getElem hlt,J7,hw,hke];rfl
 have hbadk:zF ss t k=none→zC ss p.ps t0=none:=λe=>by
  have:=J8 (m:=p.ps.drop (i+1)) (hstep.trans (by rw[e];rfl))
  rwa[List.take_append_drop]at this
 refine zk (λs w'=>∃b12 t' q' c' n ok,s=[.pointer (some ⟨b12,0,none⟩),.int .i64 n,.bool ok]∧TyG r (tyV t' q' c') t'∧(ok=true→zF ss t k=some (t',n))∧(ok=false→zF ss t k=none)∧
  StX noX w r w' [.cell b12 (tyL t' q' c') 43,.row vg 3 1 i (ints g),.cell b9 (tyL t q cap) 43,.cell b6 je 43,.cell b5 [.int .i64 p.l,.slice (some ⟨bs,os,none⟩) p.ps.length caps] 80]) (λK24 hK24=>?_) ?_
 ·have S:=S.go (Ext.drew _)
  refine S.ldB (b:=b9) ?_ rfl
  refine gg_ ?_
  refine zf (v:=.int .i64 k) (by simpa using S.at (hcl 0 _ rfl)) ?_
  refine And.intro ?_ ?_
  ·refine aaC hft S.holds hs htt λt' q' c' n ok w9 e9 ht' h1 h2=>?_
   have S:=S.go e9
   refine gS_ ?_
   refine S.alU λb12 w10 S=>?_
   refine S.stB (b:=b12) λw11 S=>?_
   exact hK24 _ _ ⟨b12,t',q',c',n,ok,rfl,ht',h1,h2,S⟩
  ·refine S.alU λb12 w10 S=>?_
   refine aaC hft S.holds hs htt λt' q' c' n ok w9 e9 ht' h1 h2=>?_
   have S:=S.go e9
   refine gS_ ?_
   refine S.stB (b:=b12) λw11 S=>?_
   exact hK24 _ _ ⟨b12,t',q',c',n,ok,rfl,ht',h1,h2,S⟩
 clear S
 rintro _ w12 ⟨b12,t',q',c',n,ok,rfl,ht',h1,h2,S⟩ d12
 simp only[gdz,gds]
 refine gp_ ?_
 cases ok with
 |false=>
  refine c_t rfl ?_
  refine zq (cs:=#[.int .u8 0,.bool false,.int .i64 0,.int .i64 0,.slice none 0 0]) (by kernel_rfl) ?_
  refine S.stB (b:=b6) λw13 S=>?_
  refine S.ceB (b:=b6) ?_ rfl
  exact hN _ (hbadk (h2 rfl)) S.ext
 |true=>
  refine c_f rfl ?_
  refine S.ldB (b:=b12) ?_ rfl
  refine S.stB (b:=b9) λw13 S=>?_
  refine S.lit (e:=3) (cs:=[.int .i64 n]) (by kernel_rfl) λb14 w14 S=>?_
  refine S.ap (m':=1) (Sl.blk (S.blk b14)) (λv15 w15 S=>?_) (by omega)
  have S:=(S.drop b14).drop b12
  have hins:ints g++[.int .i64 n]=ints (g++[n]):=by rw[ints,ints,List.map_append];rfl
  rw[hins]at S
  refine gg_ ?_
  rw[show ((i:Int)+1)=((i+1:Nat):Int)by omega]
  exact hK6 (i+1,v15,t',q',c',g++[n]) _ ⟨hlt,hstep.trans (by rw[h1 rfl];rfl),ht',S⟩ (by show p.ps.length-(i+1)<p.ps.length-i;omega)
theorem xP{p:PlD}{K:Value→World→Prop}(hr:Holds r w)(hp:PlG r c p)
  (h:∀w',Ext w w'→K (.bool (xR p)) w'):zd Tryz.prog Tryz.yL #[.agg c.toArray] w K:=by
 refine Tryz.aaB ?_
 unfold Tryz.YW
 obtain⟨v,rfl,hl⟩:=hp
 obtain⟨qs,caps,rfl,_,_⟩:=hl.sl.shape
 have S:=St.start hr
 refine S.box λb1 w1 S=>?_
 have S:StX noX w r w1 [.cell b1 [.int .i64 p.l,.slice qs p.ps.length caps] 80]:=S
 refine gg_ ?_
 refine zg (c:=decide (p.ps.length=0)) (λ_ K2 hK2=>?_) ?_
 ·refine gg_ ?_
  rw[decide_eq_decide.2 (qk p.ps.length)]
  exact hK2
 exact h _ S.ext
theorem ZH{o:OpD}{K:Value→World→Prop}(hr:Holds r w)(ho:OpG r c o)
  (h:∀w',Ext w w'→K (.bool (vh o)) w'):zd Tryz.prog Tryz.kg #[.agg c.toArray] w K:=by
 refine Tryz.Vd ?_
 unfold Tryz.ZG
 obtain⟨v,rfl,hl⟩:=ho
 obtain⟨qs,caps,rfl,_,_⟩:=hl.sl.shape
 have S:=St.start hr
 refine S.box λb1 w1 S=>?_
 have S:StX noX w r w1 [.cell b1 [.int .u8 o.k,.int .i64 o.n,.int .i64 o.pl.l,.slice qs o.pl.ps.length caps] 93]:=S
 refine gg_ ?_
 refine zg (c:=decide (o.n=0)) (λ_ K2 hK2=>by refine gg_ ?_;exact hK2) ?_
 refine zr (c:=xR o.pl) (λ_ K2 hK2=>?_) λw5 e5=>?_
 ·refine gg_ ?_
  refine S.ldN (b:=b1) ?_
  refine xP (p:=o.pl) S.holds ⟨_,rfl,hl⟩ λw6 e6=>hK2 _ e6
 exact h _ (S.go e5).ext
theorem zX{t:TyD}{q:Option Addr}{cap:Nat}{k:Int}{K:Value→World→Prop}(hr:Holds r w)
  (h:∀w',Ext w w'→K (.bool (isK t k)) w'):zd Tryz.prog Tryz.zO #[tyV t q cap,.int .u8 k] w K:=by
 refine Tryz.aiu ?_
 unfold Tryz.adJ
 have S:=St.start hr
 refine S.box λb1 w1 S=>?_
 have S:StX noX w r w1 [.cell b1 (tyL t q cap) 43]:=S
 refine gg_ ?_
 exact h _ S.ext
theorem ahJ{s:ByteArray}{w:World}{K:Value→World→Prop}
  (h:K (.bool (yl s [[43],[45],[42],[47],[37]])) w):zd Tryz.prog Tryz.Xx #[.string s] w K:=by
 refine Tryz.agd ?_
 unfold Tryz.aaz
 refine gg_ ?_
 refine zn (c:=s.toList == [45]) (λ_ K2 hK2=>by refine gg_ ?_;exact hK2) ?_
 refine zn (c:=s.toList == [42]) (λ_ K2 hK2=>by refine gg_ ?_;exact hK2) ?_
 refine zn (c:=s.toList == [47]) (λ_ K2 hK2=>by refine gg_ ?_;exact hK2) ?_
 refine zn (c:=s.toList == [37]) (λ_ K2 hK2=>by refine gg_ ?_;exact hK2) ?_
 have e:((((s.toList == [43])||(s.toList == [45]))||(s.toList == [42]))||(s.toList == [47])||(s.toList == [37]))=yl s [[43],[45],[42],[47],[37]]:=by
  simp only[yl,List.any_cons,List.any_nil,Bool.or_false,Bool.or_assoc]
 rw[← e]at h
 exact h
theorem aeS{s:ByteArray}{w:World}{K:Value→World→Prop}
  (h:K (.bool (yl s [[61,61],[33,61],[60],[60,61],[62],[62,61]])) w):zd Tryz.prog Tryz.ZP #[.string s] w K:=by
 refine Tryz.adK ?_
 unfold Tryz.JB
 refine gg_ ?_
 refine zn (c:=s.toList == [33,61]) (λ_ K2 hK2=>by refine gg_ ?_;exact hK2) ?_
 refine zn (c:=s.toList == [60]) (λ_ K2 hK2=>by refine gg_ ?_;exact hK2) ?_
 refine zn (c:=s.toList == [60,61]) (λ_ K2 hK2=>by refine gg_ ?_;exact hK2) ?_
 refine zn (c:=s.toList == [62]) (λ_ K2 hK2=>by refine gg_ ?_;exact hK2) ?_
 refine zn (c:=s.toList == [62,61]) (λ_ K2 hK2=>by refine gg_ ?_;exact hK2) ?_
 have e:(((((s.toList == [61,61])||(s.toList == [33,61]))||(s.toList == [60]))||(s.toList == [60,61])||(s.toList == [62]))||(s.toList == [62,61]))=yl s [[61,61],[33,61],[60],[60,61],[62],[62,61]]:=by
  simp only[yl,List.any_cons,List.any_nil,Bool.or_false,Bool.or_assoc]
 rw[← e]at h
 exact h
def yQ(m:Int):List Int→Int
 |[]=>m
 |k::l=>yQ (max m k) l
theorem adN(k:Int):∀(l:List Int)(m:Int),yQ m (l++[k])=max (yQ m l) k
 |[],m=>rfl
 |x::l,m=>by rw[List.cons_append,yQ,yQ,adN k l]
theorem Zv{l:List Int}{v:Value}{K:Value→World→Prop}(hr:Holds r w)(hl:SlG 1 r yz v l)(hb:l.length≤1000000)
  (h:∀w',Ext w w'→K (.int .i64 (yQ 0 l)) w'):zd Tryz.prog Tryz.kO #[v] w K:=by
 refine Tryz.age ?_
 unfold Tryz.aaA
 obtain⟨p,cap,rfl,_,_⟩:=hl.shape
 have S:=St.start hr
 refine zj (ι:=Nat) (λi=>[.int .i64 (yQ 0 (l.take i)),.int .i64 (i:Nat)]) (λi w'=>i≤l.length∧StX noX w r w' []) (λi=>l.length-i) 0 rfl ⟨gzl _,S⟩ ?_
 clear S
 rintro i d w2 ⟨hi,S⟩ K1 hK1
 simp only[gdz,gds]
 refine gg_ ?_
 refine zh (λhlt=>?_) (λhge=>?_)
 ·have hlt:i<l.length:=by omega
  have hs:yQ 0 (l.take (i+1))=max (yQ 0 (l.take i)) l[i]:=by rw[List.take_succ_eq_append_getElem hlt,adN]
  obtain⟨b,off,c,rfl,hc,hcc,hcell⟩:=hl.get (by decide) hlt
  obtain rfl:c=_:=hcc
  have hx:Ob r λw=>w.cell? ⟨b,off+i,none⟩=some (.int .i64 l[i]):=by simpa using hcell 0 _ rfl
  refine zk (λs w'=>s=[.int .i64 (yQ 0 (l.take (i+1)))]∧w'=w2) (λK5 hK5=>?_) ?_
  rotate_left
  ·rintro _ _ ⟨rfl,rfl⟩ d3
   rw[gdz]
   refine gg_ ?_
   rw[show ((i:Int)+1)=((i+1:Nat):Int)by omega]
   exact hK1 (i+1) _ ⟨hlt,S⟩ (by omega)
  refine gg_ ?_
  refine zf (by simpa using S.at hx) ?_
  refine gg_ ?_
  refine zh (λhgt=>?_) (λhle=>?_)
  ·refine gg_ ?_
   refine zf (by simpa using S.at hx) ?_
   exact hK5 _ _ ⟨by rw[hs,Int.max_eq_right (by omega)],rfl⟩
  ·exact hK5 _ _ ⟨by rw[hs,Int.max_eq_left (by omega)],rfl⟩
 ·have hie:i=l.length:=by omega
  rw[hie,List.take_length]
  exact h _ S.ext
theorem VF{s s':Int}:∀(n:Nat){a b:TyD}{w:World}{r:Gh}{va vb:Value}{K:Value→World→Prop},zt s n a=true→zt s' n b=true→Holds r w→TyG r va a→TyG r vb b→
  (∀w',Ext w w'→K (.bool (x7 ya n a b)) w')→zd Tryz.prog Tryz.yT #[va,vb] w K:=by
 intro n
 induction n with
 |zero=>intro a b w r va vb K h;cases h
 |succ n ih=>
  intro a b w r va vb K ha hb hr hva hvb h
  refine Tryz.aeP ?_
  unfold Tryz.VE
  have hva0:=hva
  have hvb0:=hvb
  obtain⟨p1,cap1,rfl,_⟩:=hva
  obtain⟨p2,cap2,rfl,_⟩:=hvb
  have S:=St.start hr
  refine S.box λb2 w1 S=>?_
  refine S.box λb3 w2 S=>?_
  have S:StX noX w r w2 [.cell b3 (tyL b p2 cap2) 43,.cell b2 (tyL a p1 cap1) 43]:=S
  refine gg_ ?_
  refine zn (c:=!(a.m == b.m)) (λ_ K2 hK2=>by refine gg_ ?_;exact hK2) ?_
  refine zn (c:=decide (a.st≠b.st)) (λ_ K2 hK2=>by refine gg_ ?_;exact hK2) ?_
  refine zn (c:=decide (a.of.length≠b.of.length)) (λ_ K2 hK2=>?_) ?_
  ·refine gg_ ?_
   rw[show decide ((a.of.length:Int)≠(b.of.length:Int))=decide (a.of.length≠b.of.length)from decide_eq_decide.2 (by omega)]
   exact hK2
  have key:a.k=b.k→a.of.length=b.of.length:=λhk=>by
   rcases zB ha with⟨h1,h2⟩|⟨u,h1,_,h2⟩<;>rcases zB hb with⟨h3,h4⟩|⟨x,h3,_,h4⟩<;>rw [h1,h3]<;>first|rfl|omega
  refine c_b (λhbad=>?_) (λhok=>?_)
  ·have:=h _ S.ext
   rw[XJ]at this
   ·exact this
   ·simp only[Bool.or_eq_true,gdt,ya,Bool.not_true]at hbad⊢
    rcases hbad with(hh|hh)|hh
    ·exact .inl (.inl hh)
    ·exact .inl (.inr hh)
    ·exact .inl (.inl (.inl λhk=>hh (key hk)))
  have hflat:(!(decide (a.k≠b.k) || !(a.m == b.m)||decide (a.st≠b.st) || !ya a.re b.re))=true:=by
   simp only[Bool.or_eq_false_iff]at hok
   rw[hok.1.1.1,hok.1.1.2,hok.1.2];rfl
  have hk:a.k=b.k:=by
   simp only[Bool.or_eq_false_iff,decide_eq_false_iff_not]at hok;omega
  have S:=S.go (Ext.drew _)
  rcases zB ha with⟨ho,hk2⟩|⟨u,ho,hu,hk2⟩
  ·have hl0:a.of.length=0:=by rw[ho];rfl
   rw[JZ ho,hflat]at h
   refine gg_ ?_
   refine yZ (c:=true) (λhb=>?_) λw5 e5=>?_
   ·exfalso;simp[hl0]at hb
   rw[Bool.or_true]
   exact h _ (S.go e5).ext
  ·have hob:∃x,b.of=[x]∧zt s' n x=true:=by
    rcases zB hb with⟨h3,h4⟩|⟨x,h3,h5,h4⟩
    ·omega
    ·exact⟨x,h3,h5⟩
   obtain⟨x,hox,hx⟩:=hob
   have hl1:a.of.length=1:=by rw[ho];rfl
   have hl2:b.of.length=1:=by rw[hox];rfl
   obtain⟨bo,oo,q3,cap3,rfl,hc3,ht3⟩:=Zs hva0 ho
   obtain⟨bx,ox,q4,cap4,rfl,hc4,ht4⟩:=Zs hvb0 hox
   rw[Y8 ho hox,hflat,Bool.true_and]at h
   refine gg_ ?_
   refine yZ (c:=x7 ya n u x) (λ_ K2 hK2=>?_) λw5 e5=>?_
   ·refine gg_ ?_
    refine zo (n:=5) (c:=tyL u q3 cap3) rfl (λj v hj=>by simpa using S.at (ht3 j v hj)) ?_
    refine gg_ ?_
    refine zo (n:=5) (c:=tyL x q4 cap4) rfl (λj v hj=>by simpa using S.at (ht4 j v hj)) ?_
    exact ih hu hx S.holds hc3 hc4 λw6 e6=>hK2 _ e6
   rw[show decide ((a.of.length:Int)=0)=false by rw[hl1];rfl,Bool.false_or]
   exact h _ (S.go e5).ext
def z6:List UInt8:=[84,65,66,76,70,83,78,85,77,69]
def adO(p:PtD):List Bool:=[xR p.to,vh p.a,vh p.b,decide (p.args.length=0),xR p.fr,p.sign.toList == [],decide (p.fn=0),decide (p.st=0),!p.mu,decide (p.el=0)]
def qV(has:List UInt8)(c:Int):Bool:=has.any λx=>decide ((x.toNat:Int)=c)
def thR(p:PtD)(has:List UInt8)(i:Nat):Bool:=qV has (zT z6 i)||(adO p).getD i true
def jI(p:PtD)(has:List UInt8)(n:Nat):Bool:=(List.range n).all (thR p has)
theorem ajI(p:PtD)(has:List UInt8)(n:Nat):jI p has (n+1)=(jI p has n&&thR p has n):=by
 rw[jI,List.range_succ,List.all_append];simp[jI]
theorem alP{p:PtD}{h:ack}{L:List UInt8}(e0:qV L 84=h.to)(e1:qV L 65=h.a)(e2:qV L 66=h.b)(e3:qV L 76=h.args)(e4:qV L 70=h.fr)(e5:qV L 83=h.sign)(e6:qV L 78=h.fn)(e7:qV L 85=h.st)(e8:qV L 77=h.mu)(e9:qV L 69=h.el):jI p L 10=zE p h:=by
 have r10:List.range 10=[0,1,2,3,4,5,6,7,8,9]:=rfl
 have b0:zT z6 0=84:=rfl
 have b1:zT z6 1=65:=rfl
 have b2:zT z6 2=66:=rfl
 have b3:zT z6 3=76:=rfl
 have b4:zT z6 4=70:=rfl
 have b5:zT z6 5=83:=rfl
 have b6:zT z6 6=78:=rfl
 have b7:zT z6 7=85:=rfl
 have b8:zT z6 8=77:=rfl
 have b9:zT z6 9=69:=rfl
 rw[jI,r10]
 simp only[List.all_cons,List.all_nil,Bool.and_true,thR,b0,b1,b2,b3,b4,b5,b6,b7,b8,b9,e0,e1,e2,e3,e4,e5,e6,e7,e8,e9,adO,gdz,gds,zE,jd,id]
 ac_rfl
theorem ahK{p:PtD}{has:List UInt8}{K:Value→World→Prop}(hr:Holds r w)(hp:PtG r c p)(hh:has.length≤100)
  (h:∀w',Ext w w'→K (.bool (jI p has 10)) w'):zd Tryz.prog Tryz.zR #[.agg c.toArray,.string (bs has)] w K:=by
 refine Tryz.agc ?_
 unfold Tryz.aay
 obtain⟨q1,q2,q3,q4,q5,c1,c2,c3,c4,c5,rfl,hp0⟩:=xm hp
 obtain⟨_,_,_,_,_,hE,k1,k2,k3,k4,k5⟩:=hp0
 cases hE
 have S:=St.start hr
 refine S.box λb1 w1 S=>?_
 have S:StX noX w r w1 [.cell b1 (ptL p q1 q2 q3 q4 q5 c1 c2 c3 c4 c5) 96]:=S
 refine zj (ι:=Nat) (λi=>[.bool (jI p has i),.int .i64 (i:Nat)]) (λi w'=>i≤10∧StX noX w r w' [.cell b1 (ptL p q1 q2 q3 q4 q5 c1 c2 c3 c4 c5) 96]) (λi=>10-i) 0 rfl ⟨gzl _,S⟩ ?_
 clear S
 rintro i d w2 ⟨hi,S⟩ K2 hK2
 simp only[gdz,gds]
 refine gg_ ?_
 refine zh (λhlt=>?_) (λhge=>?_)
 rotate_left
 ·have hie:i=10:=by omega
  rw[hie];exact h _ S.ext
 have hlt:i<10:=by omega
 refine zk (λs w'=>s=[.bool (jI p has (i+1))]∧StX noX w r w' [.cell b1 (ptL p q1 q2 q3 q4 q5 c1 c2 c3 c4 c5) 96]) (λK6 hK6=>?_) ?_
 rotate_left
 ·clear S
  rintro _ w3 ⟨rfl,S⟩ d3
  rw[gdz]
  refine gg_ ?_
  rw[show ((i:Int)+1)=((i+1:Nat):Int)by omega]
  exact hK2 (i+1) _ ⟨hlt,S⟩ (by omega)
 have hcl:z6.length=10:=rfl
 show opP Tryz.prog (Instr.index 9 (.string (bs z6)) _) _
 refine gg_ ?_
 rw[tnc]
 refine zj (ι:=Nat) (λk=>[.bool (qV (has.take k) (zT z6 i)),.int .i64 (k:Nat)]) (λk w'=>k≤has.length∧StX noX w r w' [.cell b1 (ptL p q1 q2 q3 q4 q5 c1 c2 c3 c4 c5) 96]) (λk=>has.length-k) 0 rfl ⟨gzl _,S⟩ ?_
 clear S
 rintro k d w4 ⟨hk,S⟩ K10 hK10
 simp only[gdz,gds]
 refine gg_ ?_
 refine zh (λhlt2=>?_) (λhge2=>?_)
 ·have hlt2:k<has.length:=by omega
  have hs:qV (has.take (k+1)) (zT z6 i)=(qV (has.take k) (zT z6 i)||decide (zT has k=zT z6 i)):=by
   rw[qV,List.take_succ_eq_append_getElem hlt2,List.any_append]
   simp only[List.any_cons,List.any_nil,Bool.or_false]
   have :zT has k=(has[k].toNat:Int):=by rw[zT,ggd,gqg hlt2];rfl
   rw[this];rfl
  refine zn (c:=decide (zT has k=zT z6 i)) (λ_ K2 hK2=>?_) ?_
  ·refine gg_ ?_
   rw[tnc]
   exact hK2
  rw[← hs]
  refine gg_ ?_
  rw[show ((k:Int)+1)=((k+1:Nat):Int)by omega]
  exact hK10 (k+1) _ ⟨hlt2,S⟩ (by omega)
 have hke:k=has.length:=by omega
 rw[hke,List.take_length]
 have hth:jI p has (i+1)=(jI p has i&&(qV has (zT z6 i)||(adO p).getD i true)):=ajI p has i
 refine c_b (λhin=>?_) (λhno=>?_)
 ·rw[hin,Bool.true_or,Bool.and_true]at hth
  exact hK6 _ _ ⟨by rw[hth],S⟩
 rw[hno,Bool.false_or]at hth
 clear hno hK10 hge2 hke hk
 have fin:∀{w9:World},Ext w4 w9→K6 [.bool (jI p has i&&(adO p).getD i true)] w9:=λe=>hK6 _ _ ⟨by rw[hth],S.go e⟩
 clear hK6 hth
 have hpto:PlG r [.int .i64 p.to.l,.slice q1 p.to.ps.length c1] p.to:=⟨_,rfl,k1⟩
 have hpfr:PlG r [.int .i64 p.fr.l,.slice q5 p.fr.ps.length c5] p.fr:=⟨_,rfl,k5⟩
 have hoa:OpG r [.int .u8 p.a.k,.int .i64 p.a.n,.int .i64 p.a.pl.l,.slice q2 p.a.pl.ps.length c2] p.a:=⟨_,rfl,k2⟩
 have hob:OpG r [.int .u8 p.b.k,.int .i64 p.b.n,.int .i64 p.b.pl.l,.slice q3 p.b.pl.ps.length c3] p.b:=⟨_,rfl,k3⟩
 have hi10:i=0∨i=1∨i=2∨i=3∨i=4∨i=5∨i=6∨i=7∨i=8∨i=9:=by omega
 rcases hi10 with rfl|rfl|rfl|rfl|rfl|rfl|rfl|rfl|rfl|rfl
 ·rw[show zT z6 0=84 from rfl]
  refine gg_ ?_
  refine c_t (by decide) ?_
  refine zr (c:=xR p.to) (λ_ K9 hK9=>?_) λw9 e9=>fin e9
  refine gg_ ?_
  refine S.ldN (b:=b1) ?_
  exact xP S.holds hpto λw6 e6=>hK9 _ e6
 ·rw[show zT z6 1=65 from rfl]
  iterate 1 (refine gg_ ?_;refine c_f (by decide) ?_)
  refine gg_ ?_
  refine c_t (by decide) ?_
  refine zr (c:=vh p.a) (λ_ K9 hK9=>?_) λw9 e9=>fin e9
  refine gg_ ?_
  refine S.ldN (b:=b1) ?_
  exact ZH S.holds hoa λw6 e6=>hK9 _ e6
 ·rw[show zT z6 2=66 from rfl]
  iterate 2 (refine gg_ ?_;refine c_f (by decide) ?_)
  refine gg_ ?_
  refine c_t (by decide) ?_
  refine zr (c:=vh p.b) (λ_ K9 hK9=>?_) λw9 e9=>fin e9
  refine gg_ ?_
  refine S.ldN (b:=b1) ?_
  exact ZH S.holds hob λw6 e6=>hK9 _ e6
 ·rw[show zT z6 3=76 from rfl]
  iterate 3 (refine gg_ ?_;refine c_f (by decide) ?_)
  refine gg_ ?_
  refine c_t (by decide) ?_
  refine zg (c:=decide (p.args.length=0)) (λ_ K9 hK9=>?_) (fin (Ext.refl _))
  refine gg_ ?_
  rw[decide_eq_decide.2 (qk p.args.length)]
  exact hK9
 ·rw[show zT z6 4=70 from rfl]
  iterate 4 (refine gg_ ?_;refine c_f (by decide) ?_)
  refine gg_ ?_
  refine c_t (by decide) ?_
  refine zr (c:=xR p.fr) (λ_ K9 hK9=>?_) λw9 e9=>fin e9
  refine gg_ ?_
  refine S.ldN (b:=b1) ?_
  exact xP S.holds hpfr λw6 e6=>hK9 _ e6
 ·rw[show zT z6 5=83 from rfl]
  iterate 5 (refine gg_ ?_;refine c_f (by decide) ?_)
  refine gg_ ?_
  refine c_t (by decide) ?_
  refine zg (c:=p.sign.toList == []) (λ_ K9 hK9=>?_) (fin (Ext.refl _))
  refine gg_ ?_
  exact hK9
 ·rw[show zT z6 6=78 from rfl]
  iterate 6 (refine gg_ ?_;refine c_f (by decide) ?_)
  refine gg_ ?_
  refine c_t (by decide) ?_
  refine zg (c:=decide (p.fn=0)) (λ_ K9 hK9=>?_) (fin (Ext.refl _))
  refine gg_ ?_
  exact hK9
 ·rw[show zT z6 7=85 from rfl]
  iterate 7 (refine gg_ ?_;refine c_f (by decide) ?_)
  refine gg_ ?_
  refine c_t (by decide) ?_
  refine zg (c:=decide (p.st=0)) (λ_ K9 hK9=>?_) (fin (Ext.refl _))
  refine gg_ ?_
  exact hK9
 ·rw[show zT z6 8=77 from rfl]
  iterate 8 (refine gg_ ?_;refine c_f (by decide) ?_)
  refine gg_ ?_
  refine c_t (by decide) ?_
  refine zg (c:=!p.mu) (λ_ K9 hK9=>?_) (fin (Ext.refl _))
  refine gg_ ?_
  exact hK9
 ·rw[show zT z6 9=69 from rfl]
  iterate 9 (refine gg_ ?_;refine c_f (by decide) ?_)
  refine gg_ ?_
  refine c_t (by decide) ?_
  refine zg (c:=decide (p.el=0)) (λ_ K9 hK9=>?_) (fin (Ext.refl _))
  refine gg_ ?_
  exact hK9
end
end Go.Proofs
