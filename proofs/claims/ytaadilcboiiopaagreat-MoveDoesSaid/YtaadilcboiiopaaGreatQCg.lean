/-
  Contracts and plain laws that the last text leans on.
-/
import Derived.Test.YtaadilcboiiopaaGreatQCd
import Derived.Test.YtaadilcboiiopaaGreatQCf
import Derived.Maps.RangeRun
import Derived.Shelf.SlSortCmp.WholeK
import Derived.Test.YtaadilcboiiopaaGreatProg
import Derived.KernelRfl
set_option maxRecDepth 100000
set_option maxHeartbeats 8000000
set_option linter.unusedVariables false
set_option linter.unusedSimpArgs false
namespace Go.Proofs
open Go.Sh
section
variable {l:List OpD} {c:List Value} {w:World} {r:Gh} {K:Value→World→Prop} {L:List Asr}
def akU(keep:OpD→Bool)(fv:Value):Prop:=∀{o:OpD}{c:List Value}{w0 w:World}{r:Gh}{L:List Asr}{K:Value→World→Prop},StX noX w0 r w L→OpG r c o→(∀w',StX noX w0 r w' L→K (.bool (!keep o)) w')→zF Tryz.prog fv #[.agg c.toArray] w K
def zV(o:OpD):Bool:=decide (o.k=3)||decide (o.k=4)
def zs(p:PtD):List OpD:=(p.a::p.b::p.args).filter zV
theorem ant:akU zV (.func (.func Tryz.YX) #[] #[]):=fun {o c w0 w r L K} S ho h=>by
 refine aiC (by kernel_rfl) ?_
 refine Tryz.aaq ?_
 unfold Tryz.Y4
 obtain⟨q,k,rfl⟩:=qW ho
 refine S.box λb1 w1 S=>?_
 have S:StX noX w0 r w1 (.cell b1 [.int .u8 o.k,.int .i64 o.n,.int .i64 o.pl.l,.slice q o.pl.ps.length k] 61::L):=S
 refine gg_ ?_
 refine zi (c:=decide (o.k≠4)) (λ_ K2 hK2=>by refine gg_ ?_;exact hK2) ?_
 have:=h _ S.tl
 have e:(!zV o)=(decide (o.k≠3)&&decide (o.k≠4)):=by
  by_cases h3:o.k=3<;>by_cases h4:o.k=4<;>simp [zV,h3,h4]
 rwa[e]at this
theorem ag7{keep:OpD→Bool}{o:OpD}(h:keep o=false):[o].filter keep=[]:=by simp[h]
theorem ajS{keep:OpD→Bool}{o:OpD}(h:keep o=true):[o].filter keep=[o]:=by simp[h]
theorem QU{keep:OpD→Bool}(h:∀o∈l,keep o=true):l.filter keep=l:=List.filter_eq_self.2 h
theorem adE{keep:OpD→Bool}{fv:Value}(hfv:akU keep fv){b n cap:Nat}{w0:World}{K:Value→World→Prop}(S:StX noX w0 r w (.cell b c 61::L))(hn:n=l.length)(hb:n≤1000000)
  (hrow:∀(i:Nat)(hi:i<l.length),OpG r (vy c i) l[i])
  (h:∀(i:Int) w',StX noX w0 r w' (.cell b c 61::L)→(i = -1∧(∀o∈l,keep o=true))∨(∃j:Nat,i=j∧∃hj:j<l.length,keep l[j]=false∧∀o∈l.take j,keep o=true)→K (.int .i64 i) w'):
  zd Tryz.prog Tryz.yk #[.slice (some ⟨b,0,none⟩) n cap,fv] w K:=by
 subst hn
 refine Tryz.kP ?_
 unfold Tryz.y9
 refine gp_ ?_
 refine zh (ι:=Nat) (λi=>[.int .i64 (i:Nat)]) (λi w'=>i≤l.length∧(∀o∈l.take i,keep o=true)∧StX noX w0 r w' (.cell b c 61::L)) (λi=>l.length-i) 0 rfl ⟨gzl _,by simp,S⟩ ?_
 clear S
 rintro i d w' ⟨hi,hno,S⟩ K6 hK6
 rw[gdz]
 refine gp_ ?_
 refine zf (λhlt=>?_) (λhge=>?_)
 ·have hlt:i<l.length:=by omega
  have hr:=hrow i hlt
  refine s_c (by omega) ?_
  rw[show 0+((i:Nat):Int).toNat*4=i*4 by omega]
  refine S.ldN (b:=b) (vs:=vy c i) ?_ rfl (j1 hr)
  refine hfv S hr λw2 S=>?_
  refine c_b (λhk=>?_) (λhk=>?_)
  ·exact h _ _ S (.inr ⟨i,rfl,hlt,by simpa using hk,hno⟩)
  ·refine gp_ ?_
   rw[show ((i:Int)+1)=((i+1:Nat):Int)by omega]
   refine hK6 (i+1) _ ⟨hlt,λo ho=>?_,S⟩ (by omega)
   rw[List.take_succ_eq_append_getElem hlt,List.mem_append]at ho
   rcases ho with ho|ho
   ·exact hno o ho
   ·rw[List.mem_singleton.1 ho];simpa using hk
 ·have hie:i=l.length:=by omega
  rw[hie,List.take_length]at hno
  exact h _ _ S (.inl ⟨rfl,hno⟩)
theorem acw{keep:OpD→Bool}{fv:Value}(hfv:akU keep fv){b n cap:Nat}{w0:World}{K:Value→World→Prop}(S:StX noX w0 r w (.cell b c 61::L))(hn:n=l.length)(hb:n≤1000000)(hnc:n≤cap)(hc:c.length=cap*4)
  (hrow:∀(i:Nat)(hi:i<l.length),OpG r (vy c i) l[i])
  (h:∀c' w',StX noX w0 r w' (.cell b c' 61::L)→c'.length=cap*4→RowOf 4 (OpG r) (c'.take ((l.filter keep).length*4)) (l.filter keep)→K (.slice (some ⟨b,0,none⟩) (l.filter keep).length cap) w'):
  zd Tryz.prog Tryz.yi #[.slice (some ⟨b,0,none⟩) n cap,fv] w K:=by
 subst hn
 refine Tryz.kM ?_
 unfold Tryz.yX
 have hrow0:∀k,k≤l.length→RowOf 4 (OpG r) (c.take (k*4)) (l.take k):=λk hk=>⟨by rw[List.length_take,List.length_take];omega,λi hi=>by
  rw[List.length_take]at hi
  rw[List.getElem_take,List.drop_take,List.take_take,Nat.min_eq_left (by omega)]
  exact hrow i (by omega)⟩
 refine adE hfv S rfl hb hrow λi0 w1 S hi0=>?_
 refine gp_ ?_
 rcases hi0 with⟨rfl,hall⟩|⟨j,rfl,hj,hjk,hbef⟩
 ·refine c_t (by decide) ?_
  have:=h c w1 S hc (by rw[QU hall];have:=hrow0 l.length (Nat.le_refl _);rwa[List.take_length]at this)
  rw[QU hall]at this
  exact this
 refine c_f (decide_eq_false (by omega)) ?_
 refine gp_ ?_
 have hf0:(l.take j).filter keep=l.take j:=QU hbef
 have hf1:(l.take (j+1)).filter keep=l.take j:=by
  rw[List.take_succ_eq_append_getElem hj,List.filter_append,hf0,ag7 hjk,List.append_nil]
 refine zh (ι:=Nat×Nat×List Value) (λi=>[.int .i64 (i.1:Nat),.int .i64 (i.2.1:Nat)]) (λi w'=>i.1<i.2.1∧i.2.1≤l.length∧i.1=((l.take i.2.1).filter keep).length∧i.2.2.length=cap*4∧RowOf 4 (OpG r) (i.2.2.take (i.1*4)) ((l.take i.2.1).filter keep)∧
  (∀(m:Nat)(hm:m<l.length),i.2.1≤m→OpG r (vy i.2.2 m) l[m])∧StX noX w0 r w' (.cell b i.2.2 61::L)) (λi=>l.length-i.2.1) (j,j+1,c) (by simp) ⟨by simp,hj,by rw[hf1,List.length_take];omega,hc,by rw[hf1];exact hrow0 j (by omega),λm hm _=>hrow m hm,S⟩ ?_
 clear S
 rintro⟨i,k,c1⟩ d w2 ⟨hik,hk,hie,hc1,hr1,hrest,S⟩ K2 hK2
 simp only at hik hk hie hc1 hr1 hrest S⊢
 simp only[gdz,gds]
 refine gp_ ?_
 refine gp_ ?_
 refine zf (λhlt=>?_) (λhge=>?_)
 ·have hlt:k<l.length:=by omega
  have hrk:=hrest k hlt (Nat.le_refl _)
  have hs:l.take (k+1)=l.take k++[l[k]]:=List.take_succ_eq_append_getElem hlt
  refine zn (λs w'=>∃i' c',s=[.int .i64 (i':Nat)]∧i'<k+1∧i'=((l.take (k+1)).filter keep).length∧c'.length=cap*4∧RowOf 4 (OpG r) (c'.take (i'*4)) ((l.take (k+1)).filter keep)∧
   (∀(m:Nat)(hm:m<l.length),k+1≤m→OpG r (vy c' m) l[m])∧StX noX w0 r w' (.cell b c' 61::L)) (λK6 hK6=>?_) ?_
  rotate_left
  ·rintro _ w3 ⟨i',c',rfl,g1,g2,g3,g4,g5,S⟩ d3
   rw[gdz]
   refine gp_ ?_
   rw[show ((k:Int)+1)=((k+1:Nat):Int)by omega]
   exact hK2 (i',k+1,c') _ ⟨g1,hlt,g2,g3,g4,g5,S⟩ (by show l.length-(k+1)<l.length-k;omega)
  refine s_c (by omega) ?_
  rw[show 0+((k:Nat):Int).toNat*4=k*4 by omega]
  refine S.ldN (b:=b) (vs:=vy c1 k) ?_ rfl (j1 hrk)
  refine S.al λb7 w3 S=>?_
  refine S.stB (b:=b7) (cs:=(vy c1 k).toArray) (λw4 S=>?_) rfl (by simpa using j1 hrk) (by simpa using aa0 hrk)
  have S:StX noX w0 r w4 (.cell b7 (vy c1 k) 61::.cell b c1 61::L):=S
  refine S.ldB (b:=b7) ?_ (j1 hrk)
  refine hfv S hrk λw5 S=>?_
  refine gp_ ?_
  cases hk0:keep l[k]
  ·refine c_f rfl ?_
   have hfe:(l.take (k+1)).filter keep=(l.take k).filter keep:=by
    rw[hs,List.filter_append,ag7 hk0,List.append_nil]
   refine hK6 _ _ ⟨i,c1,rfl,by omega,by rw[hfe];exact hie,hc1,by rw[hfe];exact hr1,λm hm hkm=>hrest m hm (by omega),S.tl⟩
  ·refine c_t rfl ?_
   have hfe:(l.take (k+1)).filter keep=(l.take k).filter keep++[l[k]]:=by
    rw[hs,List.filter_append,ajS hk0]
   refine S.ldB (b:=b7) ?_ (j1 hrk)
   refine s_c (by omega) ?_
   rw[show 0+((i:Nat):Int).toNat*4=i*4 by omega]
   refine S.stN (b:=b) (cs:=(vy c1 k).toArray) (λw6 S=>?_) (by omega) (by simpa using j1 hrk) (by simpa using aa0 hrk)
   have S:StX noX w0 r w6 (.cell b7 (vy c1 k) 61::.cell b (c1.take (i*4)++vy c1 k++c1.drop (i*4+4)) 61::L):=S
   refine gp_ ?_
   rw[show ((i:Int)+1)=((i+1:Nat):Int)by omega]
   refine hK6 _ _ ⟨i+1,c1.take (i*4)++vy c1 k++c1.drop (i*4+4),rfl,by omega,by rw[hfe,gla,← hie];rfl,?_,?_,λm hm hkm=>?_,S.tl⟩
   ·rw[gla,gla,List.length_take,List.length_drop,j1 hrk];omega
   ·rw[alC (by omega) (j1 hrk),hfe]
    exact hr1.snoc (j1 hrk) hrk
   ·rw[alB (by omega) (j1 hrk) (by omega)]
    exact hrest m hm (by omega)
 ·have hke:k=l.length:=by omega
  rw[hke,List.take_length]at hie hr1
  refine s_c (by omega) ?_
  rw[if_neg (by omega),Option.map_some,xv,tnc,Nat.zero_add]
  refine S.clr (b:=b) (by
   have e:(List.length [Value.int .u8 0,Value.int .i64 0,Value.int .i64 0,Value.slice none 0 0])=4:=rfl
   rw[e];omega) (by simp[Value.oneCell']) λc2 w3 hc2 ht2 S=>?_
  refine s_c (by omega) ?_
  rw[tnc,hie]
  exact h c2 w3 S (by omega) (by rw[← hie,ht2];exact hr1)
theorem adF{p:PtD}{K:Value→World→Prop}(hr:Holds r w)(hp:PtG r c p)(hb:p.args.length≤1000)
  (h:∀b cap c' w',StX noX w r w' [.cell b c' 61]→c'.length=cap*4→(zs p).length≤cap→RowOf 4 (OpG r) (c'.take ((zs p).length*4)) (zs p)→K (.slice (some ⟨b,0,none⟩) (zs p).length cap) w'):
  zd Tryz.prog Tryz.xI #[.agg c.toArray] w K:=by
 refine Tryz.acq ?_
 unfold Tryz.Qu
 obtain⟨q1,q2,q3,q4,q5,c1,c2,c3,c4,c5,rfl,hp0⟩:=xZ hp
 obtain⟨_,_,_,_,_,hE,k1,k2,k3,k4,k5⟩:=hp0
 cases hE
 have S:=St.start hr
 refine S.box λb1 w1 S=>?_
 have S:StX noX w r w1 [.cell b1 (ptL p q1 q2 q3 q4 q5 c1 c2 c3 c4 c5) 94]:=S
 have hoa:OpG r [.int .u8 p.a.k,.int .i64 p.a.n,.int .i64 p.a.pl.l,.slice q2 p.a.pl.ps.length c2] p.a:=⟨_,rfl,k2⟩
 have hob:OpG r [.int .u8 p.b.k,.int .i64 p.b.n,.int .i64 p.b.pl.l,.slice q3 p.b.pl.ps.length c3] p.b:=⟨_,rfl,k3⟩
 refine gg_ ?_
 refine S.ldN (b:=b1) ?_
 refine gg_ ?_
 refine S.ldN (b:=b1) ?_
 refine S.lit (e:=61) (cs:=[.int .u8 p.a.k,.int .i64 p.a.n,.int .i64 p.a.pl.l,.slice q2 p.a.pl.ps.length c2]++[.int .u8 p.b.k,.int .i64 p.b.n,.int .i64 p.b.pl.l,.slice q3 p.b.pl.ps.length c3]) (by kernel_rfl) λb8 w2 S=>?_
 have S:=S.cellRow (n:=2) (cap:=2) (sz:=4) (Nat.le_refl _) rfl (by simp[maxLen])
 obtain⟨xs,hxr,hxs⟩:=vU (by decide) k4.sl
 obtain⟨_,_,hE,hq4,_⟩:=k4.sl.shape
 cases hE
 refine gg_ ?_
 refine S.ap (v:=.slice (some ⟨b8,0,none⟩) 2 2) (S.at hxs) (λv3 w3 S=>?_) (by omega) hxr.1 hq4 (xU hxr (by decide) λc x hx=>aa0 hx)
 obtain⟨b9,cap9,c9,rfl,hc9,hcl9,htk9,S⟩:=S.rowCell v3 (by omega)
 have hlen:(p.a::p.b::p.args).length=2+p.args.length:=by simp;omega
 have hrw:RowOf 4 (OpG r) (c9.take ((2+p.args.length)*4)) (p.a::p.b::p.args):=by
  rw[htk9]
  exact xD (c:=[.int .u8 p.a.k,.int .i64 p.a.n,.int .i64 p.a.pl.l,.slice q2 p.a.pl.ps.length c2]) rfl hoa (xD (c:=[.int .u8 p.b.k,.int .i64 p.b.n,.int .i64 p.b.pl.l,.slice q3 p.b.pl.ps.length c3]) rfl hob hxr)
 refine acw ant (l:=p.a::p.b::p.args) (L:=[.cell b1 (ptL p q1 q2 q3 q4 q5 c1 c2 c3 c4 c5) 94]) S hlen.symm (by omega) hc9 hcl9 (λi hi=>?_) λc' w4 S hc' hrow=>?_
 ·have:=hrw.2 i hi
  rw[List.drop_take,List.take_take,Nat.min_eq_left (by omega)]at this
  exact this
 have hle:(zs p).length≤cap9:=by
  have:=List.length_filter_le zV (p.a::p.b::p.args)
  show((p.a::p.b::p.args).filter zV).length≤cap9
  omega
 exact h b9 cap9 c' w4 (S.less (λ_ _ h=>h) (.cons_cons _ (List.nil_sublist _))) hc' hle hrow
end
end Go.Proofs
namespace Go.Sh
open Go.RowKit Go.MapKept
section
abbrev inV(x:Int):Value:=.int .i64 x
def QV(x:Int)(v:Value):List (Int×Value)→List (Int×Value)
 |[]=>[(x,v)]
 |y::M=>if x=y.1 then(x,v)::M else y::QV x v M
theorem ajT{x:Int}{l:List MapEntry}{M:List (Int×Value)}(h:EntsI l M):∀{i:Nat},
  (Instr.findNow (.int .i64) (inV x) l i=some none∧M.lookup x=none∧∀v,QV x v M=M++[(x,v)])∨
  ∃j v0,Instr.findNow (.int .i64) (inV x) l i=some (some (i+j,v0))∧M.lookup x=some v0∧(∃m,l[j]? = some m∧m.key=inV x)∧∀v,EntsI (l.modify j λe=>{ e with val:=v }) (QV x v M):=by
 induction h with
 |nil=>intro i;exact .inl ⟨rfl,rfl,λv=>rfl⟩
 |@cons m y l M hm h ih=>
  intro i
  obtain⟨hkey,hv⟩:=hm
  obtain⟨y1,y2⟩:=y
  simp only at hkey hv
  by_cases hx:x=y1
  ·subst hx
   refine .inr ⟨0,m.val,?_,?_,⟨m,rfl,hkey⟩,λv=>?_⟩
   ·rw[Instr.findNow,hkey];simp[Instr.sameNow]
   ·rw[List.lookup_cons,show (x == x)=true by simp,hv]
   ·rw[QV,if_pos rfl]
    exact .cons ⟨hkey,rfl⟩ h
  ·have hb:(x == y1)=false:=by simpa using hx
   rcases ih (i:=i+1)with⟨h1,h2,h3⟩|⟨j,v0,h1,h2,h3,h4⟩
   ·refine .inl ⟨?_,?_,λv=>?_⟩
    ·rw[Instr.findNow,hkey];simp[Instr.sameNow,hb,h1]
    ·rw[List.lookup_cons,hb];exact h2
    ·rw[QV,if_neg hx,h3];rfl
   ·refine .inr ⟨j+1,v0,?_,?_,?_,λv=>?_⟩
    ·rw[Instr.findNow,hkey];simp[Instr.sameNow,hb,h1,Nat.add_assoc,Nat.add_comm 1 j]
    ·rw[List.lookup_cons,hb];exact h2
    ·simpa using h3
    ·rw[QV,if_neg hx]
     exact .cons ⟨hkey,hv⟩ (h4 v)
def jd(M:List (Int×Value))(o:Obj):Prop:=∃es c,o=.map es c∧EntsI es.toList M∧Born es.toList c
section
variable {P:Program} {X:Nat→Prop} {w0 w:World} {r:Gh} {L:List Asr} {t k e:TypeId} {b:Nat} {M:List (Int×Value)} {f:Asr→List Asr}
theorem StX.mkMapJ(S:StX X w0 r w L){K:Value→World→Prop}(h:∀b w',StX X w0 r w' (.obj b (jd [])::L)→K (.map (some b)) w'):opW P w (Instr.makeMap t none) K:=
 S.mkMap λb w' S'=>h b w' ⟨S'.x,S'.holds,λx hx=>by
  rcases List.mem_cons.1 hx with rfl|hx
  ·obtain⟨o,h1,h2,rfl⟩:=S'.has _ List.mem_cons_self
   exact⟨_,h1,h2,_,_,rfl,.nil,.nil⟩
  ·exact S'.has x (List.mem_cons_of_mem _ hx),λx hx=>by
  rcases List.mem_cons.1 hx with rfl|hx
  ·exact S'.mine (.obj b (· = .map #[] 0)) List.mem_cons_self
  ·exact S'.mine x (List.mem_cons_of_mem _ hx),by
  have:=S'.apart
  rw[List.pairwise_cons]at this⊢
  exact this⟩
theorem aiS{P:Program}{w:World}(x:Int):(Instr.keyThatStays (inV x) (inV x)).run P w=.ok (inV x) w:=by
 have e:Instr.sameBits 10000 (inV x) (inV x)=true:=by simp[Instr.sameBits]
 simp[Instr.keyThatStays,e,Sem.run,pure]
theorem StX.mapGetJ(S:StX X w0 r w L){x:Int}{z:Value}[h0:km b L (jd M) f](ht:mpI P t=some (k,e))(hz:zr1 P e=some z){K:Value→Prop}(h:K ((M.lookup x).getD z)):
  opQ P w (Instr.lookup t (.map (some b)) (inV x) false) K:=by
 obtain⟨ht,hk⟩:=J2 ht
 obtain⟨p,q,e1,e2⟩:=h0.h
 obtain⟨o,hb,_,es,c,rfl,hE,_⟩:=S.has (.obj b (jd M)) (by rw[e1];simp)
 obtain⟨o,h1,h2⟩:=ajR (x:=x) (kd:=.i64) hE (i:=0)
 refine⟨_,λw' ex=>?_,h⟩
 have hb':w'.heap[b]? = some (.map es c):=(ex.block b (Array.getElem?_eq_some_iff.1 hb).1).trans hb
 have hf:=run_findKey (w:=w') hk h1
 rw[← h2]
 cases o with
 |none=>simp [Instr.lookup,run_underlying ht,MapKept.run_getObj_map hb',run_checkKey (w:=w') hk (k:=inV x) rfl _ 9999,hf,ae4 hz,Result.andThen]
 |some y=>simp [Instr.lookup,run_underlying ht,MapKept.run_getObj_map hb',run_checkKey (w:=w') hk (k:=inV x) rfl _ 9999,hf,Result.andThen]
theorem StX.objK{Q:Obj→Prop}(S:StX X w0 r w L)(b:Nat)[h0:km b L Q f]:∃o,Q o∧StX X w0 r w (f (.obj b (· = o))):=by
 obtain⟨p,q,e1,e2⟩:=h0.h
 obtain⟨o,hb,hn,hQ⟩:=S.has (.obj b Q) (by rw[e1];simp)
 refine⟨o,hQ,?_⟩
 rw[e2]
 rw[e1]at S
 exact S.turn (x:=.obj b Q) (y:=.obj b (· = o)) (.refl _ _) ⟨o,hb,hn,rfl⟩ λk hk=>.inl hk
theorem StX.objW{Q Q':Obj→Prop}(S:StX X w0 r w L)(b:Nat)[h0:km b L Q f](h:∀o,Q o→Q' o):StX X w0 r w (f (.obj b Q')):=by
 obtain⟨p,q,e1,e2⟩:=h0.h
 obtain⟨o,hb,hn,hQ⟩:=S.has (.obj b Q) (by rw[e1];simp)
 rw[e2]
 rw[e1]at S
 exact S.turn (x:=.obj b Q) (y:=.obj b Q') (.refl _ _) ⟨o,hb,hn,h o hQ⟩ λk hk=>.inl hk
variable {es:Array MapEntry} {c c0:Nat} {seen:Array Nat}
theorem StX.rangeJ(S:StX X w0 r w L)[h0:km b L (· = .map es c) f](ht:mpI P t=some (k,e)){K:Value→World→Prop}
  (h:∀bi w',StX X w0 r w' (.obj bi (· = .mapIter (some b) c #[] c)::L)→K (.pointer (some ⟨bi,0,none⟩)) w'):opW P w (Instr.range t (.map (some b))) K:=by
 obtain⟨ht,_⟩:=J2 ht
 obtain⟨p,q,e1,_⟩:=h0.h
 obtain⟨o,hb,_,rfl⟩:=S.has (.obj b (· = .map es c)) (by rw[e1];simp)
 refine⟨.pointer (some ⟨w.heap.size,0,none⟩),{ w with heap:=w.heap.push (.mapIter (some b) c #[] c) },run_range_map w t k e b es c ht hb,h _ _ (S.addO ?_ (Nat.le_refl _) ?_ rfl)⟩
 ·exact⟨rfl,rfl,rfl,by simp,λb hb=>by simp[Array.getElem?_push,Nat.ne_of_lt hb]⟩
 ·simp
theorem StX.nextJ{bi:Nat}{f':Asr→List Asr}{ty:TypeId}(S:StX X w0 r w L)[h0:km b L (· = .map es c) f][h1:km bi L (· = .mapIter (some b) c seen c0) f'](hB:Born es.toList c)(hc:c≤c0){K:Value→World→Prop}
  (k0:(∀m∈es.toList,seen.contains m.born=true)→K (.tuple #[.bool false]) w)
  (k1:∀m∈es.toList,seen.contains m.born=false→∀w',StX X w0 r w' (f' (.obj bi (· = .mapIter (some b) c (seen.push m.born) c)))→K (.tuple #[.bool true,m.key,m.val]) w'):
  opW P w (Instr.next (.pointer (some ⟨bi,0,none⟩)) false ty) K:=by
 obtain⟨p,q,e1,_⟩:=h0.h
 obtain⟨o,hb,_,rfl⟩:=S.has (.obj b (· = .map es c)) (by rw[e1];simp)
 obtain⟨p',q',e3,e4⟩:=h1.h
 obtain⟨o,hi,_,rfl⟩:=S.has (.obj bi (· = .mapIter (some b) c seen c0)) (by rw[e3];simp)
 rcases run_next_at (P:=P) w ty bi b c c0 seen es c hi hb hB.2 hc with⟨h2,h3⟩|⟨m,hm,w1,hw,h3⟩
 ·refine⟨_,_,h3,k0 λm hm=>?_⟩
  cases hs:seen.contains m.born with
  |true=>rfl
  |false=>
   have :m∈leftOf es seen:=by
    unfold leftOf
    rw[Array.mem_filter]
    exact⟨by simpa using hm,by rw[hs];rfl⟩
   rw[Array.size_eq_zero_iff]at h2
   rw[h2]at this
   exact absurd this (by simp)
 ·have hm2:m∈es.toList∧seen.contains m.born=false:=by
   have hm:m∈leftOf es seen:=by simpa using hm
   unfold leftOf at hm
   rw[Array.mem_filter]at hm
   exact⟨by simpa using hm.1,by simpa using hm.2⟩
  refine⟨_,_,h3,k1 m hm2.1 hm2.2 _ ?_⟩
  have hS:StX X w0 r w1 L:=by
   rcases hw with rfl|rfl
   ·exact S
   ·exact S.go (Ext.drew _)
  have hi1:w1.heap[bi]? = some (.mapIter (some b) c seen c0):=by
   rcases hw with rfl|rfl
   ·exact hi
   ·exact hi
  obtain⟨a1,a2⟩:=heap_set hi1 (o':=.mapIter (some b) c (seen.push m.born) c)
  rw[e4]
  rw[e3]at hS
  exact hS.turn (x:=.obj bi (· = .mapIter (some b) c seen c0)) (y:=.obj bi (· = .mapIter (some b) c (seen.push m.born) c)) ⟨rfl,rfl,rfl,by simp[ChangeMaps.setBlock],λk _ hk=>a2 k hk⟩ ⟨_,a1,rfl,rfl⟩ λk hk=>.inl hk
theorem StX.entryJ{bi:Nat}{f':Asr→List Asr}{m:MapEntry}(S:StX X w0 r w L)[h0:km b L (· = .map es c) f][h1:km bi L (· = .mapIter (some b) c (seen.push m.born) c) f'](hB:Born es.toList c)(hm:m∈es.toList){K:Value→World→Prop}
  (h:K (.tuple #[m.key,m.val]) w):opW P w (Instr.entry (.pointer (some ⟨bi,0,none⟩))) K:=by
 obtain⟨p,q,e1,_⟩:=h0.h
 obtain⟨o,hb,_,rfl⟩:=S.has (.obj b (· = .map es c)) (by rw[e1];simp)
 obtain⟨p',q',e3,e4⟩:=h1.h
 obtain⟨o,hi,_,rfl⟩:=S.has (.obj bi (· = .mapIter (some b) c (seen.push m.born) c)) (by rw[e3];simp)
 exact⟨_,_,run_entry_at w bi b c seen es c m hi hb hm (List.pairwise_map.2 (hB.1.imp λh=>Nat.ne_of_lt h)),h⟩
theorem StX.mapSetJ(S:StX X w0 r w L){x:Int}{v:Value}[h0:km b L (jd M) f](ht:mpI P t=some (k,e)){K:World→Prop}
  (h:∀w',StX X w0 r w' (f (.obj b (jd (QV x v M))))→K w'):opU P w (Instr.mapUpdate t (.map (some b)) (inV x) v) K:=by
 obtain⟨ht,hk⟩:=J2 ht
 obtain⟨p,q,e1,e2⟩:=h0.h
 obtain⟨o,hb,_,es,c,rfl,hE,hB⟩:=S.has (.obj b (jd M)) (by rw[e1];simp)
 rcases ajT (x:=x) hE (i:=0)with⟨h1,h2,h3⟩|⟨j,v0,h1,h2,⟨m,h3,h5⟩,h4⟩
 ·have hf:=run_findKey (w:=w) hk h1
  refine⟨{ w with heap:=w.heap.setIfInBounds b (.map (es.push { key:=inV x,val:=v,born:=c }) (c+1)) },?_,h _ ?_⟩
  ·simp[Instr.mapUpdate,run_underlying ht,MapKept.run_getObj_map hb,run_checkKey (w:=w) hk (k:=inV x) rfl false 9999,hf,MapKept.run_setObj_map _ hb,Result.andThen]
  ·obtain⟨a1,a2⟩:=heap_set hb (o':=.map (es.push { key:=inV x,val:=v,born:=c }) (c+1))
   rw[e2]
   rw[e1]at S
   exact S.turn (x:=.obj b (jd M)) (y:=.obj b (jd (QV x v M))) ⟨rfl,rfl,rfl,by simp,λk _ hk=>a2 k hk⟩ ⟨_,a1,rfl,_,_,rfl,by rw[Array.toList_push,h3];exact hE.snoc ⟨rfl,rfl⟩,by rw[Array.toList_push];exact hB.push⟩ λk hk=>.inl hk
 ·rw[Nat.zero_add]at h1
  have hf:=run_findKey (w:=w) hk h1
  have hj:es[j]? = some m:=by rw[← Array.getElem?_toList];exact h3
  have hkey:((es[j]?).map (·.key)).getD (inV x)=inV x:=by rw[hj];exact h5
  have hmod:(es.modify j λe=>{ e with key:=inV x,val:=v })=es.modify j λe=>{ e with val:=v }:=by
   apply Array.ext'
   rw[Array.toList_modify,Array.toList_modify]
   refine List.ext_getElem (by simp) λi h1 h2=>?_
   rw[List.getElem_modify,List.getElem_modify]
   split
   ·rename_i hji
    subst hji
    obtain⟨hlt,rfl⟩:=List.getElem?_eq_some_iff.1 h3
    rw[h5]
   ·rfl
  refine⟨{ w with heap:=w.heap.setIfInBounds b (.map (es.modify j λe=>{ e with val:=v }) c) },?_,h _ ?_⟩
  ·simp[Instr.mapUpdate,run_underlying ht,MapKept.run_getObj_map hb,run_checkKey (w:=w) hk (k:=inV x) rfl false 9999,hf,hkey,aiS,hmod,MapKept.run_setObj_map _ hb,Result.andThen]
  ·obtain⟨a1,a2⟩:=heap_set hb (o':=.map (es.modify j λe=>{ e with val:=v }) c)
   rw[e2]
   rw[e1]at S
   exact S.turn (x:=.obj b (jd M)) (y:=.obj b (jd (QV x v M))) ⟨rfl,rfl,rfl,by simp,λk _ hk=>a2 k hk⟩ ⟨_,a1,rfl,_,_,rfl,by rw[Array.toList_modify];exact h4 v,by rw[Array.toList_modify];exact hB.mod λ_=>rfl⟩ λk hk=>.inl hk
def QW(x:Int):List (Int×Value)→List (Int×Value)
 |[]=>[]
 |y::M=>if x=y.1 then M else y::QW x M
theorem ajU{x:Int}{l:List MapEntry}{M:List (Int×Value)}(h:EntsI l M):∀{i:Nat},
  (Instr.findNow (.int .i64) (inV x) l i=some none∧QW x M=M)∨∃j v0,Instr.findNow (.int .i64) (inV x) l i=some (some (i+j,v0))∧EntsI (l.eraseIdx j) (QW x M):=by
 induction h with
 |nil=>intro i;exact .inl ⟨rfl,rfl⟩
 |@cons m y l M hm h ih=>
  intro i
  obtain⟨hkey,hv⟩:=hm
  obtain⟨y1,y2⟩:=y
  simp only at hkey hv
  by_cases hx:x=y1
  ·subst hx
   refine .inr ⟨0,m.val,?_,?_⟩
   ·rw[Instr.findNow,hkey];simp[Instr.sameNow]
   ·rw[QW,if_pos rfl];exact h
  ·have hb:(x == y1)=false:=by simpa using hx
   rcases ih (i:=i+1)with⟨h1,h2⟩|⟨j,v0,h1,h2⟩
   ·refine .inl ⟨?_,?_⟩
    ·rw[Instr.findNow,hkey];simp[Instr.sameNow,hb,h1]
    ·rw[QW,if_neg hx,h2]
   ·refine .inr ⟨j+1,v0,?_,?_⟩
    ·rw[Instr.findNow,hkey];simp[Instr.sameNow,hb,h1,Nat.add_assoc,Nat.add_comm 1 j]
    ·rw[QW,if_neg hx]
     exact .cons ⟨hkey,hv⟩ h2
theorem Born.erase{l:List MapEntry}{c j:Nat}(h:Born l c):Born (l.eraseIdx j) c:=
 ⟨h.1.sublist (List.eraseIdx_sublist ..),λm hm=>h.2 m ((List.eraseIdx_sublist ..).subset hm)⟩
theorem StX.delJ{ty:TypeId}(S:StX X w0 r w L){x:Int}[h0:km b L (jd M) f](ht:mpI P t=some (k,e)){K:Value→World→Prop}
  (h:∀w',StX X w0 r w' (f (.obj b (jd (QW x M))))→K (.tuple #[]) w'):opW P w (Builtin.delete_ #[t,k] ty #[.map (some b),inV x]) K:=by
 obtain⟨ht,hk⟩:=J2 ht
 obtain⟨p,q,e1,e2⟩:=h0.h
 obtain⟨o,hb,_,es,c,rfl,hE,hB⟩:=S.has (.obj b (jd M)) (by rw[e1];simp)
 rcases ajU (x:=x) hE (i:=0)with⟨h1,h2⟩|⟨j,v0,h1,h2⟩
 ·have hf:=run_findKey (w:=w) hk h1
  refine⟨.tuple #[],{ w with heap:=w.heap.setIfInBounds b (.map es c) },?_,h _ ?_⟩
  ·simp[Builtin.delete_,run_underlying ht,MapKept.run_getObj_map hb,run_checkKey (w:=w) hk (k:=inV x) rfl _ 9999,hf,MapKept.run_setObj_map _ hb,Result.andThen]
  ·obtain⟨a1,a2⟩:=heap_set hb (o':=.map es c)
   rw[e2]
   rw[e1]at S
   exact S.turn (x:=.obj b (jd M)) (y:=.obj b (jd (QW x M))) ⟨rfl,rfl,rfl,by simp,λk _ hk=>a2 k hk⟩ ⟨_,a1,rfl,_,_,rfl,by rw[h2];exact hE,hB⟩ λk hk=>.inl hk
 ·rw[Nat.zero_add]at h1
  have hf:=run_findKey (w:=w) hk h1
  refine⟨.tuple #[],{ w with heap:=w.heap.setIfInBounds b (.map (es.eraseIdxIfInBounds j) c) },?_,h _ ?_⟩
  ·simp[Builtin.delete_,run_underlying ht,MapKept.run_getObj_map hb,run_checkKey (w:=w) hk (k:=inV x) rfl _ 9999,hf,MapKept.run_setObj_map _ hb,Result.andThen]
  ·obtain⟨a1,a2⟩:=heap_set hb (o':=.map (es.eraseIdxIfInBounds j) c)
   have el:(es.eraseIdxIfInBounds j).toList=es.toList.eraseIdx j:=by simp
   rw[e2]
   rw[e1]at S
   exact S.turn (x:=.obj b (jd M)) (y:=.obj b (jd (QW x M))) ⟨rfl,rfl,rfl,by simp,λk _ hk=>a2 k hk⟩ ⟨_,a1,rfl,_,_,rfl,by rw[el];exact h2,by rw[el];exact hB.erase⟩ λk hk=>.inl hk
end
end
end Go.Sh
namespace Go.Proofs
open Go.Sh Go.RowKit
section
abbrev yx:=List (Int×Int)
def cnV(M:yx):List (Int×Value):=M.map λx=>(x.1,Value.int .i64 x.2)
def vA(x v:Int):yx→yx
 |[]=>[(x,v)]
 |y::M=>if x=y.1 then(x,v)::M else y::vA x v M
def ZC(x:Int):yx→yx
 |[]=>[]
 |y::M=>if x=y.1 then M else y::ZC x M
def cnt(M:yx)(x:Int):Int:=(M.lookup x).getD 0
theorem ah5{x v:Int}:∀{M:yx},QV x (.int .i64 v) (cnV M)=cnV (vA x v M)
 |[]=>rfl
 |y::M=>by
  have ih:=ah5 (x:=x) (v:=v) (M:=M)
  rw[vA]
  show(if x=y.1 then _ else _)=_
  by_cases h:x=y.1
  ·rw[if_pos h,if_pos h];rfl
  ·rw[if_neg h,if_neg h];exact congrArg _ ih
theorem ah6{x:Int}:∀{M:yx},QW x (cnV M)=cnV (ZC x M)
 |[]=>rfl
 |y::M=>by
  have ih:=ah6 (x:=x) (M:=M)
  rw[ZC]
  show(if x=y.1 then _ else _)=_
  by_cases h:x=y.1
  ·rw[if_pos h,if_pos h];rfl
  ·rw[if_neg h,if_neg h];exact congrArg _ ih
theorem aes{x:Int}:∀{M:yx},(((cnV M).lookup x).getD (.int .i64 0))=.int .i64 (cnt M x)
 |[]=>rfl
 |y::M=>by
  have ih:=aes (x:=x) (M:=M)
  show(((y.1,Value.int .i64 y.2)::cnV M).lookup x).getD _=_
  rw[cnt,List.lookup_cons,List.lookup_cons]
  cases x == y.1 with
  |true=>rfl
  |false=>exact ih
theorem J7{x v:Int}:∀{M:yx},∀z,z∈(vA x v M).map (·.1)↔z=x∨z∈M.map (·.1)
 |[],z=>by simp[vA]
 |y::M,z=>by
  rw[vA]
  by_cases h:x=y.1
  ·rw[if_pos h];subst h;simp
  ·rw[if_neg h,List.map_cons,List.mem_cons,J7,List.map_cons,List.mem_cons]
   exact⟨λhh=>hh.elim (λe=>.inr (.inl e)) λhh=>hh.elim .inl λe=>.inr (.inr e),λhh=>hh.elim (λe=>.inr (.inl e)) λhh=>hh.elim .inl λe=>.inr (.inr e)⟩
theorem ae9{x v:Int}:∀{M:yx},(M.map (·.1)).Nodup→((vA x v M).map (·.1)).Nodup
 |[],_=>by simp[vA]
 |y::M,h=>by
  rw[List.map_cons,List.nodup_cons]at h
  rw[vA]
  by_cases hx:x=y.1
  ·rw[if_pos hx];subst hx
   rw[List.map_cons,List.nodup_cons];exact h
  ·rw[if_neg hx,List.map_cons,List.nodup_cons]
   refine⟨λhm=>?_,ae9 h.2⟩
   rcases(J7 _).1 hm with e|e
   ·exact hx e.symm
   ·exact h.1 e
theorem J8{x:Int}:∀{M:yx},(M.map (·.1)).Nodup→∀z,z∈(ZC x M).map (·.1)↔z≠x∧z∈M.map (·.1)
 |[],_,z=>by simp[ZC]
 |y::M,h,z=>by
  rw[List.map_cons,List.nodup_cons]at h
  rw[ZC]
  by_cases hx:x=y.1
  ·rw[if_pos hx,List.map_cons,List.mem_cons]
   subst hx
   exact⟨λhz=>⟨λe=>h.1 (e▸hz),.inr hz⟩,λhz=>hz.2.resolve_left hz.1⟩
  ·rw[if_neg hx,List.map_cons,List.mem_cons,J8 h.2,List.map_cons,List.mem_cons]
   exact⟨λhh=>hh.elim (λe=>⟨λe2=>hx (e2.symm.trans e),.inl e⟩) λhh=>⟨hh.1,.inr hh.2⟩,λhh=>hh.2.elim .inl λe=>.inr ⟨hh.1,e⟩⟩
theorem afa{x:Int}:∀{M:yx},(M.map (·.1)).Nodup→((ZC x M).map (·.1)).Nodup
 |[],_=>by simp[ZC]
 |y::M,h=>by
  have h0:=h
  rw[List.map_cons,List.nodup_cons]at h
  rw[ZC]
  by_cases hx:x=y.1
  ·rw[if_pos hx];exact h.2
  ·rw[if_neg hx,List.map_cons,List.nodup_cons]
   exact⟨λhm=>h.1 ((J8 h.2 _).1 hm).2,afa h.2⟩
theorem ag8{l m:List Int}(hl:l.Nodup)(hm:m.Nodup)(h:∀x,x∈l↔x∈m):xM l=xM m:=by
 have key:∀l:List Int,l.Nodup→(xM l).Pairwise (· < ·):=λl hl=>by
  have h1:=List.pairwise_mergeSort (le:=λx y:Int=>decide (x≤y)) (by intro a b c h1 h2;simp only[gdt]at *;omega) (by intro a b;simp only[Bool.or_eq_true,gdt];omega) l
  have h2:(xM l).Nodup:=(List.mergeSort_perm l _).nodup_iff.2 hl
  refine(List.pairwise_and_iff.2 ⟨h1,h2⟩).imp λh=>?_
  have h3:=h.1;have h4:=h.2
  simp only[gdt]at h3
  omega
 exact adu (key l hl) (key m hm) λx=>by rw[xM,xM,List.mem_mergeSort,List.mem_mergeSort];exact h x
def xc(m:MapEntry):Int:=match m.key with|.int .i64 x=>x|_=>0
theorem ag9{l:List MapEntry}{M:yx}(h:EntsI l (cnV M)):l.map xc=M.map (·.1)∧∀m∈l,m.key=.int .i64 (xc m):=by
 induction l generalizing M with
 |nil=>
  cases M with
  |nil=>exact ⟨rfl,λm hm=>by cases hm⟩
  |cons y M=>cases h
 |cons m l ih=>
  cases M with
  |nil=>cases h
  |cons y M=>
   cases h with
   |cons hm h=>
    obtain⟨h1,h2⟩:=ih h
    have hk:m.key=.int .i64 y.1:=hm.1
    have hn:xc m=y.1:=by rw[xc,hk]
    refine⟨by rw[List.map_cons,List.map_cons,h1,hn],λz hz=>?_⟩
    rcases List.mem_cons.1 hz with rfl|hz
    ·rw[hn];exact hk
    ·exact h2 z hz
theorem Jz{α β:Type}{f:α→β}:∀{l:List α},(l.map f).Nodup→∀{a b:α},a∈l→b∈l→f a=f b→a=b
 |[],_,a,b,ha,_,_=>by cases ha
 |x::l,h,a,b,ha,hb,he=>by
  rw[List.map_cons,List.nodup_cons]at h
  rcases List.mem_cons.1 ha with e1|h1
  ·rcases List.mem_cons.1 hb with e2|h2
   ·rw[e1,e2]
   ·exact absurd (by rw[← e1,he];exact List.mem_map_of_mem h2) h.1
  ·rcases List.mem_cons.1 hb with e2|h2
   ·exact absurd (by rw[← e2,← he];exact List.mem_map_of_mem h1) h.1
   ·exact Jz h.2 h1 h2 he
theorem aaF:∀{a b:List Int},a.Nodup→(∀x∈a,x∈b)→a.length≤b.length
 |[],b,_,_=>gzl _
 |x::a,b,hn,hs=>by
  have hn':=List.nodup_cons.1 hn
  have hx:=hs x List.mem_cons_self
  have:=aaF (a:=a) (b:=b.erase x) hn'.2 λy hy=>by
   have hne:y≠x:=λe=>hn'.1 (e▸hy)
   exact(List.mem_erase_of_ne hne).2 (hs y (List.mem_cons_of_mem _ hy))
  rw[List.length_erase_of_mem hx]at this
  have hp:0<b.length:=List.length_pos_of_mem hx
  rw[List.length_cons];omega
abbrev zN(M:yx):Obj→Prop:=jd (cnV M)
theorem mpS:mpI Tryz.prog 82=some (3,3):=by kernel_rfl
theorem amv:zr1 Tryz.prog 3=some (.int .i64 0):=by kernel_rfl
section
variable {X:Nat→Prop} {w0 w:World} {r:Gh} {L:List Asr} {b:Nat} {M:yx} {f:Asr→List Asr} {K:Value→World→Prop}
theorem Yz{x:Int}(S:StX X w0 r w L)[h0:km b L (zN M) f](hb: -9223372036854775808≤cnt M x+1∧cnt M x+1≤9223372036854775807)(h:∀w',StX X w0 r w' (f (.obj b (zN (vA x (cnt M x+1) M))))→K (.tuple #[]) w'):
  zd Tryz.prog Tryz.y8 #[.map (some b),.int .i64 x] w K:=by
 refine Tryz.adw ?_
 unfold Tryz.Js
 refine S.mapGetJ mpS amv ?_
 rw[aes]
 refine aiv (by omega) ?_
 refine S.mapSetJ mpS λw1 S=>?_
 rw[ah5]at S
 exact h _ S
theorem adG{x:Int}(S:StX X w0 r w L)[h0:km b L (zN M) f](h:∀w',StX X w0 r w' (f (.obj b (zN (ZC x M))))→K (.tuple #[]) w'):
  zd Tryz.prog Tryz.jj #[.map (some b),.int .i64 x] w K:=by
 refine Tryz.acr ?_
 unfold Tryz.Qv
 refine S.delJ mpS λw1 S=>?_
 rw[ah6]at S
 exact h _ S
theorem aiT(S:StX X w0 r w L)[h0:km b L (zN M) f](hM:(M.map (·.1)).Nodup)(hf:M.length≤1000000)
  (h:∀v w',StX X w0 r w' (.row v 3 1 M.length (ints (xM (M.map (·.1))))::f (.obj b (zN M)))→K v w'):zd Tryz.prog Tryz.yn #[.map (some b)] w K:=by
 refine Tryz.acs ?_
 unfold Tryz.Qw
 obtain⟨o,hQ,S⟩:=S.objK b
 obtain⟨es,c,rfl,hE,hB⟩:=hQ
 obtain⟨hk1,hk2⟩:=ag9 hE
 have hlen:es.toList.length=M.length:=by
  have:=congrArg List.length hk1
  simpa using this
 haveI h1:km b (f (.obj b (· = .map es c))) (· = .map es c) f:=⟨by
  obtain⟨p,q,_,e2⟩:=h0.h
  exact⟨p,q,e2 _,e2⟩⟩
 refine S.rangeJ mpS λbi w1 S=>?_
 have S:=S.ownNil 3 1
 refine zh (ι:=Value×List MapEntry×Array Nat×Nat) (λi=>[i.1]) (λi w'=>(∀m∈i.2.1,m∈es.toList)∧(i.2.1.map xc).Nodup∧c≤i.2.2.2∧(∀n,i.2.2.1.contains n=true↔n∈i.2.1.map (·.born))∧StX X w0 r w' (.row i.1 3 1 i.2.1.length (ints (i.2.1.map xc))::.obj bi (· = .mapIter (some b) c i.2.2.1 i.2.2.2)::f (.obj b (· = .map es c)))) (λi=>M.length-i.2.1.length) (.slice none 0 0,[],#[],c) rfl ⟨λm hm=>(by cases hm),List.nodup_nil,Nat.le_refl _,λn=>(by simp),S⟩ ?_
 clear S
 rintro⟨v,H,seen,c0⟩ d w5 ⟨hm,hnd,hc,hs,S⟩ K2 hK2
 simp only at hm hnd hc hs S⊢
 rw[gdz]
 have hmk:∀x∈H.map xc,x∈M.map (·.1):=λx hx=>by
  obtain⟨m,hmH,rfl⟩:=List.mem_map.1 hx
  rw[← hk1];exact List.mem_map_of_mem (hm m hmH)
 have hHl:H.length≤M.length:=by
  have:=aaF hnd hmk
  simpa using this
 refine S.nextJ hB hc (λhall=>?_) λm hme hns w6 S=>?_
 ·refine JG (v:=.bool false) rfl ?_
  refine c_f rfl ?_
  refine afL (l:=H.map xc) (by rw[List.length_map];exact S) (by rw[List.length_map];omega) λw10 S=>?_
  have hiff:∀x,x∈H.map xc↔x∈M.map (·.1):=λx=>⟨hmk x,λhx=>by
   rw[← hk1]at hx
   obtain⟨m,hme,rfl⟩:=List.mem_map.1 hx
   have hb:=(hs m.born).1 (hall m hme)
   obtain⟨m',hm',he⟩:=List.mem_map.1 hb
   have hinj:(es.toList.map (·.born)).Nodup:=List.pairwise_map.2 (hB.1.imp λh=>Nat.ne_of_lt h)
   have:=Jz hinj (hm m' hm') hme he
   rw[← this];exact List.mem_map_of_mem hm'⟩
  rw[ag8 hnd hM hiff]at S
  have hle:(H.map xc).length=M.length:=by
   have h1:=aaF hnd hmk
   have h2:=aaF hM λx hx=>(hiff x).2 hx
   simp only[List.length_map]at h1 h2⊢
   omega
  rw[hle]at S
  have S:=S.d2
  refine h v _ ?_
  exact S.objW b (λo e=>⟨es,c,e,hE,hB⟩)
 ·refine gp_ ?_
  refine c_t rfl ?_
  refine S.entryJ hB hme ?_
  rw[hk2 m hme]
  refine gp_ ?_
  refine S.lit (e:=3) (cs:=[.int .i64 (xc m)]) (by kernel_rfl) λb13 w8 S=>?_
  refine S.ap (v:=v) (m':=1) (Sl.blk (S.blk b13)) (λv14 w9 S=>?_) (by omega)
  have S:=S.drop b13
  have hkn:xc m∉H.map xc:=λhx=>by
   obtain⟨m',hm',he⟩:=List.mem_map.1 hx
   have hj:(es.toList.map xc).Nodup:=by rw[hk1];exact hM
   have:=Jz hj (hm m' hm') hme he
   subst this
   have:=(hs m'.born).2 (List.mem_map_of_mem hm')
   rw[hns]at this;cases this
  have hnd2:((H++[m]).map xc).Nodup:=by
   rw[List.map_append,List.nodup_append]
   exact⟨hnd,by simp,λa ha b hb=>by rw[List.map_singleton,List.mem_singleton]at hb;rintro rfl;exact hkn (hb▸ha)⟩
  have hmem2:∀z∈H++[m],z∈es.toList:=λz hz=>by
   rcases List.mem_append.1 hz with hz|hz
   ·exact hm z hz
   ·rw[List.mem_singleton]at hz;rw[hz];exact hme
  have hl2:(H++[m]).length≤M.length:=by
   have:=aaF hnd2 (b:=M.map (·.1)) λx hx=>by
    obtain⟨z,hz,rfl⟩:=List.mem_map.1 hx
    rw[← hk1];exact List.mem_map_of_mem (hmem2 z hz)
   simpa using this
  rw[gla,gls]at hl2
  refine hK2 (v14,H++[m],seen.push m.born,c) _ ⟨hmem2,hnd2,Nat.le_refl _,λn=>?_,?_⟩ (by show M.length-(H++[m]).length<M.length-H.length;rw[gla,gls];omega)
  ·show(seen.push m.born).contains n=true↔n∈(H++[m]).map (·.born)
   rw[List.map_append,List.mem_append,← hs n]
   simp only[Array.contains_push,Bool.or_eq_true,beq_iff_eq,List.map_singleton,List.mem_singleton]
  ·show StX X w0 r w9 (.row v14 3 1 (H++[m]).length (ints ((H++[m]).map xc))::.obj bi (· = .mapIter (some b) c (seen.push m.born) c)::f (.obj b (· = .map es c)))
   rw[gla,List.map_append,List.map_singleton,ints,List.map_append]
   exact S
end
theorem YA{ss:List StD}{tys:List TyD}{p:PlD}(h:p.ps=[]):heldW ss tys p=p:=by
 unfold heldW
 split
 ·rw[QT,h,List.take_nil,← h]
 ·rfl
theorem Z5{ss:List StD}{tys:List TyD}{p:PlD}:(heldW ss tys p).l=p.l:=by
 unfold heldW
 split<;>rfl
def OkP(u:UnD)(g:GrD)(p:PlD):Prop:=p.ps=[]∨(zL u.ss g.tys p).isSome=true
theorem OkP.few{u:UnD}{g:GrD}{p:PlD}(h:OkP u g p):p.ps.length≤8:=by
 rcases h with h|h
 ·rw[h];exact gzl _
 ·unfold zL at h
  split at h
  ·rename_i ho
   simp only[yT,gba,gdt]at ho
   exact ho.1.2
  ·cases h
noncomputable def wholeP(u:UnD)(g:GrD)(p:PlD):Bool:=decide ((heldW u.ss g.tys p).ps.length=p.ps.length)
theorem Z6{p:PtD}{c:List Value}{w:World}{r:Gh}{K:Value→World→Prop}(hr:Holds r w)(hp:PtG r c p)(h:∀w',Ext w w'→K (.bool (decide (1≤p.op)&&decide (p.op≤8))) w'):zd Tryz.prog Tryz.kW #[.agg c.toArray] w K:=by
 refine Tryz.adv ?_
 unfold Tryz.Jr
 obtain⟨x1,x2,x3,x4,x5,y1,y2,y3,y4,y5,rfl,hpg0⟩:=xZ hp
 have S:=St.start hr
 refine S.box λb1 w1 S=>?_
 have S:StX noX w r w1 [.cell b1 (ptL p x1 x2 x3 x4 x5 y1 y2 y3 y4 y5) 94]:=S
 refine gg_ ?_
 refine zi (c:=decide (p.op≤8)) (λ_ K2 hK2=>by refine gg_ ?_;exact hK2) ?_
 exact h _ S.ext
theorem Yk{u:UnD}{g:GrD}{p:PlD}{c:List Value}{b:Nat}{p0 qt:Option Addr}{cap0 capt:Nat}{w:World}{r:Gh}{K:Value→World→Prop}(hr:Holds r w)
  (hX:∀w',Ext w w'→w'.cell? ⟨b,0,none⟩=some (.slice p0 u.ss.length cap0)∧w'.cell? ⟨b,7,none⟩=some (.slice qt g.tys.length capt)) (hst:StG r p0 u.ss) (hty:SlB 5 r (TyC r) (.slice qt g.tys.length capt) g.tys)
  (hs:(zw u.ss).2=0) (hf:yQ u.ss g.tys) (hp:PlG r c p) (hok:OkP u g p)
  (h:∀v s w',Ext w w'→New w s w'→SlB 1 (r.or s) yE v (heldW u.ss g.tys p).ps→K (.tuple #[.agg #[.int .i64 p.l,v],.bool (wholeP u g p)]) w'):
  zd Tryz.prog Tryz.xw #[.pointer (some ⟨b,0,none⟩),.agg c.toArray] w K:=by
 refine Tryz.abf ?_
 unfold Tryz.XS
 have hp0:=hp
 obtain⟨v,rfl,hl⟩:=hp
 obtain⟨qs,caps,rfl,_,hcap⟩:=hl.sl.shape
 have S:=St.start hr
 refine S.box λb3 w1 S=>?_
 have S:StX noX w r w1 [.cell b3 [.int .i64 p.l,.slice qs p.ps.length caps] 59]:=S
 refine S.al λb4 w2 S=>?_
 have h8:=hok.few
 refine gg_ ?_
 refine zf (λh0=>?_) (λh0=>?_)
 ·have hn:p.ps=[]:=List.eq_nil_of_length_eq_zero (by omega)
  refine S.ldB (b:=b3) ?_ rfl
  refine S.stB (b:=b4) λw3 S=>?_
  refine S.ceB (b:=b4) ?_ rfl
  have:=h (.slice qs p.ps.length caps) nothing _ S.ext New.nothing (by rw[YA hn];exact hl.cells)
  rw[wholeP,YA hn,gde rfl]at this
  exact this
 have hok:(zL u.ss g.tys p).isSome=true:=hok.resolve_left λe=>h0 (by rw[e];rfl)
 obtain⟨hg0,hlt⟩:=J6 hok
 obtain⟨x,hx⟩:=Option.isSome_iff_exists.1 hok
 have hx1:=(XW hs hf hg0 hlt).trans hx
 have hle:=XX (l:=x.2)
 have hxl:=aaD hx
 have hhe:heldW u.ss g.tys p=QT p (holdN x.2):=by rw[heldW,hx]
 have hwh:wholeP u g p=decide (((p.ps.take (holdN x.2)).length:Int)=(p.ps.length:Int)):=by
  rw[wholeP,hhe,decide_eq_decide];show(p.ps.take (holdN x.2)).length=_↔_;omega
 rw[hwh,hhe]at h
 obtain⟨_,_,hE,_,hct⟩:=hty.sl.shape
 cases hE
 have htf:g.tys.length≤9223372036854775807:=hty.few
 have S:=S.go (Ext.drew _)
 refine zn (λy w'=>∃b6 s v,y=[.pointer (some ⟨b6,0,none⟩)]∧Above w s∧SlB 1 s yE v (p.ps.take (holdN x.2))∧StX noX w (r.or s) w' [.cell b6 [.int .i64 0,v] 59,.cell b4 [.int .i64 0,.slice none 0 0] 59,.cell b3 [.int .i64 p.l,.slice qs p.ps.length caps] 59]) (λK5 hK5=>?_) ?_
 ·obtain⟨hX0,hX7⟩:=hX _ S.ext
  refine gg_ ?_
  refine zg hX0 ?_
  refine gg_ ?_
  refine zg hX7 ?_
  refine gg_ ?_
  have hlen:(p.l+1).toNat-p.l.toNat=[g.tys[p.l.toNat]].length:=by show _=1;omega
  have hsub:=(Z0 hty.sl).sub (a:=p.l.toNat) (n:=1) (cap:=capt) hct
  rw[ah3 hlt]at hsub
  rw[hlen]
  generalize (if capt=p.l.toNat then qt else qt.map (·.add (p.l.toNat*5)))=qy at hsub⊢
  refine⟨?_,?_⟩
  ·refine aaE (p:=⟨0,p.ps⟩) (c:=[.int .i64 0,.slice qs p.ps.length caps]) S.holds hst hsub (by simp[maxLen]) ⟨_,rfl,hl⟩ hx1 λv s w9 e9 n9 h9=>?_
   obtain⟨S,_,a9⟩:=S.tell e9 n9
   obtain⟨q3,c3,rfl,_,_⟩:=h9.sl.shape
   refine gS_ ?_
   refine S.alU λb6 w10 S=>?_
   refine S.stB (b:=b6) λw11 S=>?_
   exact hK5 _ _ ⟨b6,s,_,rfl,a9,h9,S⟩
  ·refine S.alU λb6 w10 S=>?_
   refine aaE (p:=⟨0,p.ps⟩) (c:=[.int .i64 0,.slice qs p.ps.length caps]) S.holds hst hsub (by simp[maxLen]) ⟨_,rfl,hl⟩ hx1 λv s w9 e9 n9 h9=>?_
   obtain⟨S,_,a9⟩:=S.tell e9 n9
   obtain⟨q3,c3,rfl,_,_⟩:=h9.sl.shape
   refine gS_ ?_
   refine S.stB (b:=b6) λw11 S=>?_
   exact hK5 _ _ ⟨b6,s,_,rfl,a9,h9,S⟩
 ·repeat clear S
  rintro _ w8 ⟨b6,s,v,rfl,ha,hv,S⟩ d
  rw[gdz]
  obtain⟨q3,c3,rfl,_,_⟩:=hv.sl.shape
  refine gg_ ?_
  refine S.st (b:=b6) (λw9 S=>?_) (by simp)
  have S:StX noX w (r.or s) w9 [.cell b6 [.int .i64 p.l,.slice q3 (p.ps.take (holdN x.2)).length c3] 59,.cell b4 [.int .i64 0,.slice none 0 0] 59,.cell b3 [.int .i64 p.l,.slice qs p.ps.length caps] 59]:=S
  have S:=S.go (Ext.drew _)
  refine S.ldB (b:=b6) ?_ rfl
  have fin:∀w5,StX noX w (r.or s) w5 [.cell b6 [.int .i64 p.l,.slice q3 (p.ps.take (holdN x.2)).length c3] 59,.cell b4 [.int .i64 p.l,.slice q3 (p.ps.take (holdN x.2)).length c3] 59,.cell b3 [.int .i64 p.l,.slice qs p.ps.length caps] 59]→
   K (.tuple #[.agg #[.int .i64 p.l,.slice q3 (p.ps.take (holdN x.2)).length c3],.bool (decide (((p.ps.take (holdN x.2)).length:Int)=(p.ps.length:Int)))]) w5:=λw5 S=>h _ s _ S.ext (S.newOf ha) hv.cells
  clear hX h hx hx1
  repeat' (first
   |(first|((with_reducible refine p_id ?_);first|refine s_p ?_|refine s_c (by omega) ?_)|((with_reducible refine q_id ?_);first|refine S.ld ?_|refine S.ldB ?_|refine S.ce ?_|refine S.ceB ?_|refine s_q ?_|refine s_qc (by omega) ?_)|with_reducible refine n_some ?_|rw [gdz]|rw [gds])
   |(refine S.stB (b:=b4) λw10 S=>?_)
   |(refine S.ceB (b:=b4) ?_ rfl)
   |exact fin _ S
   |refine Qz ?_
   |refine And.intro ?_ ?_)
theorem Y7{p:PlD}{c:List Value}{w:World}{r:Gh}{K:Value→World→Prop}(hr:Holds r w)(hp:PlG r c p)(hb:p.ps.length≤100000)
  (h:∀v s w',Ext w w'→New w s w'→SlG 2 s (PlG s) v (pfxs p)→K v w'):zd Tryz.prog Tryz.kg #[.agg c.toArray] w K:=by
 refine acu hr hp hb λv s xs w' ha S hx=>?_
 obtain⟨s2,S,h2,_,a2⟩:=S.doneRow (l:=pfxs p) (R:=PlG s) (sz:=2) hx (by decide) rfl
 exact h v (s.or s2) w' S.ext (S.reGh.newOf (ha.or' λb o ho=>(a2 b o ho).resolve_right id)) (h2.up' inferInstance λc x hx=>PlG.up hx)
abbrev mkL(u:UnD)(g:GrD)(p0:Option Addr)(cap0:Nat)(vf vo:Value)(qt:Option Addr)(capt:Nat)(vn vp v:Value):List Value:=
 [.slice p0 u.ss.length cap0,vf,.int .i64 u.mn,.string g.name,.int .i64 g.lv,vo,.int .i64 g.pn,.slice qt g.tys.length capt,vn,vp,v]
theorem aa2{r:Gh}{c:List Value}{p:PlD}(h:PlG r c p):∀u∈c,u.oneCell'=true:=by
 obtain⟨v,rfl,hl⟩:=h
 obtain⟨q,k,rfl,_⟩:=hl.sl.shape
 simp[Value.oneCell']
theorem aaG{α:Type}{sz:Nat}{R:List Value→α→Prop}{xs ys:List Value}{l m:List α}(h:RowOf sz R xs l)(k:RowOf sz R ys m):RowOf sz R (xs++ys) (l++m):=by
 refine⟨by rw[gla,gla,h.1,k.1,Nat.add_mul],λj hj=>?_⟩
 rw[gla]at hj
 rcases Nat.lt_or_ge j l.length with hl|hl
 ·have hm:j*sz+sz≤xs.length:=by rw[h.1,← Nat.succ_mul];exact Nat.mul_le_mul_right _ hl
  rw[List.getElem_append_left hl,List.drop_append_of_le_length (by omega),List.take_append_of_le_length (by rw[List.length_drop];omega)]
  exact h.2 j hl
 ·have e:j*sz=xs.length+(j-l.length)*sz:=by rw[h.1,← Nat.add_mul];congr 1;omega
  rw[List.getElem_append_right hl,e,List.drop_append,List.drop_of_length_le (by omega),List.nil_append]
  rw[show xs.length+(j-l.length)*sz-xs.length=(j-l.length)*sz by omega]
  exact k.2 _ (by omega)
section
variable {u:UnD} {g:GrD} {p0 qt:Option Addr} {cap0 capt bx b8:Nat} {vf vo vn vp v:Value} {w0 w:World} {r:Gh} {M:List Asr} {K:Value→World→Prop}
abbrev alj(b8:Nat):Value:=.func (.func Tryz.abp) #[] #[.pointer (some ⟨b8,0,none⟩)]
abbrev mkJ(u:UnD)(g:GrD)(p0:Option Addr)(cap0:Nat)(vf vo:Value)(qt:Option Addr)(capt:Nat)(vn vp:Value)(bx b8:Nat)(M:List Asr)(v:Value)(n:Nat)(xs:List Value):List Asr:=
 .row v 59 2 n xs::.cell bx (mkL u g p0 cap0 vf vo qt capt vn vp v) 90::.cell b8 [.pointer (some ⟨bx,0,none⟩)] 78::M
theorem am9{p:PlD}{c xs:List Value}{ps:List PlD}(S:StX noX w0 r w (mkJ u g p0 cap0 vf vo qt capt vn vp bx b8 M v ps.length xs))
  (hst:StG r p0 u.ss) (hty:SlB 5 r (TyC r) (.slice qt g.tys.length capt) g.tys) (hs:(zw u.ss).2=0) (hf:yQ u.ss g.tys) (hp:PlG r c p) (hok:OkP u g p) (hx:RowOf 2 (PlG r) xs ps) (hb:ps.length≤100000000)
  (h:∀s v' xs' w',Above w0 s→StX noX w0 (r.or s) w' (mkJ u g p0 cap0 vf vo qt capt vn vp bx b8 M v' (ps++pfxs (heldW u.ss g.tys p)).length xs')→RowOf 2 (PlG (r.or s)) xs' (ps++pfxs (heldW u.ss g.tys p))→K (.tuple #[]) w'):
  zF Tryz.prog (alj b8) #[.agg c.toArray] w K:=by
 refine ac3 (by kernel_rfl) ?_
 refine Tryz.agX ?_
 unfold Tryz.abE
 have hp0:=hp
 obtain⟨vv,rfl,hl⟩:=hp
 obtain⟨qs,caps,rfl,_,hcap⟩:=hl.sl.shape
 obtain⟨pv,cv,rfl,_⟩:=S.rowS v
 refine S.box λb2 w1 S=>?_
 have S:StX noX w0 r w1 (.cell b2 [.int .i64 p.l,.slice qs p.ps.length caps] 59::mkJ u g p0 cap0 vf vo qt capt vn vp bx b8 M (.slice pv ps.length cv) ps.length xs):=S
 refine gg_ ?_
 have hX:∀w',Ext w1 w'→w'.cell? ⟨bx,0,none⟩=some (.slice p0 u.ss.length cap0)∧w'.cell? ⟨bx,7,none⟩=some (.slice qt g.tys.length capt):=λw' e=>by
  have B:=(S.blk bx).ext e
  exact⟨by rw[B.cell];rfl,by rw[B.cell];rfl⟩
 refine Yk S.holds hX hst hty hs hf hp0 hok λv1 s1 w2 e2 n2 h2=>?_
 clear hX
 obtain⟨S,_,a1⟩:=S.tell e2 n2
 have hl':(heldW u.ss g.tys p).l=p.l:=Z5
 have h8:(heldW u.ss g.tys p).ps.length≤8:=by
  have:=hok.few
  unfold heldW
  split
  ·show(p.ps.take _).length≤8
   rw[List.length_take];omega
  ·exact this
 generalize heldW u.ss g.tys p=hd at *
 have hpd:PlG (r.or s1) [.int .i64 p.l,v1] hd:=⟨_,by rw[hl'],h2⟩
 obtain⟨q1,k1,rfl,_,_⟩:=h2.sl.shape
 refine gS_ ?_
 refine S.al λb3 w3 S=>?_
 refine S.stB (b:=b3) λw4 S=>?_
 have S:StX noX w0 (r.or s1) w4 (.cell b3 [.int .i64 p.l,.slice q1 hd.ps.length k1] 59::.cell b2 [.int .i64 p.l,.slice qs p.ps.length caps] 59::mkJ u g p0 cap0 vf vo qt capt vn vp bx b8 M (.slice pv ps.length cv) ps.length xs):=S
 have S:=S.go (Ext.drew _)
 refine gg_ ?_
 have hpf:(pfxs hd).length≤9:=by rw[Z4];omega
 have fin:∀s5 v7 xs5 w8,Above w0 s5→RowOf 2 (PlG s5) xs5 (pfxs hd)→StX noX w0 ((r.or s1).or s5) w8 (.cell b3 [.int .i64 p.l,.slice q1 hd.ps.length k1] 59::.cell b2 [.int .i64 p.l,.slice qs p.ps.length caps] 59::mkJ u g p0 cap0 vf vo qt capt vn vp bx b8 M v7 (ps.length+(pfxs hd).length) (xs++xs5))→K (.tuple #[]) w8:=λs5 v7 xs5 w8 a5 hx5 S=>by
  refine h (s1.or s5) v7 (xs++xs5) w8 (a1.or' a5) ?_ ?_
  ·rw[gla];exact S.reGh.tl.tl
  ·exact aaG (hx.mono λc x hx=>PlG.up hx) (hx5.mono λc x hx=>PlG.up (l:=⟨λb o ho=>.inr (.inr ho)⟩) hx)
 clear h
 refine⟨Qz (S.ld (b:=b8) ?_),?_⟩
 ·refine Y7 S.holds hpd (by omega) λv5 s5 w5 e5 n5 h5=>⟨e5,?_⟩
  obtain⟨S,_,a5⟩:=S.tell e5 n5
  obtain⟨pp5,c5,rfl,hp5,_⟩:=h5.shape
  obtain⟨xs5,hx5,hs5⟩:=vU (by decide) h5
  refine S.ap (v:=.slice pv ps.length cv) (S.at hs5) (λv7 w7 S=>?_) (by omega) hx5.1 hp5 (xU hx5 (by decide) λc x hx=>aa2 hx)
  obtain⟨p7,c7,rfl,_⟩:=S.rowS v7
  refine gg_ ?_
  refine S.st (b:=bx) (λw8 S=>?_) (by simp)
  exact fin s5 _ xs5 _ a5 hx5 S
 ·refine Y7 S.holds hpd (by omega) λv5 s5 w5 e5 n5 h5=>⟨e5,?_⟩
  obtain⟨S,_,a5⟩:=S.tell e5 n5
  obtain⟨pp5,c5,rfl,hp5,_⟩:=h5.shape
  obtain⟨xs5,hx5,hs5⟩:=vU (by decide) h5
  refine⟨Qz (S.ld (b:=b8) ?_),?_⟩
  ·refine S.ap (v:=.slice pv ps.length cv) (S.at hs5) (λv7 w7 S=>?_) (by omega) hx5.1 hp5 (xU hx5 (by decide) λc x hx=>aa2 hx)
   obtain⟨p7,c7,rfl,_⟩:=S.rowS v7
   refine gg_ ?_
   refine S.st (b:=bx) (λw8 S=>?_) (by simp)
   exact fin s5 _ xs5 _ a5 hx5 S
  ·refine S.ap (v:=.slice pv ps.length cv) (S.at hs5) (λv7 w7 S=>?_) (by omega) hx5.1 hp5 (xU hx5 (by decide) λc x hx=>aa2 hx)
   obtain⟨p7,c7,rfl,_⟩:=S.rowS v7
   refine Qz (S.ld (b:=b8) ?_)
   refine gg_ ?_
   refine S.st (b:=bx) (λw8 S=>?_) (by simp)
   exact fin s5 _ xs5 _ a5 hx5 S
end
end
end Go.Proofs
namespace Go.Sh
open Go.RowKit
section
section
variable {P:Program} {X:Nat→Prop} {w0 w:World} {r:Gh} {L:List Asr} {t:TypeId}
theorem StX.boxE(S:StX X w0 r w L){K:Value→World→Prop}{v:Value}(h:StX X w0 r (w.alloc (.cells v.cells.toList.toArray t)) (.cell w.heap.size v.cells.toList t::L)→K (.pointer (some ⟨w.heap.size,0,none⟩)) (w.alloc (.cells v.cells.toList.toArray t))):opW P w (Instr.box t v) K:=by
 obtain⟨h1,h2,h3⟩:=qS w v.cells.toList t
 exact⟨_,_,by simp[Instr.box,newVar,newRow,newObj,Sem.run_bind,Sem.run,pure,Result.andThen],h (S.add h1 (by omega) h3)⟩
theorem amw{K:Value→World→Prop}{e:TypeId}{len:Nat}{parts:Array (Nat×Value)}{cs:List Value}(hT:abX P t len parts=some (e,cs))
  (h:K (.slice (some ⟨w.heap.size,0,none⟩) len len) (w.alloc (.cells cs.toArray e))):
  opW P w (Instr.buildSlice t len parts) K:=by
 unfold abX at hT
 cases hu:P.underlying t with
 |none=>rw [hu]at hT;cases hT
 |some d=>
  rw[hu]at hT
  cases d<;>first|(cases hT;done)|skip
  rename_i e'
  simp only[Option.bind_eq_some_iff]at hT
  obtain⟨n,hn,hT⟩:=hT
  split at hT
  ·cases hT
  rename_i hbig
  simp only[Option.bind_eq_some_iff,Option.map_eq_some_iff,Prod.mk.injEq]at hT
  obtain⟨zero,hzero,cs',hfill,rfl,rfl⟩:=hT
  refine⟨_,_,?_,h⟩
  have hnew:∀cs:Array Value,(do pure (Value.slice (some (← newRow e' cs)) len len):Sem Value).run P w=.ok (.slice (some ⟨w.heap.size,0,none⟩) len len) (w.alloc (.cells cs e')):=λcs=>by
   simp only[Sem.run_bind,newRow,newObj,Sem.run,pure,Result.andThen];rfl
  have hcs:cs'.toList.toArray=cs':=by simp
  rw[hcs]
  by_cases h0:len*n=0
  ·rw[if_pos h0]at hzero
   cases hzero
   have :(Instr.buildSlice t len parts).run P w=(do pure (Value.slice (some (← newRow e' cs')) len len):Sem Value).run P w:=by
    simp only[Instr.buildSlice,Sem.run_bind,zA hu,Result.andThen,z6 hn,hbig,if_false]
    rw[if_pos h0]
    simp only[Sem.run_bind,Sem.run_pure,Result.andThen]
    rw[hfill]
    rfl
   rw[this];exact hnew cs'
  ·rw[if_neg h0]at hzero
   simp only[Option.map_eq_some_iff]at hzero
   obtain⟨zl,hzl,rfl⟩:=hzero
   obtain⟨zv,hzv,hzr⟩:=Xm hzl
   have hzc:zl.toArray=zv.cells:=by rw[← hzv]
   rw[hzc]at hfill
   have :(Instr.buildSlice t len parts).run P w=(do pure (Value.slice (some (← newRow e' cs')) len len):Sem Value).run P w:=by
    simp only[Instr.buildSlice,Sem.run_bind,zA hu,Result.andThen,z6 hn,hbig,if_false]
    rw[if_neg h0]
    simp only[Sem.run_bind,Sem.run_pure,Result.andThen,hzr]
    rw[hfill]
    rfl
   rw[this];exact hnew cs'
theorem aiU{α:Type}[Inhabited α]{enc:α→Value}{w':World}{g q:Nat}{c:List Value}{e:TypeId}{d:Array α}{os:Array Obj}(B:Blk w g c e)(hd:d.size≤c.length)
  (hw:w'=Sort.grow (Sort.putRow enc (Sort.ahead w q) g 0 d) os):ExtBut (· = g) w w'∧Blk w' g (d.toList.map enc++c.drop d.size) e:=by
 subst hw
 have hg:g<w.heap.size:=(Array.getElem?_eq_some_iff.1 B).1
 have hput:∀k,(Sort.putRow enc (Sort.ahead w q) g 0 d).heap[k]? = if g=k then(w.heap[k]?).map (Sort.onCells (Sort.putCells enc 0 d))else w.heap[k]?:=λk=>by
  simp only[Sort.putRow,Sort.mapBlock,Array.getElem?_modify]
  split<;>rfl
 have hsz:(Sort.putRow enc (Sort.ahead w q) g 0 d).heap.size=w.heap.size:=by simp[Sort.ahead]
 refine⟨⟨rfl,rfl,rfl,by simp only[Sort.grow,Array.size_append,hsz];omega,λk hk hne=>?_⟩,?_⟩
 ·show((Sort.putRow enc (Sort.ahead w q) g 0 d).heap++os)[k]? = _
  rw[Array.getElem?_append_left (by rw[hsz];exact hk),hput,if_neg (λh=>hne h.symm)]
 ·show((Sort.putRow enc (Sort.ahead w q) g 0 d).heap++os)[g]? = _
  rw[Array.getElem?_append_left (by rw[hsz];exact hg),hput,if_pos rfl,B,Option.map_some]
  simp only[Sort.onCells]
  congr 2
  apply Array.ext_getElem?
  intro i
  simp only[Sort.putCells,Array.getElem?_mapIdx,List.getElem?_toArray,List.getElem?_append,List.length_map,Array.length_toList,List.getElem?_map,List.getElem?_drop,gzl,true_and,Nat.zero_add,Nat.sub_zero]
  by_cases hi:i<d.size
  ·rw[if_pos hi,gqg (by omega),Option.map_some,if_pos hi,Array.getElem?_toList,Array.getElem?_eq_getElem hi,getElem!_pos d i hi];rfl
  ·rw[if_neg hi,show d.size+(i-d.size)=i by omega]
   cases h:c[i]? with
   |none=>rfl
   |some x=>rw [Option.map_some,if_neg hi]
end
end
end Go.Sh
namespace Go.Proofs
open Go.Sh Go.RowKit
def xk:List Int→List Int→Int
 |[],[]=>0
 |[],_::_=>-1
 |_::_,[]=>1
 |x::l,y::m=>if x=y then xk l m else yU x y
def zJ(p q:PlD):Int:=if p.l=q.l then xk p.ps q.ps else yU p.l q.l
theorem J9{x y:Int}:yU y x = - yU x y:=by
 unfold yU
 by_cases h1:x<y
 ·rw[if_neg (by omega),if_pos h1,if_pos h1];rfl
 ·by_cases h2:y<x
  ·rw[if_pos h2,if_neg h1,if_pos h2]
  ·rw[if_neg h2,if_neg h1,if_neg h1,if_neg h2];rfl
theorem jL{x y:Int}:yU x y<0↔x<y:=by
 unfold yU
 by_cases h1:x<y
 ·rw[if_pos h1];exact⟨λ_=>h1,λ_=>by decide⟩
 ·rw[if_neg h1]
  refine⟨λh=>?_,λh=>absurd h h1⟩
  split at h
  ·exact absurd h (by decide)
  ·exact absurd h (by decide)
theorem acx:∀{l m:List Int},xk m l = - xk l m
 |[],[]=>rfl
 |[],_::_=>rfl
 |_::_,[]=>rfl
 |x::l,y::m=>by
  rw[xk,xk]
  by_cases h:x=y
  ·rw[if_pos h,if_pos h.symm];exact acx
  ·rw[if_neg h,if_neg (λe=>h e.symm)];exact J9
theorem afb:∀{l m:List Int},xk l m=0↔l=m
 |[],[]=>⟨λ_=>rfl,λ_=>rfl⟩
 |[],_::_=>⟨λh=>absurd h (by decide:¬(-1:Int)=0),λh=>by cases h⟩
 |_::_,[]=>⟨λh=>absurd h (by decide:¬(1:Int)=0),λh=>by cases h⟩
 |x::l,y::m=>by
  rw[xk]
  by_cases h:x=y
  ·rw[if_pos h,afb,h];simp
  ·rw[if_neg h,xa]
   exact⟨λe=>absurd e h,λe=>by cases e;rfl⟩
theorem adH:∀{l m n:List Int},xk l m<0→xk m n<0→xk l n<0
 |[],_,[],h1,h2=>by
  rename_i m
  cases m with
  |nil=>exact absurd h1 (by decide)
  |cons y m=>exact absurd h2 (by decide:¬(1:Int)<0)
 |[],_,_::_,_,_=>by show(-1:Int)<0;decide
 |x::l,[],n,h1,_=>absurd h1 (by decide:¬(1:Int)<0)
 |x::l,y::m,[],_,h2=>absurd h2 (by decide:¬(1:Int)<0)
 |x::l,y::m,z::n,h1,h2=>by
  rw[xk]at h1 h2⊢
  by_cases e1:x=y
  ·subst e1
   rw[if_pos rfl]at h1
   by_cases e2:x=z
   ·rw[if_pos e2]at h2⊢;exact adH h1 h2
   ·rw[if_neg e2]at h2⊢;exact h2
  ·rw[if_neg e1,jL]at h1
   by_cases e2:y=z
   ·subst e2;rw[if_neg e1,jL];exact h1
   ·rw[if_neg e2,jL]at h2
    rw[if_neg (by omega),jL];omega
theorem Z7{p q:PlD}:zJ q p = - zJ p q:=by
 unfold zJ
 by_cases h:p.l=q.l
 ·rw[if_pos h,if_pos h.symm];exact acx
 ·rw[if_neg h,if_neg (λe=>h e.symm)];exact J9
theorem xW{p q:PlD}:zJ p q=0↔p=q:=by
 unfold zJ
 rw[PlD.eq_iff]
 by_cases h:p.l=q.l
 ·rw[if_pos h,afb];exact⟨λe=>⟨h,e⟩,λe=>e.2⟩
 ·rw[if_neg h,xa];exact⟨λe=>absurd e h,λe=>e.1⟩
theorem jM{p q s:PlD}(h1:zJ p q<0)(h2:zJ q s<0):zJ p s<0:=by
 unfold zJ at *
 by_cases e1:p.l=q.l
 ·rw[if_pos e1]at h1
  by_cases e2:q.l=s.l
  ·rw[if_pos e2]at h2;rw[if_pos (e1.trans e2)];exact adH h1 h2
  ·rw[if_neg e2]at h2;rw[if_neg (by omega),e1];exact h2
 ·rw[if_neg e1,jL]at h1
  by_cases e2:q.l=s.l
  ·rw[if_neg (by omega),jL];omega
  ·rw[if_neg e2,jL]at h2;rw[if_neg (by omega),jL];omega
theorem ahM{p q s:PlD}(h1:¬zJ p q<0)(h2:¬zJ q s<0):¬zJ p s<0:=λh=>by
 have n1:=Z7 (p:=p) (q:=q)
 have n2:=Z7 (p:=q) (q:=s)
 have n3:=Z7 (p:=p) (q:=s)
 by_cases e1:zJ p q=0
 ·rw[xW]at e1;subst e1;exact h2 h
 by_cases e2:zJ q s=0
 ·rw[xW]at e2;subst e2;exact h1 h
 have:=jM (p:=s) (q:=q) (s:=p) (by omega) (by omega)
 omega
theorem abj{l m:List Int}{va vb:Value}{w:World}{r:Gh}{K:Value→World→Prop}(hr:Holds r w)(ha:SlB 1 r yE va l)(hb:SlB 1 r yE vb m)
  (h:K (.int .i64 (xk l m)) w):zd Tryz.prog Tryz.yj #[va,vb] w K:=by
 refine Tryz.xL ?_
 unfold Tryz.yP
 obtain⟨pa,ca,rfl,_,_⟩:=ha.sl.shape
 obtain⟨pb,cb,rfl,_,_⟩:=hb.sl.shape
 have hla:l.length≤9223372036854775807:=ha.few
 refine gp_ ?_
 refine zh (ι:=Nat) (λi=>[.int .i64 (i:Nat)]) (λi w'=>i≤l.length∧i≤m.length∧xk (l.drop i) (m.drop i)=xk l m∧w'=w) (λi=>l.length-i) 0 rfl ⟨gzl _,gzl _,rfl,rfl⟩ ?_
 rintro i d w4 ⟨hi,him,htk,rfl⟩ K1 hK1
 rw[gdz]
 refine gp_ ?_
 refine zf (λhlt=>?_) (λhge=>?_)
 ·have hlt:i<l.length:=by omega
  obtain⟨ba,oa,c,rfl,hcl,⟨rfl,_⟩,hca⟩:=ha.sl.get (by decide) hlt
  refine gp_ ?_
  refine zg (v:=.int .i64 l[i]) (by simpa using hca 0 _ rfl _ hr) ?_
  refine gp_ ?_
  refine gp_ ?_
  rw[List.drop_eq_getElem_cons hlt]at htk
  refine zf (λhbig=>?_) (λhsm=>?_)
  ·rw[List.drop_of_length_le (l:=m) (by omega)]at htk
   rw[← htk]at h
   exact h
  have hlt2:i<m.length:=by omega
  obtain⟨bb,ob,d,rfl,hdl,⟨rfl,_⟩,hcb⟩:=hb.sl.get (by decide) hlt2
  rw[List.drop_eq_getElem_cons hlt2,xk]at htk
  refine gp_ ?_
  refine zg (v:=.int .i64 m[i]) (by simpa using hcb 0 _ rfl _ hr) ?_
  refine Jo ?_
  refine gp_ ?_
  refine zf (λhne=>?_) (λheq=>?_)
  ·rw[if_neg (λe=>hne (xa.2 e))]at htk
   rw[htk];exact h
  ·have he:l[i]=m[i]:=xa.1 (Decidable.not_not.1 heq)
   rw[if_pos he]at htk
   refine gp_ ?_
   exact hK1 (i+1) _ ⟨hlt,hlt2,htk,rfl⟩ (by omega)
 have hie:i=l.length:=by omega
 subst hie
 rw[List.drop_length]at htk
 refine gp_ ?_
 refine gp_ ?_
 refine gp_ ?_
 refine zf (λh1=>?_) (λh1=>?_)
 ·rw[List.drop_eq_getElem_cons (by omega)]at htk
  rw[← htk]at h
  exact h
 ·rw[List.drop_of_length_le (by omega)]at htk
  rw[← htk]at h
  exact h
theorem ajV{x y:Int}{b:Nat}{w:World}{K:Value→World→Prop}(h0:w.cell? ⟨b,0,none⟩=some (.int .i64 x))(h1:w.cell? ⟨b,1,none⟩=some (.int .i64 y))
  (h:K (.int .i64 (if x≠0 then x else y)) w):zd Tryz.prog Tryz.Zm #[.slice (some ⟨b,0,none⟩) 2 2] w K:=by
 refine Tryz.Vp ?_
 unfold Tryz.XP
 refine gp_ ?_
 refine zh (ι:=Nat) (λi=>[.int .i64 (i:Nat)]) (λi w'=>i≤2∧(0<i→x=0)∧(1<i→y=0)∧w'=w) (λi=>2-i) 0 rfl ⟨by decide,λh=>absurd h (by decide),λh=>absurd h (by decide),rfl⟩ ?_
 rintro i d w4 ⟨hi,hx,hy,rfl⟩ K1 hK1
 rw[gdz]
 refine gp_ ?_
 refine zf (λhlt=>?_) (λhge=>?_)
 ·have hi2:i=0∨i=1:=by omega
  rcases hi2 with rfl|rfl
  ·refine gp_ ?_
   refine zg (v:=.int .i64 x) (by simpa using h0) ?_
   refine gp_ ?_
   refine zf (λhne=>?_) (λheq=>?_)
   ·rwa[if_pos hne]at h
   refine gp_ ?_
   exact hK1 1 _ ⟨by decide,λ_=>by omega,λh=>absurd h (by decide),rfl⟩ (by decide)
  ·refine gp_ ?_
   refine zg (v:=.int .i64 y) (by simpa using h1) ?_
   refine gp_ ?_
   refine zf (λhne=>?_) (λheq=>?_)
   ·rwa[if_neg (by have:=hx (by decide);omega)]at h
   refine gp_ ?_
   exact hK1 2 _ ⟨by decide,λ_=>hx (by decide),λ_=>by omega,rfl⟩ (by decide)
 have hie:i=2:=by omega
 subst hie
 rwa[if_neg (by have:=hx (by decide);omega),hy (by decide)]at h
theorem JA{p q:PlD}{c d:List Value}{w:World}{r:Gh}{K:Value→World→Prop}(hr:Holds r w)(hp:PlG r c p)(hq:PlG r d q)
  (h:∀os,K (.int .i64 (zJ p q)) (Sort.grow (w.drewN 1) os)):zd Tryz.prog Tryz.yW #[.agg c.toArray,.agg d.toArray] w K:=by
 refine Tryz.Jm ?_
 unfold Tryz.YS
 obtain⟨v,rfl,hv⟩:=hp
 obtain⟨u,rfl,hu⟩:=hq
 obtain⟨pa,ca,rfl,_,_⟩:=hv.sl.shape
 obtain⟨pb,cb,rfl,_,_⟩:=hu.sl.shape
 have S:=St.start hr
 refine S.boxE λS=>?_
 refine S.boxE λS=>?_
 generalize hw2:(w.alloc _).alloc _=w2 at S⊢
 have hg2:∃os,w2=Sort.grow w os:=⟨_,by rw[← hw2,Sort.alloc_eq_grow,Sort.alloc_eq_grow,Sort.grow_grow]⟩
 clear hw2
 obtain⟨os2,rfl⟩:=hg2
 generalize w.heap.size=b2 at S⊢
 generalize (World.heap (w.alloc _)).size=b3 at S⊢
 have S:StX noX w r _ [.cell b3 [.int .i64 q.l,.slice pb q.ps.length cb] 59,.cell b2 [.int .i64 p.l,.slice pa p.ps.length ca] 59]:=S
 have S:=S.go (Ext.drew _)
 refine gg_ ?_
 refine Vq ⟨Ext.refl _,?_⟩
 refine abj S.holds hv hu ?_
 refine amw (e:=3) (cs:=[.int .i64 (yU p.l q.l),.int .i64 (xk p.ps q.ps)]) (by kernel_rfl) ?_
 obtain⟨h1,h2,h3⟩:=qS (Sort.grow w os2).drew [.int .i64 (yU p.l q.l),.int .i64 (xk p.ps q.ps)] 3
 refine ajV (by rw[h3.cell];rfl) (by rw[h3.cell];rfl) ?_
 have:=h (os2++#[.cells #[.int .i64 (yU p.l q.l),.int .i64 (xk p.ps q.ps)] 3])
 have e:zJ p q=if yU p.l q.l≠0 then yU p.l q.l else xk p.ps q.ps:=by
  unfold zJ
  by_cases h:p.l=q.l
  ·rw[if_pos h,if_neg (by rw[Decidable.not_not];exact xa.2 h)]
  ·rw[if_neg h,if_pos (λe=>h (xa.1 e))]
 rw[← e,Sort.alloc_eq_grow]
 have e2:Sort.grow (Sort.grow w os2).drew #[.cells #[.int .i64 (yU p.l q.l),.int .i64 (xk p.ps q.ps)] 3]=Sort.grow (w.drewN 1) (os2++#[.cells #[.int .i64 (yU p.l q.l),.int .i64 (xk p.ps q.ps)] 3]):=by
  rw[← Sort.grow_grow];rfl
 rw[e2]
 exact this
end Go.Proofs
namespace Go.Proofs
open Go.Shelf
def Tryz.aiV:Go.Shelf.Ren:=⟨fun|6=>73|15=>88|14=>98|28=>118|29=>119|20=>126|21=>127|22=>128|23=>129|24=>130|25=>131|26=>132|27=>133|46=>184|47=>147|48=>148|49=>185|50=>186|57=>208|n=>n,fun|22=>37|24=>59|25=>108|3=>3|39=>137|0=>0|53=>174|55=>176|4=>4|46=>167|45=>166|50=>106|5=>5|9=>9|66=>196|70=>200|76=>248|77=>249|n=>n,fun|n=>n⟩
theorem Tryz.amx:Go.Proofs.SlLaysF0.n6 Tryz.prog Tryz.aiV:={
 mixed:=by kernel_rfl
 f6:=⟨Tryz.f73.name,by decide,Tryz.func73.trans (congrArg some (by kernel_rfl))⟩
 f14:=⟨Tryz.f98.name,by decide,Tryz.func98.trans (congrArg some (by kernel_rfl))⟩
 f15:=Tryz.func88.trans (congrArg some (by kernel_rfl))
 f20:=⟨Tryz.f126.name,by decide,Tryz.func126.trans (congrArg some (by kernel_rfl))⟩
 f21:=⟨Tryz.f127.name,by decide,Tryz.func127.trans (congrArg some (by kernel_rfl))⟩
 f22:=⟨Tryz.f128.name,by decide,Tryz.func128.trans (congrArg some (by kernel_rfl))⟩
 f23:=⟨Tryz.f129.name,by decide,Tryz.func129.trans (congrArg some (by kernel_rfl))⟩
 f24:=⟨Tryz.f130.name,by decide,Tryz.func130.trans (congrArg some (by kernel_rfl))⟩
 f25:=⟨Tryz.f131.name,by decide,Tryz.func131.trans (congrArg some (by kernel_rfl))⟩
 f26:=⟨Tryz.f132.name,by decide,Tryz.func132.trans (congrArg some (by kernel_rfl))⟩
 f27:=⟨Tryz.f133.name,by decide,Tryz.func133.trans (congrArg some (by kernel_rfl))⟩
 f28:=Tryz.func118.trans (congrArg some (by kernel_rfl))
 f29:=Tryz.func119.trans (congrArg some (by kernel_rfl))
 f46:=⟨Tryz.f184.name,by decide,Tryz.func184.trans (congrArg some (by kernel_rfl))⟩
 f47:=Tryz.func147.trans (congrArg some (by kernel_rfl))
 f48:=Tryz.func148.trans (congrArg some (by kernel_rfl))
 f49:=⟨Tryz.f185.name,by decide,Tryz.func185.trans (congrArg some (by kernel_rfl))⟩
 f50:=⟨Tryz.f186.name,by decide,Tryz.func186.trans (congrArg some (by kernel_rfl))⟩
 f57:=⟨Tryz.f208.name,by decide,Tryz.func208.trans (congrArg some (by kernel_rfl))⟩
 t0:=Tryz.underlying0
 a0:=Tryz.isAgg0
 z0:=Tryz.sizeOf0
 v0:=Tryz.zeroValue0
 t3:=Tryz.underlying3
 a3:=Tryz.isAgg3
 z3:=Tryz.sizeOf3
 v3:=Tryz.zeroValue3
 t4:=Tryz.underlying4
 a4:=Tryz.isAgg4
 z4:=Tryz.sizeOf4
 v4:=Tryz.zeroValue4
 t5:=Tryz.underlying5
 a5:=Tryz.isAgg5
 z5:=Tryz.sizeOf5
 v5:=Tryz.zeroValue5
 t9:=Tryz.underlying9
 a9:=Tryz.isAgg9
 z9:=Tryz.sizeOf9
 v9:=Tryz.zeroValue9
 t22:=Tryz.underlying37
 a22:=Tryz.isAgg37
 z22:=Tryz.sizeOf37
 v22:=Tryz.zeroValue37
 t25:=Tryz.underlying108
 a25:=Tryz.isAgg108
 z25:=Tryz.sizeOf108
 v25:=Tryz.zeroValue108
 t39:=Tryz.underlying137
 a39:=Tryz.isAgg137
 z39:=Tryz.sizeOf137
 v39:=Tryz.zeroValue137
 t45:=Tryz.underlying166
 a45:=Tryz.isAgg166
 z45:=Tryz.sizeOf166
 v45:=Tryz.zeroValue166
 t46:=Tryz.underlying167
 a46:=Tryz.isAgg167
 z46:=Tryz.sizeOf167
 v46:=Tryz.zeroValue167
 t50:=Tryz.underlying106
 a50:=Tryz.isAgg106
 z50:=Tryz.sizeOf106
 v50:=Tryz.zeroValue106
 t53:=Tryz.underlying174
 a53:=Tryz.isAgg174
 z53:=Tryz.sizeOf174
 v53:=Tryz.zeroValue174
 t55:=Tryz.underlying176
 a55:=Tryz.isAgg176
 z55:=Tryz.sizeOf176
 v55:=Tryz.zeroValue176
 t66:=Tryz.underlying196
 a66:=Tryz.isAgg196
 z66:=Tryz.sizeOf196
 v66:=Tryz.zeroValue196
 t70:=Tryz.underlying200
 a70:=Tryz.isAgg200
 z70:=Tryz.sizeOf200
 v70:=Tryz.zeroValue200
 t76:=Tryz.underlying248
 a76:=Tryz.isAgg248
 z76:=Tryz.sizeOf248
 v76:=Tryz.zeroValue248
 t77:=Tryz.underlying249
 a77:=Tryz.isAgg249
 z77:=Tryz.sizeOf249
 v77:=Tryz.zeroValue249 }
end Go.Proofs
namespace Go.Proofs
open Go.Sh Go.RowKit
section
abbrev PlX(r:Gh):={x:List Value×PlD // PlG r x.1 x.2}
instance anA {r:Gh}:Inhabited (PlX r):=⟨⟨([.int .i64 0,.slice none 0 0],⟨0,[]⟩),⟨_,rfl,jI⟩⟩⟩
def y0{r:Gh}(x:PlX r):List Value:=x.1.1
theorem aha{r:Gh}(x:PlX r):(y0 x).length=2:=by
 obtain⟨v,h,_⟩:=x.2
 rw[y0,h];rfl
theorem akV{r:Gh}(x:PlX r):∀v∈y0 x,v.oneCell'=true:=by
 obtain⟨v,h,h1⟩:=x.2
 obtain⟨q,k,rfl,_⟩:=h1.sl.shape
 rw[y0,h];simp[Value.oneCell']
theorem anu{r:Gh}:Sort.SWO (ltOf λx y:PlX r=>zJ x.1.2 y.1.2) where
 irrefl x:=decide_eq_false (by show¬zJ x.1.2 x.1.2<0;rw[xW.2 rfl];decide)
 trans x y z h1 h2:=gde (jM (of_decide_eq_true h1) (of_decide_eq_true h2))
 ntrans x y z h1 h2:=decide_eq_false (ahM (of_decide_eq_false h1) (of_decide_eq_false h2))
theorem ana{r:Gh}{d:Array (PlX r)}:RowOf 2 (PlG r) (Sort.flatK y0 2 d).toList (d.toList.map λx=>x.1.2):=by
 have hs:=Sort.size_flatK y0 2 d
 refine⟨by simp,λj hj=>?_⟩
 have hj:j<d.size:=by simpa using hj
 have e:((Sort.flatK y0 2 d).toList.drop (j*2)).take 2=y0 d[j]:=by
  have hl:=aha d[j]
  apply List.ext_getElem
  ·rw[List.length_take,List.length_drop,hl];simp;omega
  ·intro k h1 h2
   rw[hl]at h2
   rw[List.getElem_take,List.getElem_drop,Array.getElem_toList]
   have:=Sort.get_flatK y0 2 d (j*2+k) (by omega)
   rw[getElem!_pos (Sort.flatK y0 2 d) _ (by rw[hs];omega)]at this
   rw[this,show (j*2+k)/2=j by omega,show (j*2+k)%2=k by omega,getElem!_pos d j hj,getElem!_pos _ k (by omega)]
 rw[e]
 have:=d[j].2
 simpa [y0]using this
theorem aiW{v:Value}{ps:List PlD}{xs:List Value}{X:Nat→Prop}{w0 w:World}{r:Gh}{L:List Asr}{K:Value→World→Prop}(S:StX X w0 r w (.row v 59 2 ps.length xs::L))(hx:RowOf 2 (PlG r) xs ps)(h0:0<ps.length)(hl:ps.length<4611686018427387904)
  (h:∀w' xs' ps',ps'.Perm ps→ps'.Pairwise (λp q=>zJ p q≤0)→RowOf 2 (PlG r) xs' ps'→StX X w0 r w' (.row v 59 2 ps'.length xs'::L)→K (.tuple #[]) w'):zd Tryz.prog Tryz.xC #[v,.func (.func Tryz.yW) #[] #[]] w K:=by
 have hr:w.ownsRow 0 59 2 v ps.length xs:=S.has _ (List.mem_cons_self ..)
 rcases vE hr with⟨rfl,h1,h2⟩|⟨g,cap,c,rfl,hg,B,hn,hm,hcl,ht⟩
 ·omega
 have hxl:xs.length=ps.length*2:=hx.1
 obtain⟨d,hd1,hd2,hd3⟩:∃d:Array (PlX r),d.size=ps.length∧(Sort.flatK y0 2 d).toList=xs∧(d.toList.map λx=>x.1.2)=ps:=by
  refine⟨Array.ofFn (n:=ps.length) λi=>⟨((xs.drop (i.1*2)).take 2,ps[i.1]),hx.2 i.1 i.2⟩,by simp,?_,?_⟩
  ·apply List.ext_getElem
   ·simp[hxl]
   ·intro t h1 h2
    have ht2:t<ps.length*2:=by omega
    have:=Sort.get_flatK y0 2 (Array.ofFn (n:=ps.length) λi=>(⟨((xs.drop (i.1*2)).take 2,ps[i.1]),hx.2 i.1 i.2⟩:PlX r)) t (by simpa using ht2)
    rw[getElem!_pos _ _ (by simpa using ht2)]at this
    rw[Array.getElem_toList,this,getElem!_pos _ (t/2) (by simp;omega)]
    simp only[Array.getElem_ofFn,y0]
    rw[getElem!_pos _ _ (by rw[List.length_take,List.length_drop];omega),List.getElem_take,List.getElem_drop]
    congr 1;omega
  ·apply List.ext_getElem
   ·simp
   ·intro t h1 h2
    simp
 have hfs:=Sort.size_flatK y0 2 d
 have hcell:∀j,j<ps.length*2→w.cell? ⟨g,j,none⟩=some (Sort.flatK y0 2 d)[j]!:=λj hj=>by
  have h1:(c.take (ps.length*2))[j]? = some (Sort.flatK y0 2 d)[j]!:=by
   rw[ht,← hd2,Array.getElem?_toList,Array.getElem?_eq_getElem (by omega),getElem!_pos _ _ (by omega)]
  rw[List.getElem?_take,if_pos hj]at h1
  rw[B.cell];exact h1
 have hfz:∀j,w.frozen? ⟨g,j,none⟩=false:=λj=>B.unfrozen j
 have hgl:=(Array.getElem?_eq_some_iff.1 B).1
 have turn:∀(w':World)(m:Nat)(os:Array Obj)(dk:Array (PlX r)),dk.size=d.size→w'=sortWorldK y0 2 w g 0 m dk os→
   StX X w0 r w' (.row (.slice (some ⟨g,0,none⟩) ps.length cap) 59 2 ps.length (Sort.flatK y0 2 dk).toList::L):=λw' m os dk hs hw=>by
  have hks:=Sort.size_flatK y0 2 dk
  obtain⟨hE,hB⟩:=aiU (enc:=id) (d:=Sort.flatK y0 2 dk) (w':=w') (q:=m) (os:=os) B (by omega) hw
  refine S.turn (p:=[]) (x:=.row (.slice (some ⟨g,0,none⟩) ps.length cap) 59 2 ps.length xs) (y:=.row (.slice (some ⟨g,0,none⟩) ps.length cap) 59 2 ps.length (Sort.flatK y0 2 dk).toList) ?_ ?_ λk hk=>.inl hk
  ·exact hE.mono λk _ hk=>by subst hk;rfl
  ·have:=Za (base:=0) (e:=59) (size:=2) (n:=ps.length) (cap:=cap) (gzl _) hB hn hm (by simp;omega)
   have e:((Sort.flatK y0 2 dk).toList.map id++c.drop (Sort.flatK y0 2 dk).size).take (ps.length*2)=(Sort.flatK y0 2 dk).toList:=by
    have hlk:(Sort.flatK y0 2 dk).toList.length=dk.size*2:=by rw[Array.length_toList (xs:=Sort.flatK y0 2 dk)];exact hks
    rw[List.map_id,List.take_append_of_le_length (by omega)]
    exact List.take_of_length_le (by omega)
   rwa[e]at this
 have hcmp:CmpLays Tryz.prog Tryz.yW #[] y0 2 (λx y:PlX r=>zJ x.1.2 y.1.2) g 0 d.size w:=λm os dk hs x y=>by
  have T:=turn _ m os dk hs rfl
  have:=JA (K:=λv w'=>v=.int .i64 (zJ x.1.2 y.1.2)∧∃os',w'=Sort.grow ((sortWorldK y0 2 w g 0 m dk os).drewN 1) os') T.holds x.2 y.2 λos'=>⟨rfl,os',rfl⟩
  exact Calls.mono this λe w' ⟨v,h1,h2,os',h3⟩=>⟨by rw[h1,h2],1,os',h3⟩
 have hH:Sort.HoldsK y0 2 w g 0 d:=λj hj=>by
  rw[hfs,hd1]at hj
  exact⟨by rw[Nat.zero_add];exact hcell j hj,hfz _⟩
 have key:=AnyQ.slices_SortFunc Tryz.amx 2 Tryz.isAgg59 Tryz.sizeOf59 y0 aha akV (λx y:PlX r=>zJ x.1.2 y.1.2) anu Tryz.yW #[] g 0 cap d w (λargs w=>jm (by kernel_rfl) args w) hcmp hH hgl (by omega)
 rw[hd1]at key
 refine Calls.mono key ?_
 rintro e w' ⟨rfl,d',n,os,hp,hs,hw⟩
 have hsz:d'.size=d.size:=hp.1
 have T:=turn w' n os d' hsz hw
 have e1:(d'.toList.map λx=>x.1.2).length=ps.length:=by simp;omega
 refine⟨_,rfl,h w' _ (d'.toList.map λx=>x.1.2) ?_ ?_ ana (by rw[e1];exact T)⟩
 ·have h3:=hp.2.2
  rw[← hd3]
  refine List.Perm.map _ ?_
  have a1:d'.extract 0 ps.length=d':=by rw[← hd1,← hsz];simp
  have a2:d.extract 0 ps.length=d:=by rw[← hd1];simp
  rwa[a1,a2]at h3
 ·rw[List.pairwise_map,List.pairwise_iff_getElem]
  intro i j hi hj hij
  have h3:=of_decide_eq_false (hs i j (gzl _) hij (by simp at hj;omega))
  simp only[Array.length_toList]at hi hj
  rw[getElem!_pos d' i hi,getElem!_pos d' j hj]at h3
  simp only[Array.getElem_toList]
  have h3:¬zJ d'[j].1.2 d'[i].1.2<0:=h3
  have:=Z7 (p:=d'[i].1.2) (q:=d'[j].1.2)
  omega
def ZD(l:List PlD):Prop:=l.Pairwise λp q=>zJ p q<0
def LeP(l:List PlD):Prop:=l.Pairwise λp q=>zJ p q≤0
def kp(p:PlD):List PlD→List PlD
 |[]=>[p]
 |q::l=>if zJ q p<0 then q::kp p l else if zJ q p=0 then q::l else p::q::l
theorem YB{p:PlD}:zJ p p=0:=xW.2 rfl
theorem ahb{p q s:PlD}(h1:zJ p q≤0)(h2:zJ q s<0):zJ p s<0:=by
 rcases Int.lt_or_eq_of_le h1 with h|h
 ·exact jM h h2
 ·rw[xW.1 h];exact h2
theorem aet{p:PlD}:∀{l:List PlD}{x:PlD},x∈kp p l↔x=p∨x∈l
 |[],x=>by simp[kp]
 |q::l,x=>by
  rw[kp]
  split
  ·rw[List.mem_cons,aet,List.mem_cons]
   exact⟨λh=>h.elim (λh=>.inr (.inl h)) λh=>h.elim .inl λh=>.inr (.inr h),λh=>h.elim (λh=>.inr (.inl h)) λh=>h.elim .inl λh=>.inr (.inr h)⟩
  ·split
   ·rename_i h
    rw[xW]at h
    subst h
    rw[List.mem_cons]
    exact⟨λh=>.inr h,λh=>h.elim .inl id⟩
   ·rw[List.mem_cons]
theorem ah7{p:PlD}:∀{l:List PlD},ZD l→ZD (kp p l)
 |[],_=>List.pairwise_singleton _ _
 |q::l,h=>by
  have h0:=h
  obtain⟨h1,h2⟩:=List.pairwise_cons.1 h
  rw[kp]
  split
  ·rename_i hq
   refine List.pairwise_cons.2 ⟨λx hx=>?_,ah7 h2⟩
   rcases aet.1 hx with rfl|hx
   ·exact hq
   ·exact h1 x hx
  ·rename_i hq
   split
   ·exact h0
   ·rename_i hz
    have hpq:zJ p q<0:=by have:=Z7 (p:=q) (q:=p);omega
    refine List.pairwise_cons.2 ⟨λx hx=>?_,h0⟩
    rcases List.mem_cons.1 hx with rfl|hx
    ·exact hpq
    ·exact jM hpq (h1 x hx)
theorem aeu:∀{l m:List PlD},ZD l→ZD m→(∀x,x∈l↔x∈m)→l=m
 |[],[],_,_,_=>rfl
 |[],y::m,_,_,h=>absurd ((h y).2 List.mem_cons_self) (by simp)
 |x::l,[],_,_,h=>absurd ((h x).1 List.mem_cons_self) (by simp)
 |x::l,y::m,hl,hm,h=>by
  obtain⟨a1,a2⟩:=List.pairwise_cons.1 hl
  obtain⟨b1,b2⟩:=List.pairwise_cons.1 hm
  have hxy:x=y:=by
   rcases List.mem_cons.1 ((h x).1 List.mem_cons_self)with e|h1
   ·exact e
   rcases List.mem_cons.1 ((h y).2 List.mem_cons_self)with e|h2
   ·exact e.symm
   have k1:=b1 x h1
   have k2:=a1 y h2
   have:=Z7 (p:=x) (q:=y)
   omega
  subst hxy
  refine congrArg _ (aeu a2 b2 λz=>⟨λhz=>?_,λhz=>?_⟩)
  ·rcases List.mem_cons.1 ((h z).1 (List.mem_cons_of_mem _ hz))with e|hz'
   ·subst e
    have:=a1 z hz
    rw[YB]at this
    omega
   ·exact hz'
  ·rcases List.mem_cons.1 ((h z).2 (List.mem_cons_of_mem _ hz))with e|hz'
   ·subst e
    have:=b1 z hz
    rw[YB]at this
    omega
   ·exact hz'
def aev(l:List PlD):List PlD:=l.foldl (λm p=>kp p m) []
theorem Va:∀{l m:List PlD},ZD m→ZD (l.foldl (λm p=>kp p m) m)∧∀x,x∈l.foldl (λm p=>kp p m) m↔x∈l∨x∈m
 |[],m,h=>⟨h,λx=>by simp⟩
 |p::l,m,h=>by
  obtain⟨h1,h2⟩:=Va (l:=l) (m:=kp p m) (ah7 h)
  refine⟨h1,λx=>?_⟩
  rw[List.foldl_cons,h2,aet,List.mem_cons]
  exact⟨λh=>h.elim (λh=>.inl (.inr h)) λh=>h.elim (λh=>.inl (.inl h)) .inr,λh=>h.elim (λh=>h.elim (λh=>.inr (.inl h)) .inl) λh=>.inr (.inr h)⟩
theorem ah8{l:List PlD}:ZD (aev l):=(Va List.Pairwise.nil).1
theorem ah9{l:List PlD}{x:PlD}:x∈aev l↔x∈l:=by
 rw[aev,(Va List.Pairwise.nil).2];simp
theorem amy{l q:List PlD}(h:ZD q)(hm:∀x,x∈q↔x∈l):q=aev l:=aeu h ah8 λx=>(hm x).trans ah9.symm
def RlP(q l:List PlD):Prop:=ZD q∧∀x,x∈q↔x∈l
theorem aia{q l:List PlD}{t:Nat}(h:RlP q (l.take t))(ht:t<l.length)(h0:0<t)(he:l[t]=l[t-1]):RlP q (l.take (t+1)):=⟨h.1,λx=>by
 rw[h.2,List.take_succ_eq_append_getElem ht,List.mem_append,List.mem_singleton]
 refine⟨.inl,λhx=>hx.elim id λhx=>?_⟩
 rw[hx,he]
 exact List.mem_take_iff_getElem.2 ⟨t-1,by omega,rfl⟩⟩
theorem ajW{q l:List PlD}{t:Nat}(hl:LeP l)(h:RlP q (l.take t))(ht:t<l.length)(h0:0<t)(he:l[t]≠l[t-1]):RlP (q++[l[t]]) (l.take (t+1)):=by
 have hp:=List.pairwise_iff_getElem.1 hl
 refine⟨List.pairwise_append.2 ⟨h.1,List.pairwise_singleton _ _,λx hx y hy=>?_⟩,λx=>by rw[List.mem_append,h.2,List.take_succ_eq_append_getElem ht,List.mem_append]⟩
 rw[List.mem_singleton.1 hy]
 obtain⟨j,hj,rfl⟩:=List.mem_take_iff_getElem.1 ((h.2 x).1 hx)
 have h1:=hp (t-1) t (by omega) ht (by omega)
 have h2:zJ l[t-1] l[t]<0:=by
  rcases Int.lt_or_eq_of_le h1 with h|h
  ·exact h
  ·exact absurd (xW.1 h).symm he
 rcases Nat.lt_or_ge j (t-1)with hlt|hge
 ·exact ahb (hp j (t-1) (by omega) (by omega) hlt) h2
 ·obtain rfl:j=t-1:=by omega
  exact h2
abbrev vB(c:List Value)(i:Nat):List Value:=(c.drop (i*2)).take 2
theorem k7{r:Gh}{c:List Value}{p:PlD}(h:PlG r c p):c.length=2:=by obtain⟨v,rfl,_⟩:=h;rfl
theorem amz{r:Gh}{c:List Value}{p:PlD}(h:PlG r c p):∀u∈c,u.oneCell'=true:=by
 obtain⟨v,rfl,hl⟩:=h
 obtain⟨q,k,rfl,_⟩:=hl.sl.shape
 simp[Value.oneCell']
theorem alI{c cs:List Value}{i m:Nat}(hc:i*2+2≤c.length)(hl:cs.length=2)(hm:i<m):vB (c.take (i*2)++cs++c.drop (i*2+2)) m=vB c m:=by
 have e:(c.take (i*2)++cs++c.drop (i*2+2)).drop (m*2)=c.drop (m*2):=by
  rw[List.drop_append,List.drop_of_length_le (by rw[gla,List.length_take,hl];omega),List.nil_append,gla,List.length_take,hl,List.drop_drop]
  congr 1;omega
 rw[vB,e]
theorem akW{c cs:List Value}{i:Nat}(hc:i*2+2≤c.length)(hl:cs.length=2):(c.take (i*2)++cs++c.drop (i*2+2)).take ((i+1)*2)=c.take (i*2)++cs:=by
 rw[List.take_append_of_le_length (by rw[gla,List.length_take,hl];omega),List.take_of_length_le (by rw[gla,List.length_take,hl];omega)]
abbrev ajX:Value:=.func (.func Tryz.Zl) #[] #[]
theorem ajY{p q:PlD}{c d:List Value}{X:Nat→Prop}{w0 w:World}{r:Gh}{L:List Asr}{K:Value→World→Prop}(S:StX X w0 r w L)(hp:PlG r c p)(hq:PlG r d q)(h:∀w',StX X w0 r w' L→K (.bool (eqb p q)) w'):zF Tryz.prog ajX #[.agg c.toArray,.agg d.toArray] w K:=
 af5 (by kernel_rfl) (aae S.holds hp hq λw' e=>h w' (S.go e))
theorem Vy{ps:List PlD}{b n cap:Nat}{c:List Value}{X:Nat→Prop}{w0 w:World}{r:Gh}{L:List Asr}{K:Value→World→Prop}(S:StX X w0 r w (.cell b c 59::L))(hn:n=ps.length)(hb:n≤1000000000)(hnc:n≤cap)(hc:c.length=cap*2)(hs:LeP ps)
  (hrow:∀(i:Nat)(hi:i<ps.length),PlG r (vB c i) ps[i])
  (h:∀q c' w',RlP q ps→q.length≤cap→StX X w0 r w' (.cell b c' 59::L)→c'.length=cap*2→RowOf 2 (PlG r) (c'.take (q.length*2)) q→K (.slice (some ⟨b,0,none⟩) q.length cap) w'):
  zd Tryz.prog Tryz.zZ #[.slice (some ⟨b,0,none⟩) n cap,ajX] w K:=by
 subst hn
 refine Tryz.k8 ?_
 unfold Tryz.xi
 have hrow0:∀k,k≤ps.length→RowOf 2 (PlG r) (c.take (k*2)) (ps.take k):=λk hk=>⟨by rw[List.length_take,List.length_take];omega,λi hi=>by
  rw[List.length_take]at hi
  rw[List.getElem_take,List.drop_take,List.take_take,Nat.min_eq_left (by omega)]
  exact hrow i (by omega)⟩
 have hall:RlP ps ps→∀w',StX X w0 r w' (.cell b c 59::L)→K (.slice (some ⟨b,0,none⟩) ps.length cap) w':=λhr w' S=>
  h ps c w' hr hnc S hc (by have:=hrow0 ps.length (Nat.le_refl _);rwa[List.take_length]at this)
 have h1:RlP (ps.take 1) (ps.take 1):=⟨by
  cases ps with
  |nil=>exact List.Pairwise.nil
  |cons x l=>exact List.pairwise_singleton _ _,λx=>Iff.rfl⟩
 refine gp_ ?_
 refine gp_ ?_
 refine zf (λhlt=>?_) (λhge=>?_)
 ·refine hall ?_ w S
  rw[List.take_of_length_le (by omega)]at h1
  exact h1
 refine zh (ι:=Nat) (λi=>[.int .i64 (i:Nat)]) (λi w'=>1≤i∧i≤ps.length∧RlP (ps.take i) (ps.take i)∧StX X w0 r w' (.cell b c 59::L)) (λi=>ps.length-i) 1 rfl ⟨Nat.le_refl _,by omega,h1,S⟩ ?_
 clear S
 rintro k d w4 ⟨hk1,hk2,hr,S⟩ K1 hK1
 rw[gdz]
 refine gp_ ?_
 refine gp_ ?_
 refine zf (λhlt=>?_) (λhge=>?_)
 rotate_left
 ·rw[List.take_of_length_le (by omega)]at hr
  exact hall hr w4 S
 have hlt:k<ps.length:=by omega
 have S:=S.go (Ext.drew _)
 refine s_c (by omega) ?_
 rw[show 0+((k:Nat):Int).toNat*2=k*2 by omega]
 refine S.ldN (b:=b) (vs:=vB c k) ?_ rfl (k7 (hrow k hlt))
 refine gp_ ?_
 refine s_c (by omega) ?_
 rw[show 0+((k:Int)-1).toNat*2=(k-1)*2 by omega]
 refine S.ldN (b:=b) (vs:=vB c (k-1)) ?_ rfl (k7 (hrow (k-1) (by omega)))
 refine ajY S (hrow k hlt) (hrow (k-1) (by omega)) λw5 S=>?_
 refine c_b (λhe=>?_) (λhne=>?_)
 rotate_left
 ·have hne:ps[k]≠ps[k-1]:=λe=>by rw[e,agM]at hne;cases hne
  refine gp_ ?_
  refine hK1 (k+1) _ ⟨by omega,hlt,?_,S⟩ (by omega)
  have:=ajW hs hr hlt (by omega) hne
  rw[← List.take_succ_eq_append_getElem hlt]at this
  exact this
 have he:=vV.1 he
 clear hK1 hall
 refine gp_ ?_
 rw[if_neg (by omega),Option.map_some,xv,tnc,Nat.zero_add]
 have hr2:=aia hr hlt (by omega) he
 refine zh (ι:=Nat×Nat×List PlD×List Value) (λi=>[.int .i64 (i.1:Nat),.int .i64 (i.2.1:Nat)]) (λi w'=>1≤i.2.1∧i.1+1≤k+i.2.1∧k+i.2.1≤ps.length∧i.2.2.1.length=i.1∧RlP i.2.2.1 (ps.take (k+i.2.1))∧i.2.2.2.length=cap*2∧RowOf 2 (PlG r) (i.2.2.2.take (i.1*2)) i.2.2.1∧
  (∀(m:Nat)(hm:m<ps.length),k+i.2.1≤m+1→PlG r (vB i.2.2.2 m) ps[m])∧StX X w0 r w' (.cell b i.2.2.2 59::L)) (λi=>ps.length-i.2.1) (k,1,ps.take k,c) (by simp) ⟨Nat.le_refl _,Nat.le_refl _,hlt,by rw[List.length_take];omega,hr2,hc,hrow0 k (by omega),λm hm _=>hrow m hm,S⟩ ?_
 clear S hr hr2
 rintro⟨i,t,q,c1⟩ d9 w9 ⟨ht,hit,hkt,hq,hr,hc1,hx,hrest,S⟩ K6 hK6
 simp only at ht hit hkt hq hr hc1 hx hrest S⊢
 simp only[gdz,gds]
 refine gp_ ?_
 refine gp_ ?_
 refine zf (λhlt2=>?_) (λhge2=>?_)
 ·have hlt2:k+t<ps.length:=by omega
  have hg1:=hrest (k+t) hlt2 (by omega)
  have hg2:=hrest (k+t-1) (by omega) (by omega)
  have S:=S.go (Ext.drew _)
  refine zn (λs w'=>∃i' q' c',s=[.int .i64 (i':Nat)]∧i'≤k+t∧q'.length=i'∧RlP q' (ps.take (k+t+1))∧c'.length=cap*2∧RowOf 2 (PlG r) (c'.take (i'*2)) q'∧
   (∀(m:Nat)(hm:m<ps.length),k+t≤m→PlG r (vB c' m) ps[m])∧StX X w0 r w' (.cell b c' 59::L)) (λK10 hK10=>?_) ?_
  rotate_left
  ·clear S
   rintro _ w13 ⟨i',q',c',rfl,g1,g2,g3,g4,g5,g6,S⟩ d13
   rw[gdz]
   refine gp_ ?_
   rw[show ((t:Int)+1)=((t+1:Nat):Int)by omega]
   exact hK6 (i',t+1,q',c') _ ⟨by show 1≤t+1;omega,by show i'+1≤k+(t+1);omega,by show k+(t+1)≤ps.length;omega,g2,g3,g4,g5,λm hm hkm=>g6 m hm (by change k+(t+1)≤m+1 at hkm;omega),S⟩ (by show ps.length-(t+1)<ps.length-t;omega)
  refine s_c (by omega) ?_
  rw[show k*2+((t:Nat):Int).toNat*2=(k+t)*2 by omega]
  refine S.ldN (b:=b) (vs:=vB c1 (k+t)) ?_ rfl (k7 hg1)
  refine gp_ ?_
  refine s_c (by omega) ?_
  rw[show k*2+((t:Int)-1).toNat*2=(k+t-1)*2 by omega]
  refine S.ldN (b:=b) (vs:=vB c1 (k+t-1)) ?_ rfl (k7 hg2)
  refine ajY S hg1 hg2 λw14 S=>?_
  refine gp_ ?_
  by_cases he2:ps[k+t]=ps[k+t-1]
  ·refine c_f (by rw[he2,agM];rfl) ?_
   exact hK10 _ _ ⟨i,q,c1,rfl,by omega,hq,aia hr hlt2 (by omega) he2,hc1,hx,λm hm hkm=>hrest m hm (by omega),S⟩
  ·refine c_t (by rw[amp he2];rfl) ?_
   refine s_c (by omega) ?_
   rw[show k*2+((t:Nat):Int).toNat*2=(k+t)*2 by omega]
   refine S.ldN (b:=b) (vs:=vB c1 (k+t)) ?_ rfl (k7 hg1)
   refine s_c (by omega) ?_
   rw[show 0+((i:Nat):Int).toNat*2=i*2 by omega]
   refine S.stN (b:=b) (cs:=(vB c1 (k+t)).toArray) (λw15 S=>?_) (by omega) (by simpa using k7 hg1) (by simpa using amz hg1)
   have S:StX X w0 r w15 (.cell b (c1.take (i*2)++vB c1 (k+t)++c1.drop (i*2+2)) 59::L):=S
   refine gp_ ?_
   rw[show ((i:Int)+1)=((i+1:Nat):Int)by omega]
   refine hK10 _ _ ⟨i+1,q++[ps[k+t]],c1.take (i*2)++vB c1 (k+t)++c1.drop (i*2+2),rfl,by omega,by rw[gla,hq];rfl,ajW hs hr hlt2 (by omega) he2,?_,?_,λm hm hkm=>?_,S⟩
   ·rw[gla,gla,List.length_take,List.length_drop,k7 hg1];omega
   ·rw[akW (by omega) (k7 hg1)]
    exact hx.snoc (k7 hg1) hg1
   ·rw[alI (by omega) (k7 hg1) (by omega)]
    exact hrest m hm (by omega)
 ·have hke:k+t=ps.length:=by omega
  rw[hke,List.take_length]at hr
  refine s_c (by omega) ?_
  rw[if_neg (by omega),Option.map_some,xv,tnc,Nat.zero_add]
  refine S.clr (b:=b) (by
   have e:(List.length [Value.int .i64 0,Value.slice none 0 0])=2:=rfl
   rw[e];omega) (by simp[Value.oneCell']) λc2 w16 hc2 ht2 S=>?_
  refine s_c (by omega) ?_
  rw[tnc]
  subst hq
  exact h q c2 w16 hr (by omega) S (by omega) (by rw[ht2];exact hx)
def zK(p:PtD):List PlD:=(zs p).map (·.pl)++((if(p.op=4∨p.op=10)∨p.op=11 then [p.fr]else [])++(if(decide (1≤p.op)&&decide (p.op≤8))=true then [p.to]else []))
noncomputable def addL(u:UnD)(g:GrD)(l:List PlD):List PlD:=l.flatMap λp=>pfxs (heldW u.ss g.tys p)
def locsL(n:Nat):List PlD:=(List.range n).map λi:Nat=>⟨(i:Int),[]⟩
noncomputable def zq(u:UnD)(g:GrD):List PlD:=aev (addL u g (locsL g.tys.length++g.pts.flatMap zK))
theorem afc{u:UnD}{g:GrD}{l:List PlD}{p:PlD}:addL u g (l++[p])=addL u g l++pfxs (heldW u.ss g.tys p):=by
 rw[addL,List.flatMap_append,List.flatMap_singleton];rfl
theorem acz{u:UnD}{g:GrD}{p:PlD}(h:OkP u g p):(heldW u.ss g.tys p).ps.length≤8:=by
 have:=h.few
 unfold heldW
 split
 ·show(p.ps.take _).length≤8
  rw[List.length_take];omega
 ·exact this
theorem acA{u:UnD}{g:GrD}:∀{l:List PlD},(∀p∈l,OkP u g p)→(addL u g l).length≤9*l.length
 |[],_=>gzl _
 |p::l,h=>by
  have ih:=acA (l:=l) λx hx=>h x (List.mem_cons_of_mem _ hx)
  have:=acz (h p List.mem_cons_self)
  rw[addL,List.flatMap_cons,gla,Z4,List.length_cons]
  change _+(addL u g l).length≤_
  omega
structure FnM(u:UnD)(fn:Int)(g:GrD):Prop where
 may:MayU u
 at':u.fs[fn.toNat]? = some g
 fn0:0≤fn
 head:HeadU u fn.toNat g
 pts:∀p∈g.pts,yw u g p=true
theorem fnM{u:UnD}{fn q:Int}{g:GrD}(hi:isU u fn q=true)(hg:u.fs[fn.toNat]? = some g):FnM u fn g:=by
 obtain⟨hM,hf0,hlt,_,_⟩:=JV hi
 have hge:=(List.getElem?_eq_some_iff.1 hg).2
 have hH:=hM.hd hlt
 have hpt:=hM.pts _ (gem hlt)
 rw[hge]at hH hpt
 exact⟨hM,hg,hf0,hH,hpt⟩
theorem FnM.fine{u:UnD}{fn:Int}{g:GrD}(F:FnM u fn g):yQ u.ss g.tys:=F.head.fine F.may.ok
theorem FnM.to{u:UnD}{fn:Int}{g:GrD}(F:FnM u fn g){p:PtD}(hp:p∈g.pts):OkP u g p.to:=by
 have h:=F.pts p hp
 by_cases ho:1≤p.op∧p.op≤8
 ·right
  rw[← xj F.may.ok F.fine]
  exact JW h ho
 ·left
  have h2:=Z1 h
  have hr:=QQ h2
  have hz:xp p.to=true:=by
   have hc:p.op=9∨p.op=10∨p.op=11∨p.op=12∨p.op=13∨p.op=14:=by omega
   cases hf:xp p.to with
   |true=>rfl
   |false=>
    rw[ptG]at h2
    rcases hc with hc|hc|hc|hc|hc|hc<;>simp [hc,hf,zG,qE]at h2
  rw[xp,gba,gdt,gdt]at hz
  exact List.eq_nil_of_length_eq_zero hz.2
theorem FnM.oper{u:UnD}{fn:Int}{g:GrD}(F:FnM u fn g){p:PtD}(hp:p∈g.pts){o:OpD}(ho:o∈zs p):(zm u.ss g.tys o.pl).2.2=true:=by
 rw[zs,List.mem_filter,zV,Bool.or_eq_true,gdt,gdt]at ho
 have hg:=ajL (F.pts p hp) o (by
  rw[agL,List.mem_filter,aiL,gdt]
  exact⟨ho.1,by omega⟩)
 exact(ajK hg ho.2).1
theorem FnM.pls{u:UnD}{fn:Int}{g:GrD}(F:FnM u fn g){p:PtD}(hp:p∈g.pts):∀x∈zK p,OkP u g x:=λx hx=>by
 rw[zK,List.mem_append,List.mem_append]at hx
 rcases hx with hx|hx|hx
 ·obtain⟨o,ho,rfl⟩:=List.mem_map.1 hx
  right;rw[← xj F.may.ok F.fine];exact F.oper hp ho
 ·split at hx
  ·rename_i ho
   rw[List.mem_singleton.1 hx]
   right;rw[← xj F.may.ok F.fine];exact acp (F.pts p hp) (by omega)
  ·cases hx
 ·split at hx
  ·rw[List.mem_singleton.1 hx];exact F.to hp
  ·cases hx
theorem aa3{p:PtD}(h:p.args.length≤1000):(zK p).length≤1004:=by
 have h1:=List.length_filter_le zV (p.a::p.b::p.args)
 have h2:(if(p.op=4∨p.op=10)∨p.op=11 then [p.fr]else []).length≤1:=by split<;>simp
 have h3:(if(decide (1≤p.op)&&decide (p.op≤8))=true then [p.to]else []).length≤1:=by split<;>simp
 rw[zK,gla,gla,List.length_map]
 change (zs p).length≤_ at h1
 simp only[List.length_cons]at h1
 omega
structure LkM(r:Gh)(b:Nat)(u:UnD)(g:GrD)(ps:List PlD):Prop where
 ss:∃p0 cap0,(Ob r λw=>w.cell? ⟨b,0,none⟩=some (.slice p0 u.ss.length cap0))∧StG r p0 u.ss
 pn:Ob r λw=>w.cell? ⟨b,6,none⟩=some (.int .i64 g.pn)
 tys:∃p cap,(Ob r λw=>w.cell? ⟨b,7,none⟩=some (.slice p g.tys.length cap))∧SlB 5 r (TyC r) (.slice p g.tys.length cap) g.tys
 pts:∃p cap,(Ob r λw=>w.cell? ⟨b,9,none⟩=some (.slice p g.pts.length cap))∧SlB 21 r (PtG r) (.slice p g.pts.length cap) g.pts
 pth:∃p cap,(Ob r λw=>w.cell? ⟨b,10,none⟩=some (.slice p ps.length cap))∧SlG 2 r (PlG r) (.slice p ps.length cap) ps
theorem LkM.up{r s:Gh}{b:Nat}{u:UnD}{g:GrD}{ps:List PlD}(h:LkM r b u g ps)[l:Le r s]:LkM s b u g ps:=by
 obtain⟨⟨p0,c0,h1,h2⟩,h5,⟨p2,c2,h6,h7⟩,⟨p3,c3,h8,h9⟩,⟨p4,c4,h11,h12⟩⟩:=h
 exact⟨⟨p0,c0,h1.up,RepS.up h2⟩,h5.up,⟨p2,c2,h6.up,h7.up' l λ_ _ h=>TyG.up h⟩,⟨p3,c3,h8.up,h9.up' l λ_ _ h=>PtG.up h⟩,⟨p4,c4,h11.up,h12.up' l λ_ _ h=>PlG.up h⟩⟩
theorem vC{p:PtD}{c:List Value}{w:World}{r:Gh}{K:Value→World→Prop}(hr:Holds r w)(hp:PtG r c p)(hb:p.args.length≤1000)
  (h:∀v s w',Ext w w'→New w s w'→SlG 4 (r.or s) (OpG (r.or s)) v (zs p)→K v w'):zd Tryz.prog Tryz.xI #[.agg c.toArray] w K:=by
 refine adF hr hp hb λb cap c' w' S hc hcap hrow=>?_
 obtain⟨S,a⟩:=StX.frzNew S b
 refine h _ (Go.Sh.one b c' 61) w' S.ext (S.newOf a) ?_
 have hk:Holds (r.or (Go.Sh.one b c' 61)) w':=S.holds
 refine RowOf.sl (xs:=c'.take ((zs p).length*4)) (hrow.mono λc x hx=>OpG.up hx) (by simp) hcap (λw k=>?_) (by decide) ⟨w',hk⟩
 exact(Sl.blk (yH (b:=b) (c:=c') (T:=61) w (k.le (h:=inferInstance)))).take _
section
variable {u:UnD} {g:GrD} {p0 qt:Option Addr} {cap0 capt bx b8:Nat} {vf vo vn vp:Value} {w0 w:World} {r:Gh} {M:List Asr} {K:Value→World→Prop}
def MvJ(u:UnD)(g:GrD)(p0:Option Addr)(cap0:Nat)(vf vo:Value)(qt:Option Addr)(capt:Nat)(vn vp:Value)(bx b8:Nat)(w0:World)(r:Gh)(M:List Asr)(l:List PlD)(w:World):Prop:=
 ∃s v xs,Above w0 s∧RowOf 2 (PlG (r.or s)) xs (addL u g l)∧StX noX w0 (r.or s) w (mkJ u g p0 cap0 vf vo qt capt vn vp bx b8 M v (addL u g l).length xs)
theorem adI{l:List PlD}{p:PlD}{c:List Value}(J:MvJ u g p0 cap0 vf vo qt capt vn vp bx b8 w0 r M l w)
  (hst:StG r p0 u.ss) (hty:SlB 5 r (TyC r) (.slice qt g.tys.length capt) g.tys) (hs:(zw u.ss).2=0) (hf:yQ u.ss g.tys) (hp:∀s,Above w0 s→Holds (r.or s) w→PlG (r.or s) c p) (hok:OkP u g p) (hl:∀x∈l,OkP u g x) (hb:l.length≤2000000)
  (h:∀w',MvJ u g p0 cap0 vf vo qt capt vn vp bx b8 w0 r M (l++[p]) w'→K (.tuple #[]) w'):zF Tryz.prog (alj b8) #[.agg c.toArray] w K:=by
 obtain⟨s,v,xs,ha,hx,S⟩:=J
 have hfew:=acA hl
 refine am9 (r:=r.or s) S hst.up (hty.up' inferInstance λ_ _ h=>TyG.up h) hs hf (hp s ha S.holds) hok hx (by omega) λs2 v2 xs2 w2 a2 S2 hx2=>h w2 ⟨s.or s2,v2,xs2,ha.or' a2,?_,?_⟩
 ·rw[afc];exact hx2.mono λc x hx=>PlG.up (l:=⟨λb o ho=>Or.elim ho (λho=>Or.elim ho .inl λho=>.inr (.inl ho)) λho=>.inr (.inr ho)⟩) hx
 ·rw[afc];exact S2.reGh
end
theorem aib{u:UnD}{fn q:Int}:isU u fn q = !(((decide (fn<0)||decide (fn≥(u.fs.length:Int)))||decide (q≥((u.fs[fn.toNat]?.map λg=>(g.pts.length:Int)).getD 0))) || !QO u):=by
 rw[isU]
 by_cases h1:fn<0
 ·rw[gde h1,decide_eq_false (show¬0≤fn by omega)];rfl
 by_cases h2:fn≥(u.fs.length:Int)
 ·rw[gde h2,decide_eq_false (show¬fn<(u.fs.length:Int)by omega),Bool.and_false,Bool.or_true];rfl
 rw[decide_eq_false h1,decide_eq_false h2,gde (show 0≤fn by omega),gde (show fn<(u.fs.length:Int)by omega)]
 generalize ((u.fs[fn.toNat]?.map λg=>(g.pts.length:Int)).getD 0)=m
 by_cases h3:q≥m
 ·rw[gde h3,decide_eq_false (show¬q<m by omega)];simp
 ·rw[decide_eq_false h3,gde (show q<m by omega)];simp
section
variable {u:UnD} {g:GrD} {p0 qt:Option Addr} {cap0 capt bx b8:Nat} {vf vo vn vp:Value} {w0 w:World} {r s s2:Gh} {M:List Asr} {l:List PlD}
theorem MvJ.back(ha:Above w0 s)(ha2:Above w0 s2)(J:MvJ u g p0 cap0 vf vo qt capt vn vp bx b8 w0 ((r.or s).or s2) M l w):MvJ u g p0 cap0 vf vo qt capt vn vp bx b8 w0 r [] l w:=by
 obtain⟨s',v,xs,a',hx,S⟩:=J
 refine⟨(s.or s2).or s',v,xs,(ha.or' ha2).or' a',hx.mono λc x hx=>PlG.up (l:=⟨λb o ho=>?_⟩) hx,S.less (λb o ho=>?_) (.cons_cons _ (.cons_cons _ (.cons_cons _ (List.nil_sublist _))))⟩
 ·rcases ho with((h|h)|h)|h
  ·exact .inl h
  ·exact .inr (.inl (.inl h))
  ·exact .inr (.inl (.inr h))
  ·exact .inr (.inr h)
 ·rcases ho with h|(h|h)|h
  ·exact .inl (.inl (.inl h))
  ·exact .inl (.inl (.inr h))
  ·exact .inl (.inr h)
  ·exact .inr h
end
theorem aiX{u:UnD}{fn q:Int}{v:Value}{w:World}{r:Gh}{K:Value→World→Prop}(hr:Holds r w)(hu:UnG r v u)
  (h0:isU u fn q=false→∀w',Ext w w'→K (.tuple #[.pointer none,.int .i64 2]) w')
  (h1:isU u fn q=true→∀(g:GrD),u.fs[fn.toNat]? = some g→(256<(zq u g).length→∀w',Ext w w'→K (.tuple #[.pointer none,.int .i64 5]) w')∧
   ((zq u g).length≤256→∀s bx gb cap c p0 cap0 vf vo qt capt vn vp w',Above w s→GrG r [.string g.name,.int .i64 g.lv,vo,.int .i64 g.pn,.slice qt g.tys.length capt,vn,vp] g→UnG r (.agg #[.slice p0 u.ss.length cap0,vf,.int .i64 u.mn]) u→
    StX noX w (r.or s) w' [.cell bx (mkL u g p0 cap0 vf vo qt capt vn vp (.slice (some ⟨gb,0,none⟩) (zq u g).length cap)) 90,.cell gb c 59]→(zq u g).length≤cap→RowOf 2 (PlG (r.or s)) (c.take ((zq u g).length*2)) (zq u g)→
    K (.tuple #[.pointer (some ⟨bx,0,none⟩),.int .i64 0]) w')):zd Tryz.prog Tryz.qh #[v,.int .i64 fn,.int .i64 q] w K:=by
 refine Tryz.aiQ ?_
 unfold Tryz.ae5
 have hu0:=hu
 obtain⟨p0,cap0,vf,rfl,_,_,hst,hsl,hfn⟩:=hu
 obtain⟨qf,capf,rfl,_,_⟩:=hfn.sl.shape
 have hfl:u.fs.length≤9223372036854775807:=hfn.few
 have S:=St.start hr
 refine S.box λb3 w1 S=>?_
 have S:StX noX w r w1 [.cell b3 [.slice p0 u.ss.length cap0,.slice qf u.fs.length capf,.int .i64 u.mn] 25]:=S
 refine gp_ ?_
 refine zj (c:=decide (fn≥(u.fs.length:Int))) (λ_ K2 hK2=>by refine gg_ ?_;exact hK2) ?_
 refine zj (c:=decide (q≥((u.fs[fn.toNat]?.map λg=>(g.pts.length:Int)).getD 0))) (λhb K2 hK2=>?_) ?_
 ·simp only[Bool.or_eq_false_iff,decide_eq_false_iff_not]at hb
  have hlt:fn.toNat<u.fs.length:=by omega
  obtain⟨bf,of,cf,hqE,hcf,hgc,hfo⟩:=hfn.sl.get (by decide) hlt
  cases hqE
  rw[gqg hlt]at hK2
  obtain⟨x1,x2,x3,x4,y1,y2,y3,y4,rfl,hg0⟩:=Xi hgc
  refine gg_ ?_
  refine zg (S.at (hfo 6 _ rfl)) ?_
  refine gg_ ?_
  exact hK2
 refine x8 (c:=!QO u) (λ_ K2 hK2=>?_) λw5 e5=>?_
 ·refine S.ldB (b:=b3) ?_ rfl
  refine ahE S.holds hu0 λw5 e5=>?_
  refine gp_ ?_
  exact hK2 _ e5
 have S:=S.go e5
 refine c_b (λhbad=>?_) (λhgood=>?_)
 ·exact h0 (by rw[aib,hbad];rfl) _ S.ext
 have hi:isU u fn q=true:=by rw[aib,hgood];rfl
 clear h0 hgood
 obtain⟨_,hf0,hlt,_,_⟩:=JV hi
 have hgi:u.fs[fn.toNat]? = some u.fs[fn.toNat]:=gqg hlt
 have F:=fnM hi hgi
 obtain⟨h5,h1⟩:=h1 hi _ hgi
 obtain⟨bf,of,cf,hqE,hcf,hgc,hfo⟩:=hfn.sl.get (by decide) hlt
 cases hqE
 generalize u.fs[fn.toNat]=g at hgc h1 h5 F hgi
 obtain⟨x1,x2,x3,x4,y1,y2,y3,y4,rfl,hg0⟩:=Xi hgc
 obtain⟨_,_,_,_,hEE,m1,m2,m3,m4⟩:=id hg0
 cases hEE
 have hs:=F.may.ok
 have hf:=F.fine
 have hH:=F.head
 have hp24:=hH.pt1024
 have ht512:=hH.ty512
 have ht1:0<g.tys.length:=by have:=hH.pn0;have:=hH.pn1;omega
 have harg:∀p∈g.pts,p.args.length≤1000:=λp hp=>jw F.may (F.pts p hp)
 have hpls:∀x∈g.pts.flatMap zK,OkP u g x:=λx hx=>by
  obtain⟨p,hp,hx⟩:=List.mem_flatMap.1 hx
  exact F.pls hp x hx
 have hloc:∀n,∀x∈locsL n,OkP u g x:=λn x hx=>by
  obtain⟨i,_,rfl⟩:=List.mem_map.1 hx
  exact .inl rfl
 have S:=S.go (Ext.drew _)
 refine zn (λy w'=>∃b8 bx,y=[.pointer (some ⟨b8,0,none⟩)]∧MvJ u g p0 cap0 (.slice (some ⟨bf,of,none⟩) u.fs.length capf) (.slice x1 g.outs.length y1) x2 y2 (.slice x3 g.nms.length y3) (.slice x4 g.pts.length y4) bx b8 w r [] [] w') (λK15 hK15=>?_) ?_
 ·refine S.ldB (b:=b3) ?_ rfl
  refine gg_ ?_
  refine zp (n:=7) hcf (λj v hj=>by simpa using S.at (hfo j v hj)) ?_
  refine zy (cs:=(mkL u g p0 cap0 (.slice (some ⟨bf,of,none⟩) u.fs.length capf) (.slice x1 g.outs.length y1) x2 y2 (.slice x3 g.nms.length y3) (.slice x4 g.pts.length y4) (.slice none 0 0)).toArray) (by kernel_rfl) ?_
  have fin:∀b8 bx w',StX noX w r w' [.cell bx (mkL u g p0 cap0 (.slice (some ⟨bf,of,none⟩) u.fs.length capf) (.slice x1 g.outs.length y1) x2 y2 (.slice x3 g.nms.length y3) (.slice x4 g.pts.length y4) (.slice none 0 0)) 90,.cell b8 [.pointer (some ⟨bx,0,none⟩)] 78]→K15 [.pointer (some ⟨b8,0,none⟩)] w':=λb8 bx w' S=>by
   have S:=S.ownNil 59 2
   refine hK15 _ _ ⟨b8,bx,rfl,nothing,.slice none 0 0,[],Above.no,RowOf.nil,?_⟩
   exact S.to (r.or nothing)
  refine⟨?_,?_⟩
  ·refine S.box λbx w19 S=>?_
   refine S.alU λb8 w20 S=>?_
   refine S.st (b:=b8) (λw21 S=>?_) (by simp)
   have S:StX noX w r w21 [.cell b8 [.pointer (some ⟨bx,0,none⟩)] 78,.cell bx (mkL u g p0 cap0 (.slice (some ⟨bf,of,none⟩) u.fs.length capf) (.slice x1 g.outs.length y1) x2 y2 (.slice x3 g.nms.length y3) (.slice x4 g.pts.length y4) (.slice none 0 0)) 90,.cell b3 [.slice p0 u.ss.length cap0,.slice (some ⟨bf,of,none⟩) u.fs.length capf,.int .i64 u.mn] 25]:=S
   exact fin b8 bx w21 ((S.permO (.swap _ _ _)).less (λ_ _ h=>h) (.cons_cons _ (.cons_cons _ (List.nil_sublist _))))
  ·refine S.alU λb8 w20 S=>?_
   refine S.box λbx w19 S=>?_
   refine S.st (b:=b8) (λw21 S=>?_) (by simp)
   have S:StX noX w r w21 [.cell bx (mkL u g p0 cap0 (.slice (some ⟨bf,of,none⟩) u.fs.length capf) (.slice x1 g.outs.length y1) x2 y2 (.slice x3 g.nms.length y3) (.slice x4 g.pts.length y4) (.slice none 0 0)) 90,.cell b8 [.pointer (some ⟨bx,0,none⟩)] 78,.cell b3 [.slice p0 u.ss.length cap0,.slice (some ⟨bf,of,none⟩) u.fs.length capf,.int .i64 u.mn] 25]:=S
   exact fin b8 bx w21 (S.less (λ_ _ h=>h) (.cons_cons _ (.cons_cons _ (List.nil_sublist _))))
 repeat clear S
 clear e5
 rintro _ w18 ⟨b8,bx,rfl,J⟩ d
 rw[gdz]
 generalize (Value.slice (some ⟨bf,of,none⟩) u.fs.length capf)=vf at *
 refine gp_ ?_
 obtain⟨s,v,xs,ha,hx,S⟩:=J
 refine gg_ ?_
 refine zh (ι:=Nat) (λi=>[.int .i64 (i:Nat)]) (λi w'=>i≤g.tys.length∧MvJ u g p0 cap0 vf (.slice x1 g.outs.length y1) x2 y2 (.slice x3 g.nms.length y3) (.slice x4 g.pts.length y4) bx b8 w r [] (locsL i) w') (λi=>g.tys.length-i) 0 rfl ⟨gzl _,s,v,xs,ha,hx,S⟩ ?_
 clear S hx ha
 rintro i d5 w5 ⟨hi,J⟩ K2 hK2
 rw[gdz]
 refine gp_ ?_
 refine zf (λhlt=>?_) (λhge=>?_)
 ·have hlt:i<g.tys.length:=by omega
  refine zy (cs:=#[.int .i64 (i:Nat),.slice none 0 0]) (by kernel_rfl) ?_
  refine adI J hst m2 hs hf (p:=⟨(i:Nat),[]⟩) (c:=[.int .i64 (i:Nat),.slice none 0 0]) (λs ha hh=>⟨_,rfl,jI⟩) (.inl rfl) (hloc i) (by simp[locsL];omega) λw6 J=>?_
  refine gp_ ?_
  rw[show ((i:Int)+1)=((i+1:Nat):Int)by omega]
  refine hK2 (i+1) _ ⟨hlt,?_⟩ (by omega)
  have e:locsL (i+1)=locsL i++[⟨(i:Nat),[]⟩]:=by rw[locsL,List.range_succ,List.map_append];rfl
  rw[e];exact J
 obtain rfl:i=g.tys.length:=by omega
 clear hK2 K2 hge hi
 obtain⟨s,v,xs,ha,hx,S⟩:=J
 refine gg_ ?_
 have hlq:∀q,q≤g.pts.length→((g.pts.take q).flatMap zK).length≤1004*q:=λq hq=>by
  induction q with
  |zero=>simp
  |succ q ih=>
   have:=aa3 (harg _ (gem (show q<g.pts.length by omega)))
   have:=ih (by omega)
   rw[List.take_succ_eq_append_getElem (by omega),List.flatMap_append,List.flatMap_singleton,gla]
   omega
 have hall:∀q,∀x∈locsL g.tys.length++(g.pts.take q).flatMap zK,OkP u g x:=λq x hx=>by
  rcases List.mem_append.1 hx with hx|hx
  ·exact hloc _ x hx
  ·obtain⟨p,hp,hx⟩:=List.mem_flatMap.1 hx
   exact hpls x (List.mem_flatMap.2 ⟨p,List.mem_of_mem_take hp,hx⟩)
 refine zh (ι:=Nat) (λi=>[.int .i64 (i:Nat)]) (λi w'=>i≤g.pts.length∧MvJ u g p0 cap0 vf (.slice x1 g.outs.length y1) x2 y2 (.slice x3 g.nms.length y3) (.slice x4 g.pts.length y4) bx b8 w r [] (locsL g.tys.length++(g.pts.take i).flatMap zK) w') (λi=>g.pts.length-i) 0 rfl ⟨gzl _,s,v,xs,ha,by simpa using hx,by simpa using S⟩ ?_
 clear S hx ha
 rintro i d6 w6 ⟨hi,J⟩ K2 hK2
 rw[gdz]
 refine gp_ ?_
 refine zf (λhlt=>?_) (λhge=>?_)
 ·have hlt:i<g.pts.length:=by omega
  refine zn (λy w'=>y=[]∧MvJ u g p0 cap0 vf (.slice x1 g.outs.length y1) x2 y2 (.slice x3 g.nms.length y3) (.slice x4 g.pts.length y4) bx b8 w r [] (locsL g.tys.length++(g.pts.take (i+1)).flatMap zK) w') (λK36 hK36=>?_) ?_
  rotate_left
  ·clear J
   rintro _ w7 ⟨rfl,J⟩ d7
   refine gp_ ?_
   rw[show ((i:Int)+1)=((i+1:Nat):Int)by omega]
   exact hK2 (i+1) _ ⟨hlt,J⟩ (by omega)
  clear hK2 K2
  obtain⟨s,v,xs,ha,hx,S⟩:=J
  obtain⟨bq,oq,cq,hqE2,hcq,hpc,hpo⟩:=m4.sl.get (by decide) hlt
  cases hqE2
  have hpm:=gem hlt
  have hargs:=harg _ hpm
  have hokp:=F.pls hpm
  have hokl:=hall i
  have hbl:(locsL g.tys.length++(g.pts.take i).flatMap zK).length≤1900000:=by
   have:=hlq i (by omega)
   have h2:(locsL g.tys.length).length=g.tys.length:=by simp[locsL]
   rw[gla,h2];omega
  rw[List.take_succ_eq_append_getElem hlt,List.flatMap_append,List.flatMap_singleton,← List.append_assoc]at hK36
  have hpfew:=aa3 hargs
  generalize locsL g.tys.length++(g.pts.take i).flatMap zK=l at *
  generalize g.pts[i]=p at *
  refine gp_ ?_
  refine zp (n:=21) hcq (λj v hj=>by simpa using S.at (hpo j v hj)) ?_
  obtain⟨q1,q2,q3,q4,q5,c1,c2,c3,c4,c5,rfl,hp0⟩:=xZ hpc
  refine S.al λb12 w7 S=>?_
  refine S.stB (b:=b12) λw8 S=>?_
  have S:StX noX w (r.or s) w8 (.cell b12 (ptL p q1 q2 q3 q4 q5 c1 c2 c3 c4 c5) 94::mkJ u g p0 cap0 vf (.slice x1 g.outs.length y1) x2 y2 (.slice x3 g.nms.length y3) (.slice (some ⟨bq,oq,none⟩) g.pts.length y4) bx b8 [] v (addL u g l).length xs):=S
  refine S.ldB (b:=b12) ?_
  refine vC S.holds (PtG.up hp0) hargs λv9 s2 w9 e9 n9 h9=>?_
  obtain⟨S,_,a9⟩:=S.tell e9 n9
  obtain⟨q9,k9,rfl,_,_⟩:=h9.shape
  have S:StX noX w ((r.or s).or s2) w9 (mkJ u g p0 cap0 vf (.slice x1 g.outs.length y1) x2 y2 (.slice x3 g.nms.length y3) (.slice (some ⟨bq,oq,none⟩) g.pts.length y4) bx b8 [.cell b12 (ptL p q1 q2 q3 q4 q5 c1 c2 c3 c4 c5) 94] v (addL u g l).length xs):=S.permO (List.perm_append_comm (l₁:=mkJ u g p0 cap0 vf (.slice x1 g.outs.length y1) x2 y2 (.slice x3 g.nms.length y3) (.slice (some ⟨bq,oq,none⟩) g.pts.length y4) bx b8 [] v (addL u g l).length xs) (l₂:=[.cell b12 (ptL p q1 q2 q3 q4 q5 c1 c2 c3 c4 c5) 94]))
  have hst':StG ((r.or s).or s2) p0 u.ss:=RepS.up hst
  have m2':SlB 5 ((r.or s).or s2) (TyC ((r.or s).or s2)) (.slice x2 g.tys.length y2) g.tys:=m2.up' inferInstance λ_ _ h=>TyG.up h
  have hp1:PtG ((r.or s).or s2) (ptL p q1 q2 q3 q4 q5 c1 c2 c3 c4 c5) p:=PtG.up hp0
  obtain⟨_,_,_,_,_,hE,k1,k2,k3,k4,k5⟩:=id hp1
  cases hE
  have hol:(zs p).length≤1002:=by
   have h1:=List.length_filter_le zV (p.a::p.b::p.args)
   change (zs p).length≤_ at h1
   simp only[List.length_cons]at h1
   omega
  refine gp_ ?_
  refine zh (ι:=Nat) (λj=>[.int .i64 (j:Nat)]) (λj w'=>j≤(zs p).length∧MvJ u g p0 cap0 vf (.slice x1 g.outs.length y1) x2 y2 (.slice x3 g.nms.length y3) (.slice (some ⟨bq,oq,none⟩) g.pts.length y4) bx b8 w ((r.or s).or s2) [.cell b12 (ptL p q1 q2 q3 q4 q5 c1 c2 c3 c4 c5) 94] (l++((zs p).take j).map (·.pl)) w') (λj=>(zs p).length-j) 0 rfl ⟨gzl _,nothing,v,xs,Above.no,by rw[List.take_zero,List.map_nil,List.append_nil];exact hx.mono λc x hx=>PlG.up hx,by rw[List.take_zero,List.map_nil,List.append_nil];exact S.to _⟩ ?_
  clear S
  rintro j dj wj ⟨hj,J⟩ K43 hK43
  rw[gdz]
  refine gp_ ?_
  refine zf (λhlt2=>?_) (λhge2=>?_)
  ·have hlt2:j<(zs p).length:=by omega
   obtain⟨s',v',xs',ha',hx',S⟩:=J
   obtain⟨bo,oo,co,hoE,hco,hoc,hoo⟩:=h9.get (by decide) hlt2
   cases hoE
   have hoko:=hokp _ (List.mem_append_left _ (List.mem_map_of_mem (gem hlt2)))
   have hokj:∀x∈l++((zs p).take j).map (·.pl),OkP u g x:=λx hx=>by
    rcases List.mem_append.1 hx with hx|hx
    ·exact hokl x hx
    ·obtain⟨o,ho,rfl⟩:=List.mem_map.1 hx
     exact hokp _ (List.mem_append_left _ (List.mem_map_of_mem (List.mem_of_mem_take ho)))
   have hbj:(l++((zs p).take j).map (·.pl)).length≤1950000:=by rw[gla,List.length_map,List.length_take];omega
   have hKj:=hK43 (j+1)
   rw[List.take_succ_eq_append_getElem hlt2,List.map_append,← List.append_assoc]at hKj
   generalize (zs p)[j]=o at *
   generalize l++((zs p).take j).map (·.pl)=lj at *
   refine gp_ ?_
   refine zp (n:=4) hco (λj v hj=>by simpa using S.at (hoo j v hj)) ?_
   obtain⟨qo,ko,rfl⟩:=qW hoc
   refine S.al λb14 w10 S=>?_
   refine S.stB (b:=b14) λw11 S=>?_
   have S:StX noX w (((r.or s).or s2).or s') w11 (.cell b14 [.int .u8 o.k,.int .i64 o.n,.int .i64 o.pl.l,.slice qo o.pl.ps.length ko] 61::mkJ u g p0 cap0 vf (.slice x1 g.outs.length y1) x2 y2 (.slice x3 g.nms.length y3) (.slice (some ⟨bq,oq,none⟩) g.pts.length y4) bx b8 [.cell b12 (ptL p q1 q2 q3 q4 q5 c1 c2 c3 c4 c5) 94] v' (addL u g lj).length xs'):=S
   refine gg_ ?_
   refine S.ldN (b:=b14) ?_
   obtain⟨_,hoE,hopl⟩:=id hoc
   cases hoE
   refine adI ⟨s',v',xs',ha',hx',S.tl⟩ hst' m2' hs hf (p:=o.pl) (c:=[.int .i64 o.pl.l,.slice qo o.pl.ps.length ko]) (λ_ _ _=>PlG.up (⟨_,rfl,hopl⟩:PlG ((r.or s).or s2) _ o.pl)) hoko hokj (by omega) λw12 J=>?_
   refine gp_ ?_
   rw[show ((j:Int)+1)=((j+1:Nat):Int)by omega]
   exact hKj _ ⟨hlt2,J⟩ (by omega)
  obtain rfl:j=(zs p).length:=by omega
  clear hK43 K43 hge2 hj
  rw[List.take_length]at J
  have hok1:∀x∈l++(zs p).map (·.pl),OkP u g x:=λx hx=>(List.mem_append.1 hx).elim (hokl x) λhx=>hokp _ (List.mem_append_left _ hx)
  have hb1:(l++(zs p).map (·.pl)).length≤1950000:=by rw[gla,List.length_map];omega
  rw[zK,← List.append_assoc,← List.append_assoc]at hK36
  have hokf:(p.op=4∨p.op=10)∨p.op=11→OkP u g p.fr:=λh=>hokp _ (by rw[zK,if_pos h];simp)
  have hokt:(decide (1≤p.op)&&decide (p.op≤8))=true→OkP u g p.to:=λh=>hokp _ (by rw[zK,if_pos h];simp)
  generalize l++(zs p).map (·.pl)=l1 at *
  obtain⟨s',v',xs',ha',hx',S⟩:=J
  refine zn (λy w'=>y=[]∧MvJ u g p0 cap0 vf (.slice x1 g.outs.length y1) x2 y2 (.slice x3 g.nms.length y3) (.slice (some ⟨bq,oq,none⟩) g.pts.length y4) bx b8 w ((r.or s).or s2) [.cell b12 (ptL p q1 q2 q3 q4 q5 c1 c2 c3 c4 c5) 94] (l1++(if(p.op=4∨p.op=10)∨p.op=11 then [p.fr]else [])) w') (λK50 hK50=>?_) ?_
  ·refine gg_ ?_
   refine zj (c:=decide (p.op=10)) (λ_ K2 hK2=>by refine gg_ ?_;exact hK2) ?_
   refine zj (c:=decide (p.op=11)) (λ_ K2 hK2=>by refine gg_ ?_;exact hK2) ?_
   rw[show (decide (p.op=4)||decide (p.op=10)||decide (p.op=11))=decide ((p.op=4∨p.op=10)∨p.op=11)by simp only[Bool.decide_or]]
   refine zf (λho=>?_) (λho=>?_)
   ·rw[if_pos ho]at hK50
    refine gg_ ?_
    refine S.ldN (b:=b12) ?_
    refine adI ⟨s',v',xs',ha',hx',S⟩ hst' m2' hs hf (p:=p.fr) (c:=[.int .i64 p.fr.l,.slice q5 p.fr.ps.length c5]) (λ_ _ _=>PlG.up (⟨_,rfl,k5⟩:PlG ((r.or s).or s2) _ p.fr)) (hokf ho) hok1 (by omega) λw12 J=>?_
    exact hK50 _ _ ⟨rfl,J⟩
   ·rw[if_neg ho,List.append_nil]at hK50
    exact hK50 _ _ ⟨rfl,s',v',xs',ha',hx',S⟩
  have hok2:∀x∈l1++(if(p.op=4∨p.op=10)∨p.op=11 then [p.fr]else []),OkP u g x:=λx hx=>(List.mem_append.1 hx).elim (hok1 x) λhx=>by
   split at hx
   ·rename_i ho;rw[List.mem_singleton.1 hx];exact hokf ho
   ·cases hx
  have hb2:(l1++(if(p.op=4∨p.op=10)∨p.op=11 then [p.fr]else [])).length≤1960000:=by
   rw[gla];split<;>simp<;>omega
  generalize l1++(if(p.op=4∨p.op=10)∨p.op=11 then [p.fr]else [])=l2 at *
  clear S hx' ha'
  rintro _ w13 ⟨rfl,s',v',xs',ha',hx',S⟩ d13
  refine S.ldB (b:=b12) ?_
  refine Z6 S.holds (PtG.up hp1) λw14 e14=>?_
  have S:=S.go e14
  refine c_b (λho=>?_) (λho=>?_)
  ·rw[if_pos ho]at hK36
   refine gg_ ?_
   refine S.ldN (b:=b12) ?_
   refine adI ⟨s',v',xs',ha',hx',S⟩ hst' m2' hs hf (p:=p.to) (c:=[.int .i64 p.to.l,.slice q1 p.to.ps.length c1]) (λ_ _ _=>PlG.up (⟨_,rfl,k1⟩:PlG ((r.or s).or s2) _ p.to)) (hokt ho) hok2 (by omega) λw15 J=>?_
   exact hK36 _ _ ⟨rfl,J.back ha a9⟩
  ·rw[if_neg (by rw[ho];decide),List.append_nil]at hK36
   exact hK36 _ _ ⟨rfl,MvJ.back ha a9 ⟨s',v',xs',ha',hx',S⟩⟩
 obtain rfl:i=g.pts.length:=by omega
 clear hK2 K2 hge hi
 rw[List.take_length]at J
 have hlall:=hlq g.pts.length (Nat.le_refl _)
 have hall:=hall g.pts.length
 rw[List.take_length]at hlall hall
 obtain⟨s,v,xs,ha,hx,S⟩:=J
 have hfew:=acA hall
 have hpos:0<(addL u g (locsL g.tys.length++g.pts.flatMap zK)).length:=by
  have :(⟨0,[]⟩:PlD)∈addL u g (locsL g.tys.length++g.pts.flatMap zK):=by
   refine List.mem_flatMap.2 ⟨⟨0,[]⟩,List.mem_append_left _ (List.mem_map.2 ⟨0,List.mem_range.2 ht1,rfl⟩),?_⟩
   rw[YA rfl]
   exact List.mem_map.2 ⟨0,List.mem_range.2 (Nat.succ_pos _),rfl⟩
  exact List.length_pos_of_mem this
 rw[gla]at hfew
 have hll:(locsL g.tys.length).length=g.tys.length:=by simp[locsL]
 have hth:zq u g=aev (addL u g (locsL g.tys.length++g.pts.flatMap zK)):=rfl
 generalize addL u g (locsL g.tys.length++g.pts.flatMap zK)=aL at *
 refine gg_ ?_
 refine aiW S hx hpos (by omega) λw7 xs7 ps7 hp7 hs7 hx7 S=>?_
 have hl7:=hp7.length_eq
 rw[hl7]at S
 obtain⟨gb,cap,c7,rfl,hcap,hc7,ht7,S⟩:=S.rowCell v (by omega)
 have hrl:∀q,RlP q ps7→q=zq u g:=λq hq=>by
  rw[hth]
  exact amy hq.1 λx=>(hq.2 x).trans hp7.mem_iff
 have hrow7:∀(j:Nat)(hj:j<ps7.length),PlG (r.or s) (vB c7 j) ps7[j]:=λj hj=>by
  have:=hx7.2 j hj
  rw[← ht7,List.drop_take,List.take_take,Nat.min_eq_left (by rw[← hl7];have :(j+1)*2≤ps7.length*2:=Nat.mul_le_mul_right _ hj;omega)]at this
  exact this
 have S:=S.go (Ext.drew _)
 refine zn (λy w'=>y=[]∧∃c',c'.length=cap*2∧(zq u g).length≤cap∧RowOf 2 (PlG (r.or s)) (c'.take ((zq u g).length*2)) (zq u g)∧StX noX w (r.or s) w' [.cell gb c' 59,.cell bx (mkL u g p0 cap0 vf (.slice x1 g.outs.length y1) x2 y2 (.slice x3 g.nms.length y3) (.slice x4 g.pts.length y4) (.slice (some ⟨gb,0,none⟩) (zq u g).length cap)) 90,.cell b8 [.pointer (some ⟨bx,0,none⟩)] 78]) (λK66 hK66=>?_) ?_
 ·refine gg_ ?_
  refine⟨?_,?_⟩
  ·refine Qz (S.ld (b:=b8) ?_)
   refine Vy S (ps:=ps7) (by omega) (by omega) hcap hc7 hs7 hrow7 λq c8 w8 hq hqc S hc8 hx8=>?_
   obtain rfl:=hrl q hq
   refine gg_ ?_
   refine S.st (b:=bx) (λw9 S=>?_) (by simp)
   exact hK66 _ _ ⟨rfl,c8,hc8,hqc,hx8,S⟩
  ·refine Vy S (ps:=ps7) (by omega) (by omega) hcap hc7 hs7 hrow7 λq c8 w8 hq hqc S hc8 hx8=>?_
   obtain rfl:=hrl q hq
   refine Qz (S.ld (b:=b8) ?_)
   refine gg_ ?_
   refine S.st (b:=bx) (λw9 S=>?_) (by simp)
   exact hK66 _ _ ⟨rfl,c8,hc8,hqc,hx8,S⟩
 clear S hx hx7 hrow7 hc7 ht7 hs7 hp7 hrl
 rintro _ w10 ⟨rfl,c8,hc8,hqc,hx8,S⟩ d10
 refine gg_ ?_
 refine zf (λh256=>?_) (λh256=>?_)
 ·exact h5 (by omega) _ S.ext
 refine gg_ ?_
 refine h1 (by omega) s bx gb cap c8 p0 cap0 vf (.slice x1 g.outs.length y1) x2 y2 (.slice x3 g.nms.length y3) (.slice x4 g.pts.length y4) w10 ha hg0 hu0 ?_ hqc hx8
 exact(S.permO (.swap _ _ _)).less (λ_ _ h=>h) (.cons_cons _ (.cons_cons _ (List.nil_sublist _)))
def xm(f:Nat→Bool)(i:Nat)(b:Bool):Nat→Bool:=λj=>if j=i then b else f j
def zB:Nat→Bool:=λ_=>false
def risI(n:Nat)(f:Nat→Bool):List Int:=((List.range n).filter f).map λi:Nat=>(i:Int)
theorem JB{n:Nat}{f:Nat→Bool}{x:Int}:x∈risI n f↔∃i:Nat,x=i∧i<n∧f i=true:=by
 rw[risI,List.mem_map]
 constructor
 ·rintro⟨i,hi,rfl⟩
  rw[List.mem_filter,List.mem_range]at hi
  exact⟨i,rfl,hi⟩
 ·rintro⟨i,rfl,hi⟩
  exact⟨i,by rw[List.mem_filter,List.mem_range];exact hi,rfl⟩
theorem aic{n:Nat}{f:Nat→Bool}:(risI n f).Pairwise (· < ·):=by
 rw[risI,List.pairwise_map]
 exact(List.pairwise_lt_range.filter f).imp λh=>by omega
theorem aid{n:Nat}{f:Nat→Bool}:(risI n f).length≤n:=by
 rw[risI,List.length_map]
 have:=List.length_filter_le f (List.range n)
 rwa[List.length_range]at this
theorem vX{n:Nat}{f g:Nat→Bool}(h:∀i,i<n→f i=g i):risI n f=risI n g:=by
 rw[risI,risI,List.filter_congr λi hi=>h i (List.mem_range.1 hi)]
theorem ahN{l:List Int}(h:l.Pairwise (· < ·)):xM l=l:=by
 rw[xM]
 exact List.mergeSort_of_pairwise (h.imp λh=>by simp only[gdt];omega)
structure SetF(n B:Nat)(M:yx)(f:Nat→Bool):Prop where
 nodup:(M.map (·.1)).Nodup
 mem:∀x:Int,x∈M.map (·.1)↔∃i:Nat,x=i∧i<n∧f i=true
 cnt:∀x:Int,0≤cnt M x∧cnt M x≤B∧(0<cnt M x↔x∈M.map (·.1))
theorem SetF.none{n:Nat}:SetF n 0 [] zB:=⟨List.nodup_nil,λx=>by simp[zB],λx=>by simp[Go.Proofs.cnt]⟩
theorem SetF.mono{n B C:Nat}{M:yx}{f:Nat→Bool}(h:SetF n B M f)(hB:B≤C):SetF n C M f:=⟨h.nodup,h.mem,λx=>⟨(h.cnt x).1,by have:=(h.cnt x).2.1;omega,(h.cnt x).2.2⟩⟩
theorem SetF.len{n B:Nat}{M:yx}{f:Nat→Bool}(h:SetF n B M f):M.length≤n:=by
 have:=aaF h.nodup (b:=(List.range n).map λi:Nat=>(i:Int)) λx hx=>by
  obtain⟨i,rfl,hi,_⟩:=(h.mem x).1 hx
  exact List.mem_map.2 ⟨i,List.mem_range.2 hi,rfl⟩
 simpa using this
theorem SetF.list{n B:Nat}{M:yx}{f:Nat→Bool}(h:SetF n B M f):xM (M.map (·.1))=risI n f:=by
 have ha:(risI n f).Pairwise (· < ·):=aic
 rw[← ahN ha]
 refine ag8 h.nodup (ha.imp λh=>by omega) λx=>?_
 rw[h.mem,JB]
theorem SetF.keys{n B:Nat}{M:yx}{f:Nat→Bool}(h:SetF n B M f):M.length=(risI n f).length:=by
 have:=congrArg List.length h.list
 rw[xM,List.length_mergeSort,List.length_map]at this
 exact this
theorem ahc{x v z:Int}:∀{M:yx},(vA x v M).lookup z=if z=x then some v else M.lookup z
 |[]=>by
  rw[vA,List.lookup_cons]
  by_cases h:z=x
  ·rw[if_pos h];simp[h]
  ·have e:(z == x)=false:=by simpa using h
   rw[if_neg h,e]<;>rfl
 |y::M=>by
  rw[vA]
  by_cases hx:x=y.1
  ·rw[if_pos hx,List.lookup_cons]
   by_cases h:z=x
   ·rw[if_pos h];simp[h]
   ·have e:(z == x)=false:=by simpa using h
    have e2:(z == y.1)=false:=by rw[← hx];exact e
    rw[if_neg h,e,List.lookup_cons,e2]
  ·rw[if_neg hx,List.lookup_cons,List.lookup_cons]
   by_cases h:z=y.1
   ·have e:(z == y.1)=true:=by simpa using h
    rw[e,if_neg (λhh=>hx (hh.symm.trans h))]
   ·have e:(z == y.1)=false:=by simpa using h
    rw[e]
    exact ahc
theorem akX{x v z:Int}{M:yx}:cnt (vA x v M) z=if z=x then v else cnt M z:=by
 rw[cnt,ahc]
 split<;>rfl
theorem afd{x:Int}:∀{M:yx},x∉M.map (·.1)→cnt M x=0
 |[],_=>rfl
 |y::M,h=>by
  rw[List.map_cons,List.mem_cons,not_or]at h
  rw[cnt,List.lookup_cons,show (x == y.1)=false by simpa using h.1]
  exact afd h.2
theorem ahd{x z:Int}:∀{M:yx},(M.map (·.1)).Nodup→cnt (ZC x M) z=if z=x then 0 else cnt M z
 |[],_=>by rw[ZC];split<;>rfl
 |y::M,h=>by
  rw[List.map_cons,List.nodup_cons]at h
  rw[ZC]
  by_cases hx:x=y.1
  ·rw[if_pos hx]
   by_cases hz:z=x
   ·rw[if_pos hz,hz,hx];exact afd h.1
   ·rw[if_neg hz,cnt,cnt,List.lookup_cons,show (z == y.1)=false by rw[← hx];simpa using hz]
  ·rw[if_neg hx]
   have ih:=ahd (x:=x) (z:=z) h.2
   rw[cnt]at ih
   rw[cnt,cnt,List.lookup_cons,List.lookup_cons]
   by_cases hz:z=y.1
   ·rw[show (z == y.1)=true by simpa using hz,if_neg (λe=>hx (e.symm.trans hz))]
   ·rw[show (z == y.1)=false by simpa using hz]
    exact ih
theorem SetF.put{n B i:Nat}{M:yx}{f:Nat→Bool}(h:SetF n B M f)(hi:i<n):SetF n (B+1) (vA i (Go.Proofs.cnt M i+1) M) (xm f i true):=by
 refine⟨ae9 h.nodup,λx=>?_,λx=>?_⟩
 ·rw[J7,h.mem]
  constructor
  ·rintro(rfl|⟨j,rfl,hj,hf⟩)
   ·exact⟨i,rfl,hi,by simp[xm]⟩
   ·exact⟨j,rfl,hj,by
    unfold xm
    split
    ·rfl
    ·exact hf⟩
  ·rintro⟨j,rfl,hj,hf⟩
   by_cases e:j=i
   ·subst e;exact .inl rfl
   ·rw[xm,if_neg e]at hf;exact .inr ⟨j,rfl,hj,hf⟩
 ·obtain⟨h1,h2,h3⟩:=h.cnt x
  obtain⟨h4,h5,h6⟩:=h.cnt i
  rw[akX,J7]
  by_cases e:x=i
  ·rw[if_pos e];exact⟨by omega,by omega,λ_=>.inl e,λ_=>by omega⟩
  ·rw[if_neg e];exact⟨h1,by omega,λhh=>.inr (h3.1 hh),λhh=>h3.2 (hh.resolve_left e)⟩
theorem SetF.take{n B i:Nat}{M:yx}{f:Nat→Bool}(h:SetF n B M f):SetF n B (ZC i M) (xm f i false):=by
 refine⟨afa h.nodup,λx=>?_,λx=>?_⟩
 ·rw[J8 h.nodup,h.mem]
  constructor
  ·rintro⟨hne,j,rfl,hj,hf⟩
   exact⟨j,rfl,hj,by rw[xm,if_neg (by omega)];exact hf⟩
  ·rintro⟨j,rfl,hj,hf⟩
   unfold xm at hf
   split at hf
   ·cases hf
   ·rename_i e;exact⟨by omega,j,rfl,hj,hf⟩
 ·obtain⟨h1,h2,h3⟩:=h.cnt x
  rw[ahd h.nodup,J8 h.nodup]
  by_cases e:x=i
  ·rw[if_pos e];exact⟨by omega,by omega,λhh=>by omega,λhh=>absurd e hh.1⟩
  ·rw[if_neg e];exact⟨h1,h2,λhh=>⟨e,h3.1 hh⟩,λhh=>h3.2 hh.2⟩
theorem SetF.congr{n B:Nat}{M:yx}{f g:Nat→Bool}(h:SetF n B M f)(hg:∀i,i<n→f i=g i):SetF n B M g:=
 ⟨h.nodup,λx=>by
  rw[h.mem]
  exact⟨λ⟨i,a,b,c⟩=>⟨i,a,b,(hg i b)▸c⟩,λ⟨i,a,b,c⟩=>⟨i,a,b,(hg i b).symm▸c⟩⟩,h.cnt⟩
theorem SetF.has{n B i:Nat}{M:yx}{f:Nat→Bool}(h:SetF n B M f)(hi:i<n):decide (0<Go.Proofs.cnt M i)=f i:=by
 rw[Bool.eq_iff_iff,gdt,(h.cnt i).2.2,h.mem]
 exact⟨λ⟨j,e,_,hj⟩=>by obtain rfl:i=j:=by omega
                       exact hj,λhf=>⟨i,rfl,hi,hf⟩⟩
abbrev Xe:PlD:=⟨0,[]⟩
abbrev pthAt(ps:List PlD)(i:Nat):PlD:=ps.getD i Xe
def xB(ps:List PlD)(p:PlD)(b:Bool)(f:Nat→Bool):Nat→Bool:=λi=>if prefP p (pthAt ps i)=true then b else f i
noncomputable def xq(u:UnD)(g:GrD)(p:PtD):List (Bool×PlD):=
 ((zs p).filter λo=>decide (o.k=4)).map (λo=>(true,o.pl))++((if p.op=10∨p.op=11 then [(true,p.fr)]else [])++(if(decide (1≤p.op)&&decide (p.op≤8))=true∧wholeP u g p.to=true then [(false,p.to)]else []))
def doF(ps:List PlD)(a:(Nat→Bool)×(Nat→Bool))(s:Bool×PlD):(Nat→Bool)×(Nat→Bool):=(xB ps s.2 s.1 a.1,xB ps s.2 (!s.1) a.2)
noncomputable def yh(u:UnD)(g:GrD)(ps:List PlD)(p:PtD):(Nat→Bool)×(Nat→Bool):=(xq u g p).foldl (doF ps) (zB,zB)
noncomputable def useF(u:UnD)(g:GrD)(ps:List PlD)(x:PlD)(laid:Bool):Nat→Bool:=λi=>
 (prefP (pthAt ps i) (heldW u.ss g.tys x) && !(laid&&(wholeP u g x&&eqb (pthAt ps i) x)))||(!laid&&wholeP u g x&&prefP x (pthAt ps i))
def adJ(p:PtD):List (PlD×Bool×Bool):=
 (zs p).map (λo=>(o.pl,false,decide (o.k=4)))++((if p.op=4 then [(p.fr,false,false)]else if p.op=14 then [(Xe,false,false)]else [])++(if(decide (1≤p.op)&&decide (p.op≤8))=true then [(p.to,true,false)]else []))
structure UsF where
 all:Nat→Bool
 again:Nat→Bool
 lost:Nat→Bool
noncomputable def usF(u:UnD)(g:GrD)(ps:List PlD)(a:UsF)(x:PlD×Bool×Bool):UsF:=
 ⟨λi=>a.all i||useF u g ps x.1 x.2.1 i,λi=>a.again i||(useF u g ps x.1 x.2.1 i&&a.lost i),if x.2.2=true then xB ps x.1 true a.lost else a.lost⟩
noncomputable def yq(u:UnD)(g:GrD)(ps:List PlD)(p:PtD):UsF:=(adJ p).foldl (usF u g ps) ⟨zB,zB,zB⟩
def kq(n:Nat)(f:Nat→Bool):Option Int:=(risI n f).head?
def qH(l:List Int):Nat→Bool:=λi=>decide ((i:Int)∈l)
noncomputable def ahe(u:UnD)(g:GrD)(ps:List PlD)(p:PtD)(a:Nat→Bool):Nat→Bool:=λi=>(a i||(yh u g ps p).1 i) && !(yh u g ps p).2 i
noncomputable def ofE(u:UnD)(fn q:Int):Int:=if isU u fn q=false then 2 else match u.fs[fn.toNat]? with
 |some g=>if 256<(zq u g).length then 5 else 0
 |none=>2
def Xf(p:PtD):List PlD:=((zs p).filter λo=>decide (o.k=4)).map (·.pl)++(if p.op=10∨p.op=11 then [p.fr]else [])
noncomputable def Qx(u:UnD)(g:GrD)(p:PtD):Bool:=(decide (1≤p.op)&&decide (p.op≤8))&&wholeP u g p.to
theorem aiY{u:UnD}{g:GrD}{p:PtD}:xq u g p=(Xf p).map (λx=>(true,x))++(if Qx u g p=true then [(false,p.to)]else []):=by
 rw[xq,Xf,List.map_append,List.map_map,List.append_assoc]
 congr 1
 congr 1
 ·split<;>rfl
 ·by_cases h:Qx u g p=true
  ·rw[if_pos h];rw[Qx,gba]at h;rw[if_pos h]
  ·rw[if_neg h];rw[Qx,gba]at h;rw[if_neg h]
theorem afe{ps:List PlD}:∀{l:List PlD}{a:(Nat→Bool)×(Nat→Bool)}{i:Nat},((l.map λx=>(true,x)).foldl (doF ps) a).1 i=(l.any (λx=>prefP x (pthAt ps i))||a.1 i)∧((l.map λx=>(true,x)).foldl (doF ps) a).2 i=(!l.any (λx=>prefP x (pthAt ps i))&&a.2 i)
 |[],a,i=>by simp
 |x::l,a,i=>by
  obtain⟨h1,h2⟩:=afe (l:=l) (a:=doF ps a (true,x)) (i:=i)
  rw[List.map_cons,List.foldl_cons,h1,h2,List.any_cons]
  show(_||xB ps x true a.1 i)=_∧(_&&xB ps x false a.2 i)=_
  unfold xB
  cases prefP x (pthAt ps i)<;>simp
theorem aew{u:UnD}{g:GrD}{ps:List PlD}{p:PtD}{i:Nat}:
  (yh u g ps p).1 i=(!(Qx u g p&&prefP p.to (pthAt ps i))&&(Xf p).any (λx=>prefP x (pthAt ps i)))∧(yh u g ps p).2 i=(Qx u g p&&prefP p.to (pthAt ps i)):=by
 obtain⟨h1,h2⟩:=afe (ps:=ps) (l:=Xf p) (a:=(zB,zB)) (i:=i)
 rw[yh,aiY,List.foldl_append]
 have h3:(zB,zB).1 i=false:=rfl
 have h4:(zB,zB).2 i=false:=rfl
 rw[h3,Bool.or_false]at h1
 rw[h4,Bool.and_false]at h2
 cases hg:Qx u g p with
 |false=>
  show(((Xf p).map λx=>(true,x)).foldl (doF ps) (zB,zB)).1 i=_∧_
  simp only[Bool.false_and,Bool.not_false,Bool.true_and]
  exact⟨h1,h2⟩
 |true=>
  show xB ps p.to false (((Xf p).map λx=>(true,x)).foldl (doF ps) (zB,zB)).1 i=_∧xB ps p.to true (((Xf p).map λx=>(true,x)).foldl (doF ps) (zB,zB)).2 i=_
  unfold xB
  rw[h1,h2]
  cases prefP p.to (pthAt ps i)<;>simp
section
variable {u:UnD} {g:GrD} {ps:List PlD} {p:PtD} {i k:Nat}
theorem ajZ{l:List (PlD×Bool×Bool)}:∀{a:UsF},(l.foldl (usF u g ps) a).all i=(a.all i||l.any λx=>useF u g ps x.1 x.2.1 i):=by
 induction l with
 |nil=>intro a;simp
 |cons x l ih=>
  intro a
  rw[List.foldl_cons,ih,List.any_cons]
  show((a.all i||useF u g ps x.1 x.2.1 i)||_)=_
  rw[Bool.or_assoc]
theorem akY:(yq u g ps p).all i=(adJ p).any λx=>useF u g ps x.1 x.2.1 i:=by
 rw[yq,ajZ];rfl
end
theorem YC{u:UnD}{fn q:Int}{v:Value}{w:World}{r:Gh}{K:Value→World→Prop}(hr:Holds r w)(hu:UnG r v u)
  (h0:∀e w',e≠0→ofE u fn q=e→Ext w w'→K (.tuple #[.pointer none,.int .i64 e]) w')
  (h1:∀g s bx w',ofE u fn q=0→FnM u fn g→isU u fn q=true→(zq u g).length≤256→Ext w w'→New w s w'→LkM (r.or s) bx u g (zq u g)→K (.tuple #[.pointer (some ⟨bx,0,none⟩),.int .i64 0]) w'):
  zd Tryz.prog Tryz.qh #[v,.int .i64 fn,.int .i64 q] w K:=by
 refine aiX hr hu (λhi w' e=>h0 2 w' (by decide) (by rw[ofE,if_pos hi]) e) λhi g hg=>⟨λhb w' e=>h0 5 w' (by decide) (by rw[ofE,if_neg (by rw[hi];decide),hg];exact if_pos hb) e,λhb s bx gb cap c p0 cap0 vf vo qt capt vn vp w' ha hG hU S hcap hx=>?_⟩
 have hE:ofE u fn q=0:=by rw[ofE,if_neg (by rw[hi];decide),hg];exact if_neg (by omega)
 obtain⟨S,a1⟩:=StX.frzNew S bx
 obtain⟨S,a2⟩:=StX.frzNew S gb
 have S:=S.reGh.reGh
 obtain⟨_,_,_,e1,_,_,hst,_,_⟩:=hU
 cases e1
 obtain⟨_,_,_,_,e2,m1,m2,m3,m4⟩:=hG
 cases e2
 obtain⟨q4,y4,rfl,_,_⟩:=m4.sl.shape
 refine h1 g _ bx w' hE (fnM hi hg) hi hb S.ext (S.newOf (ha.or' (a1.or' a2))) ⟨⟨p0,cap0,xb (b:=bx) (c:=mkL u g p0 cap0 vf vo qt capt vn (.slice q4 g.pts.length y4) (.slice (some ⟨gb,0,none⟩) (zq u g).length cap)) (T:=90) rfl,RepS.up hst⟩,xb (b:=bx) (c:=mkL u g p0 cap0 vf vo qt capt vn (.slice q4 g.pts.length y4) (.slice (some ⟨gb,0,none⟩) (zq u g).length cap)) (T:=90) rfl,⟨qt,capt,xb (b:=bx) (c:=mkL u g p0 cap0 vf vo qt capt vn (.slice q4 g.pts.length y4) (.slice (some ⟨gb,0,none⟩) (zq u g).length cap)) (T:=90) rfl,m2.up' inferInstance λ_ _ h=>TyG.up h⟩,⟨q4,y4,xb (b:=bx) (c:=mkL u g p0 cap0 vf vo qt capt vn (.slice q4 g.pts.length y4) (.slice (some ⟨gb,0,none⟩) (zq u g).length cap)) (T:=90) rfl,m4.up' inferInstance λ_ _ h=>PtG.up h⟩,⟨some ⟨gb,0,none⟩,cap,xb (b:=bx) (c:=mkL u g p0 cap0 vf vo qt capt vn (.slice q4 g.pts.length y4) (.slice (some ⟨gb,0,none⟩) (zq u g).length cap)) (T:=90) rfl,?_⟩⟩
 refine RowOf.sl (xs:=c.take ((zq u g).length*2)) (hx.mono λc x hx=>PlG.up (l:=⟨λb o ho=>Or.elim ho .inl λho=>.inr (.inl ho)⟩) hx) (by simp) hcap (λw k=>?_) (by decide) ⟨w',S.holds⟩
 exact(Sl.blk (yH (b:=gb) (c:=c) (T:=59) w (k.le (h:=inferInstance)))).take _
noncomputable def mvE(u:UnD)(fn q:Int):Int:=if q<0 then 2 else ofE u fn q
theorem Qy{u:UnD}{fn q:Int}{v:Value}{w:World}{r:Gh}{K:Value→World→Prop}(hr:Holds r w)(hu:UnG r v u)
  (h0:∀e w',e≠0→mvE u fn q=e→Ext w w'→K (.tuple #[.pointer none,.int .i64 e]) w')
  (h1:∀g s bx w',mvE u fn q=0→0≤q→FnM u fn g→q.toNat<g.pts.length→(zq u g).length≤256→Ext w w'→New w s w'→LkM (r.or s) bx u g (zq u g)→K (.tuple #[.pointer (some ⟨bx,0,none⟩),.int .i64 0]) w'):
  zd Tryz.prog Tryz.vJ #[v,.int .i64 fn,.int .i64 q] w K:=by
 refine Tryz.aiR ?_
 unfold Tryz.ae6
 have hu0:=hu
 obtain⟨p0,cap0,vf,rfl,_,_,hst,hsl,hfn⟩:=hu
 obtain⟨qf,capf,rfl,_,_⟩:=hfn.sl.shape
 have S:=St.start hr
 refine S.box λb3 w1 S=>?_
 have S:StX noX w r w1 [.cell b3 [.slice p0 u.ss.length cap0,.slice qf u.fs.length capf,.int .i64 u.mn] 25]:=S
 refine gp_ ?_
 refine zf (λhq=>?_) (λhq=>?_)
 ·exact h0 2 _ (by decide) (by rw[mvE,if_pos hq]) S.ext
 have hq0:0≤q:=by omega
 have hm:mvE u fn q=ofE u fn q:=by rw[mvE,if_neg hq]
 refine S.ldB (b:=b3) ?_ rfl
 refine YC S.holds hu0 (λe w2 he hof e2=>?_) λg s bx w2 hof F hi hb e2 n2 hL=>?_
 ·refine gg_ ?_
  exact h0 e w2 he (hm.trans hof) (S.go e2).ext
 ·obtain⟨S,_,a2⟩:=S.tell e2 n2
  have hlt:q.toNat<g.pts.length:=by
   obtain⟨_,_,h1,h2,_⟩:=JV hi
   have:=F.at'
   rw[gqg h1,Option.some.injEq]at this
   rw[this]at h2
   omega
  refine gg_ ?_
  exact h1 g s bx w2 (hm.trans hof) hq0 F hlt hb S.ext (S.newOf a2) hL
theorem amA{P:Program}{w:World}{f:FuncId}{K:Value→World→Prop}{x0 c0:Value}(he:xr P f=true)(h:zd P f #[c0,x0] w K):zF P (.func (.func f) #[c0] #[]) #[x0] w K:=kD he h
abbrev anb(b:Nat):Value:=.func (.func Tryz.y8) #[.map (some b)] #[]
abbrev amB(b:Nat):Value:=.func (.func Tryz.jj) #[.map (some b)] #[]
theorem vY{ps:List PlD}{i:Nat}(h:i<ps.length):pthAt ps i=ps[i]:=by
 rw[pthAt,ggd,gqg h];rfl
section
variable {u:UnD} {g:GrD} {ps:List PlD} {bx:Nat} {q r:Gh} {p:PlD} {c:List Value} {X:Nat→Prop} {w0 w:World} {L:List Asr} {K:Value→World→Prop}
theorem aie{fv:Value}{J:Nat→List Asr→Prop}(S:StX X w0 r w L)(hL:LkM q bx u g ps)[Le q r](hp:PlG r c p)(hf:ps.length≤1000000)(h0:J 0 L)
  (hy:∀{i:Nat}{L M:List Asr}{x y:Asr}{w:World}{K:Value→World→Prop},i<ps.length→prefP p (pthAt ps i)=true→J i L→StX X w0 r w (x::y::L)→(∀L' w',J (i+1) L'→StX X w0 r w' (x::y::L')→K (.tuple #[]) w')→zF Tryz.prog fv #[.int .i64 (i:Nat)] w K)
  (hn:∀{i:Nat}{L:List Asr},i<ps.length→prefP p (pthAt ps i)=false→J i L→J (i+1) L)
  (h:∀L' w',J ps.length L'→StX X w0 r w' L'→K (.tuple #[]) w'):zd Tryz.prog Tryz.zX #[.pointer (some ⟨bx,0,none⟩),.agg c.toArray,fv] w K:=by
 refine Tryz.aar ?_
 unfold Tryz.Y5
 have hp0:=hp
 obtain⟨vv,rfl,hl⟩:=hp
 obtain⟨qs,caps,rfl,_,_⟩:=hl.sl.shape
 obtain⟨pp,cap,hpc,hps⟩:=hL.pth
 refine S.box λb4 w1 S=>?_
 have S:StX X w0 r w1 (.cell b4 [.int .i64 p.l,.slice qs p.ps.length caps] 59::L):=S
 refine gg_ ?_
 refine zg (S.at hpc) ?_
 refine gp_ ?_
 refine zh (ι:=Nat) (λi=>[.int .i64 (i:Nat)]) (λi w'=>i≤ps.length∧∃L',J i L'∧StX X w0 r w' (.cell b4 [.int .i64 p.l,.slice qs p.ps.length caps] 59::L')) (λi=>ps.length-i) 0 rfl ⟨gzl _,L,h0,S⟩ ?_
 clear S h0
 rintro i d w5 ⟨hi,L5,hJ,S⟩ K2 hK2
 rw[gdz]
 refine gp_ ?_
 refine zf (λhlt=>?_) (λhge=>?_)
 ·have hlt:i<ps.length:=by omega
  refine zn (λy w'=>y=[]∧∃L',J (i+1) L'∧StX X w0 r w' (.cell b4 [.int .i64 p.l,.slice qs p.ps.length caps] 59::L')) (λK6 hK6=>?_) ?_
  ·obtain⟨bo,oo,co,hE,hco,hoc,hoo⟩:=hps.get (by decide) hlt
   cases hE
   refine gp_ ?_
   refine zp (n:=2) hco (λj v hj=>by simpa using S.at (hoo j v hj)) ?_
   rw[← vY hlt]at hoc
   have hoc0:=hoc
   obtain⟨vo,rfl,hol⟩:=hoc
   obtain⟨qo,ko,rfl,_,_⟩:=hol.sl.shape
   refine S.al λb7 w6 S=>?_
   refine S.stB (b:=b7) λw7 S=>?_
   have S:StX X w0 r w7 (.cell b7 [.int .i64 (pthAt ps i).l,.slice qo (pthAt ps i).ps.length ko] 59::.cell b4 [.int .i64 p.l,.slice qs p.ps.length caps] 59::L5):=S
   refine S.ldB (b:=b4) ?_ rfl
   refine S.ldB (b:=b7) ?_ rfl
   refine Z2 S.holds hp0 (PlG.up hoc0) λw8 e8=>?_
   have S:=S.go e8
   refine c_b (λhpr=>?_) (λhpr=>?_)
   ·refine hy (M:=[]) hlt hpr hJ S λL' w9 hJ' S=>?_
    exact hK6 _ _ ⟨rfl,L',hJ',S.tl⟩
   ·exact hK6 _ _ ⟨rfl,L5,hn hlt hpr hJ,S.tl⟩
  ·rintro _ w9 ⟨rfl,L',hJ',S⟩ d9
   refine gp_ ?_
   rw[show ((i:Int)+1)=((i+1:Nat):Int)by omega]
   exact hK2 (i+1) _ ⟨hlt,L',hJ',S⟩ (by omega)
 ·obtain rfl:i=ps.length:=by omega
  exact h L5 _ hJ S.tl
def ky(ps:List PlD)(p:PlD)(b:Bool)(i:Nat)(f:Nat→Bool):Nat→Bool:=λj=>if j<i then xB ps p b f j else f j
theorem acB{b:Bool}{i j:Nat}{f:Nat→Bool}(h:prefP p (pthAt ps i)=true):xm (ky ps p b i f) i b j=ky ps p b (i+1) f j:=by
 unfold xm ky
 by_cases e:j=i
 ·subst e;rw[if_pos rfl,if_pos (Nat.lt_succ_self _),xB,if_pos h]
 ·rw[if_neg e]
  by_cases hl:j<i
  ·rw[if_pos hl,if_pos (by omega)]
  ·rw[if_neg hl,if_neg (by omega)]
theorem aex{b:Bool}{i j:Nat}{f:Nat→Bool}(h:prefP p (pthAt ps i)=false):ky ps p b i f j=ky ps p b (i+1) f j:=by
 unfold ky
 by_cases e:j=i
 ·subst e;rw[if_neg (Nat.lt_irrefl _),if_pos (Nat.lt_succ_self _),xB,if_neg (by rw[h];decide)]
 ·by_cases hl:j<i
  ·rw[if_pos hl,if_pos (by omega)]
  ·rw[if_neg hl,if_neg (by omega)]
theorem acC{b:Bool}{i:Nat}{f:Nat→Bool}(h:i<ps.length):ky ps p b ps.length f i=xB ps p b f i:=by rw[ky,if_pos h]
variable {b B:Nat} {M:yx} {m:Nat→Bool} {f:Asr→List Asr}
theorem aif{Q Q':Obj→Prop}(h0:km b L Q f):km b (f (.obj b Q')) Q' f:=⟨by
 obtain⟨p,q,_,e2⟩:=h0.h
 exact⟨p,q,e2 _,e2⟩⟩
theorem aig{Q:Obj→Prop}(h0:km b L Q f):L=f (.obj b Q):=by
 obtain⟨p,q,e1,e2⟩:=h0.h
 rw[e1,e2]
theorem j4(S:StX X w0 r w L)[h0:km b L (zN M) f](hL:LkM q bx u g ps)[Le q r](hp:PlG r c p)(hf:ps.length≤1000000)(hM:SetF ps.length B M m)(hB:B≤1000000000000)
  (h:∀M' w',SetF ps.length (B+ps.length) M' (xB ps p true m)→StX X w0 r w' (f (.obj b (zN M')))→K (.tuple #[]) w'):zd Tryz.prog Tryz.zX #[.pointer (some ⟨bx,0,none⟩),.agg c.toArray,anb b] w K:=by
 refine aie (J:=λi L'=>∃M',L'=f (.obj b (zN M'))∧SetF ps.length (B+i) M' (ky ps p true i m)) S hL hp hf ⟨M,aig h0,hM.congr λi _=>by rw[ky,if_neg (Nat.not_lt_zero _)]⟩ ?_ ?_ ?_
 ·rintro i L' _ x y w K hi hpr ⟨M',rfl,hM'⟩ S hK
  haveI:=aif (Q':=zN M') h0
  have hc:=hM'.cnt i
  refine amA (by kernel_rfl) (Yz S (by omega) λw' S=>?_)
  exact hK _ w' ⟨_,rfl,(hM'.put hi).congr λj _=>acB hpr⟩ S
 ·rintro i L' hi hpr ⟨M',rfl,hM'⟩
  exact⟨M',rfl,(hM'.mono (by omega)).congr λj _=>aex hpr⟩
 ·rintro L' w' ⟨M',rfl,hM'⟩ S
  exact h M' w' (hM'.congr λi hi=>acC hi) S
theorem aaH(S:StX X w0 r w L)[h0:km b L (zN M) f](hL:LkM q bx u g ps)[Le q r](hp:PlG r c p)(hf:ps.length≤1000000)(hM:SetF ps.length B M m)
  (h:∀M' w',SetF ps.length B M' (xB ps p false m)→StX X w0 r w' (f (.obj b (zN M')))→K (.tuple #[]) w'):zd Tryz.prog Tryz.zX #[.pointer (some ⟨bx,0,none⟩),.agg c.toArray,amB b] w K:=by
 refine aie (J:=λi L'=>∃M',L'=f (.obj b (zN M'))∧SetF ps.length B M' (ky ps p false i m)) S hL hp hf ⟨M,aig h0,hM.congr λi _=>by rw[ky,if_neg (Nat.not_lt_zero _)]⟩ ?_ ?_ ?_
 ·rintro i L' _ x y w K hi hpr ⟨M',rfl,hM'⟩ S hK
  haveI:=aif (Q':=zN M') h0
  refine amA (by kernel_rfl) (adG S λw' S=>?_)
  exact hK _ w' ⟨_,rfl,hM'.take.congr λj _=>acB hpr⟩ S
 ·rintro i L' hi hpr ⟨M',rfl,hM'⟩
  exact⟨M',rfl,hM'.congr λj _=>aex hpr⟩
 ·rintro L' w' ⟨M',rfl,hM'⟩ S
  exact h M' w' (hM'.congr λi hi=>acC hi) S
end
def StpM(r:Gh)(vl vg:Value)(c:List Value)(s:Bool×PlD):Prop:=∃fv cp,c=[fv]∧fv.oneCell'=true∧PlG r cp s.2∧∀{w:World}{K:Value→World→Prop},Holds r w→zF Tryz.prog (if s.1=true then vl else vg) #[.agg cp.toArray] w (λ_ w'=>K (.tuple #[]) w')→zF Tryz.prog fv #[] w K
theorem StpM.up{r s:Gh}{vl vg:Value}{c:List Value}{x:Bool×PlD}(h:StpM r vl vg c x)[l:Le r s]:StpM s vl vg c x:=by
 obtain⟨fv,cp,h1,h2,h3,h4⟩:=h
 exact⟨fv,cp,h1,h2,PlG.up h3,λhr hk=>h4 (hr.le (h:=l)) hk⟩
section
variable {r:Gh} {vl vg:Value} {b6 b8:Nat} {cp:List Value} {x:PlD}
theorem anc(h6:Ob r λw=>w.cell? ⟨b6,0,none⟩=some vl)(h2:∀j v,cp[j]? = some v→Ob r λw=>w.cell? ⟨b8,2+j,none⟩=some v)(hc:PlG r cp x):StpM r vl vg [.func (.func Tryz.kt) #[] #[.pointer (some ⟨b6,0,none⟩),.pointer (some ⟨b8,0,none⟩)]] (true,x):=
 ⟨_,cp,rfl,rfl,hc,fun {w K} hr h=>aiB (by kernel_rfl) (by
  refine Tryz.J3 ?_
  unfold Tryz.ZM
  refine zg (h6 _ hr) ?_
  refine gp_ ?_
  refine zp (n:=2) (k7 hc) (λj v hj=>by simpa using h2 j v hj _ hr) ?_
  exact h)⟩
theorem ane(h6:Ob r λw=>w.cell? ⟨b6,0,none⟩=some vl)(h2:∀j v,cp[j]? = some v→Ob r λw=>w.cell? ⟨b8,13+j,none⟩=some v)(hc:PlG r cp x):StpM r vl vg [.func (.func Tryz.ku) #[] #[.pointer (some ⟨b6,0,none⟩),.pointer (some ⟨b8,0,none⟩)]] (true,x):=
 ⟨_,cp,rfl,rfl,hc,fun {w K} hr h=>aiB (by kernel_rfl) (by
  refine Tryz.J4 ?_
  unfold Tryz.ZN
  refine zg (h6 _ hr) ?_
  refine gp_ ?_
  refine zp (n:=2) (k7 hc) (λj v hj=>by simpa using h2 j v hj _ hr) ?_
  exact h)⟩
theorem anf(h6:Ob r λw=>w.cell? ⟨b6,0,none⟩=some vg)(h2:∀j v,cp[j]? = some v→Ob r λw=>w.cell? ⟨b8,1+j,none⟩=some v)(hc:PlG r cp x):StpM r vl vg [.func (.func Tryz.kv) #[] #[.pointer (some ⟨b6,0,none⟩),.pointer (some ⟨b8,0,none⟩)]] (false,x):=
 ⟨_,cp,rfl,rfl,hc,fun {w K} hr h=>aiB (by kernel_rfl) (by
  refine Tryz.J5 ?_
  unfold Tryz.ZO
  refine zg (h6 _ hr) ?_
  refine gp_ ?_
  refine zp (n:=2) (k7 hc) (λj v hj=>by simpa using h2 j v hj _ hr) ?_
  exact h)⟩
end
theorem aih{u:UnD}{g:GrD}{p:PtD}(h:p.args.length≤1000):(xq u g p).length≤1004:=by
 have h1:=List.length_filter_le zV (p.a::p.b::p.args)
 have h2:=List.length_filter_le (λo:OpD=>decide (o.k=4)) (zs p)
 have h3:(if p.op=10∨p.op=11 then [(true,p.fr)]else []).length≤1:=by split<;>simp
 have h4:(if(decide (1≤p.op)&&decide (p.op≤8))=true∧wholeP u g p.to=true then [(false,p.to)]else []).length≤1:=by split<;>simp
 change (zs p).length≤_ at h1
 simp only[List.length_cons]at h1
 rw[xq,gla,gla,List.length_map]
 omega
section
variable {u:UnD} {fn q:Int} {g:GrD} {ps:List PlD} {bx:Nat} {q0 r:Gh} {p:PtD} {X:Nat→Prop} {w0 w:World} {L:List Asr} {K:Value→World→Prop} {fl fg:Fn} {al ag cl cg:Array Value}
theorem alJ{J:Nat→List Asr→Prop}(S:StX X w0 r w L)(hL:LkM q0 bx u g ps)[Le q0 r](F:FnM u fn g)(hq0:0≤q)(hq:q.toNat<g.pts.length)(hpe:g.pts[q.toNat]=p)(h0:J 0 L)
  (hdo:∀{k:Nat}{L:List Asr}{r':Gh}{w:World}{cp:List Value}{K:Value→World→Prop}(hk:k<(xq u g p).length),Le r r'→J k L→StX X w0 r' w L→PlG r' cp (xq u g p)[k].2→(∀L' w',J (k+1) L'→StX X w0 r' w' L'→K (.tuple #[]) w')→zF Tryz.prog (if(xq u g p)[k].1=true then .func fl al cl else .func fg ag cg) #[.agg cp.toArray] w K)
  (h:∀L' w',J (xq u g p).length L'→StX X w0 r w' L'→K (.tuple #[]) w'):zd Tryz.prog Tryz.jR #[.pointer (some ⟨bx,0,none⟩),.int .i64 q,.func fl al cl,.func fg ag cg] w K:=by
 refine Tryz.aav ?_
 unfold Tryz.Y6
 have hpm:p∈g.pts:=by rw[← hpe];exact gem hq
 have hargs:=jw F.may (F.pts p hpm)
 have hto:=F.to hpm
 have hslen:=aih (u:=u) (g:=g) hargs
 obtain⟨pq,capq,hpts,hpl⟩:=hL.pts
 obtain⟨bq,oq,cq,hqE,hcq,hpc,hpo⟩:=hpl.sl.get (by decide) hq
 cases hqE
 rw[hpe]at hpc
 obtain⟨x1,x2,x3,x4,x5,y1,y2,y3,y4,y5,rfl,hp0⟩:=xZ hpc
 refine S.box λb6 w1 S=>?_
 have S:StX X w0 r w1 (.cell b6 [.func fl al cl] 117::L):=S
 have S:=S.frzAt b6
 refine S.box λb7 w2 S=>?_
 have S:StX X w0 _ w2 (.cell b7 [.func fg ag cg] 117::L):=S
 have S:=S.frzAt b7
 refine gg_ ?_
 refine zg (S.at hpts) ?_
 refine gp_ ?_
 refine zp (n:=21) hcq (λj v hj=>by simpa using S.at (hpo j v hj)) ?_
 refine S.al λb8 w3 S=>?_
 refine S.stB (b:=b8) λw4 S=>?_
 have S:StX X w0 _ w4 (.cell b8 (ptL p x1 x2 x3 x4 x5 y1 y2 y3 y4 y5) 94::L):=S
 refine S.ldB (b:=b8) ?_
 refine vC S.holds (PtG.up hp0) hargs λv9 s2 w9 e9 n9 h9=>?_
 obtain⟨S,_,a9⟩:=S.tell e9 n9
 have S:=S.frzAt b8
 obtain⟨ρ,lr,h6,h7,h8,h9,hp0,S⟩:∃ρ,Le r ρ∧(Ob ρ λw=>w.cell? ⟨b6,0,none⟩=some (.func fl al cl))∧(Ob ρ λw=>w.cell? ⟨b7,0,none⟩=some (.func fg ag cg))∧(∀j v,(ptL p x1 x2 x3 x4 x5 y1 y2 y3 y4 y5)[j]? = some v→Ob ρ λw=>w.cell? ⟨b8,j,none⟩=some v)∧
  SlG 4 ρ (OpG ρ) v9 (zs p)∧PtG ρ (ptL p x1 x2 x3 x4 x5 y1 y2 y3 y4 y5) p∧StX X w0 ρ w9 L:=
  ⟨_,inferInstance,xb (b:=b6) (i:=0) (c:=[.func fl al cl]) (T:=117) rfl,xb (b:=b7) (i:=0) (c:=[.func fg ag cg]) (T:=117) rfl,λj v hj=>xb (b:=b8) (c:=ptL p x1 x2 x3 x4 x5 y1 y2 y3 y4 y5) (T:=94) hj,h9.up' inferInstance λ_ _ h=>OpG.up h,PtG.up hp0,S⟩
 clear e9 n9 a9 hpo hpc hcq
 have hL:LkM ρ bx u g ps:=LkM.up hL (l:=⟨λb o ho=>lr.le b o (Le.le (r:=q0) (s:=r) b o ho)⟩)
 obtain⟨_,_,_,_,_,hE,k1,k2,k3,k4,k5⟩:=id hp0
 cases hE
 obtain⟨q9,c9,rfl,_,_⟩:=h9.shape
 have hol:(zs p).length≤1002:=by
  have h1:=List.length_filter_le zV (p.a::p.b::p.args)
  change (zs p).length≤_ at h1
  simp only[List.length_cons]at h1
  omega
 refine gp_ ?_
 have S:=(S.ownNil 1 1).to (ρ.or nothing)
 refine zh (ι:=Value×Nat) (λi=>[i.1,.int .i64 (i.2:Nat)]) (λi w'=>i.2≤(zs p).length∧∃σ xs,RowOf 1 (StpM (ρ.or σ) (.func fl al cl) (.func fg ag cg)) xs ((((zs p).take i.2).filter λo=>decide (o.k=4)).map λo=>(true,o.pl))∧StX X w0 (ρ.or σ) w' (.row i.1 1 1 xs.length xs::L)) (λi=>(zs p).length-i.2) (.slice none 0 0,0) rfl ⟨gzl _,nothing,[],RowOf.nil,S⟩ ?_
 clear S
 rintro⟨v,j⟩ d5 w5 ⟨hj,σ,xs,hx,S⟩ K6 hK6
 simp only at hj hx S⊢
 simp only[gdz,gds]
 refine gp_ ?_
 refine zf (λhlt=>?_) (λhge=>?_)
 ·have hlt:j<(zs p).length:=by omega
  have hxl:xs.length≤1002:=by
   have h1:=hx.1
   have h2:=List.length_filter_le (λo:OpD=>decide (o.k=4)) ((zs p).take j)
   rw[List.length_map]at h1
   rw[List.length_take]at h2
   omega
  refine zn (λy w'=>∃v' σ' xs',y=[v']∧RowOf 1 (StpM (ρ.or σ') (.func fl al cl) (.func fg ag cg)) xs' ((((zs p).take (j+1)).filter λo=>decide (o.k=4)).map λo=>(true,o.pl))∧StX X w0 (ρ.or σ') w' (.row v' 1 1 xs'.length xs'::L)) (λK10 hK10=>?_) ?_
  ·obtain⟨bo,oo,co,hoE,hco,hoc,hoo⟩:=h9.get (by decide) hlt
   cases hoE
   rw[List.take_succ_eq_append_getElem hlt,List.filter_append,List.map_append]at hK10
   generalize (zs p)[j]=o at *
   refine gp_ ?_
   refine zp (n:=4) hco (λj v hj=>by simpa using S.at (hoo j v hj)) ?_
   obtain⟨qo,ko,rfl⟩:=qW hoc
   refine S.al λb14 w10 S=>?_
   refine S.stB (b:=b14) λw11 S=>?_
   have S:StX X w0 (ρ.or σ) w11 (.cell b14 [.int .u8 o.k,.int .i64 o.n,.int .i64 o.pl.l,.slice qo o.pl.ps.length ko] 61::.row v 1 1 xs.length xs::L):=S
   obtain⟨_,hoE,hopl⟩:=id hoc
   cases hoE
   refine gg_ ?_
   refine zf (λhk=>?_) (λhk=>?_)
   ·have S:=S.frzAt b14
    have S:=S.reGh
    refine gp_ ?_
    refine S.lit (e:=1) (cs:=[.func (.func Tryz.kt) #[] #[.pointer (some ⟨b6,0,none⟩),.pointer (some ⟨b14,0,none⟩)]]) (by kernel_rfl) λb15 w12 S=>?_
    refine S.ap (v:=v) (m':=1) (Sl.blk (S.blk b15)) (λv' w13 S=>?_) (by omega)
    have S:=S.drop b15
    rw[show xs.length+1=(xs++[Value.func (.func Tryz.kt) #[] #[.pointer (some ⟨b6,0,none⟩),.pointer (some ⟨b14,0,none⟩)]]).length by simp]at S
    refine hK10 _ _ ⟨v',_,_,rfl,?_,S⟩
    have hk2:([o].filter λo=>decide (o.k=4)).map (λo=>(true,o.pl))=[(true,o.pl)]:=by simp[hk]
    rw[hk2]
    refine(hx.mono λc x hx=>StpM.up (l:=⟨λb o ho=>Or.elim ho .inl λho=>.inr (.inl ho)⟩) hx).snoc rfl ?_
    refine anc (cp:=[.int .i64 o.pl.l,.slice qo o.pl.ps.length ko]) h6.up (λj v hj=>?_) (PlG.up (⟨_,rfl,hopl⟩:PlG ρ _ o.pl))
    rw[Nat.add_comm]
    exact xb (c:=[.int .u8 o.k,.int .i64 o.n,.int .i64 o.pl.l,.slice qo o.pl.ps.length ko]) (T:=61) (by rw[← hj];rfl)
   ·have hk2:([o].filter λo=>decide (o.k=4)).map (λo=>(true,o.pl))=[]:=by simp[hk]
    rw[hk2,List.append_nil]at hK10
    exact hK10 _ _ ⟨v,σ,xs,rfl,hx,S.tl⟩
  ·clear S hx
   rintro _ w13 ⟨v',σ',xs',rfl,hx,S⟩ d13
   rw[gdz]
   refine gp_ ?_
   rw[show ((j:Int)+1)=((j+1:Nat):Int)by omega]
   exact hK6 (v',j+1) _ ⟨hlt,σ',xs',hx,S⟩ (by show(zs p).length-(j+1)<(zs p).length-j;omega)
 obtain rfl:j=(zs p).length:=by omega
 clear hK6 K6 hge hj
 rw[List.take_length]at hx
 have hst:xq u g p=(((zs p).filter λo=>decide (o.k=4)).map λo=>(true,o.pl))++((if p.op=10∨p.op=11 then [(true,p.fr)]else [])++(if(decide (1≤p.op)&&decide (p.op≤8))=true∧wholeP u g p.to=true then [(false,p.to)]else [])):=rfl
 rw[← List.append_assoc]at hst
 have hl0:xs.length≤1002:=by
  have h1:=hx.1
  have h2:=List.length_filter_le (λo:OpD=>decide (o.k=4)) (zs p)
  rw[List.length_map]at h1
  omega
 generalize (((zs p).filter λo=>decide (o.k=4)).map λo=>(true,o.pl))=A at *
 refine zn (λy w'=>∃v' σ' xs',y=[v']∧xs'.length≤1003∧RowOf 1 (StpM (ρ.or σ') (.func fl al cl) (.func fg ag cg)) xs' (A++(if p.op=10∨p.op=11 then [(true,p.fr)]else []))∧StX X w0 (ρ.or σ') w' (.row v' 1 1 xs'.length xs'::L)) (λK18 hK18=>?_) ?_
 ·refine gp_ ?_
  refine zg (S.at (h8 0 _ rfl)) ?_
  refine gp_ ?_
  refine zj (c:=decide (p.op=11)) (λ_ K2 hK2=>by
   refine gp_ ?_
   refine zg (S.at (h8 0 _ rfl)) ?_
   refine gp_ ?_
   exact hK2) ?_
  rw[show (decide (p.op=10)||decide (p.op=11))=decide (p.op=10∨p.op=11)by simp only[Bool.decide_or]]
  refine zf (λho=>?_) (λho=>?_)
  ·rw[if_pos ho]at hK18
   refine gp_ ?_
   refine S.lit (e:=1) (cs:=[.func (.func Tryz.ku) #[] #[.pointer (some ⟨b6,0,none⟩),.pointer (some ⟨b8,0,none⟩)]]) (by kernel_rfl) λb15 w12 S=>?_
   refine S.ap (v:=v) (m':=1) (Sl.blk (S.blk b15)) (λv' w13 S=>?_) (by omega)
   have S:=S.drop b15
   rw[show xs.length+1=(xs++[Value.func (.func Tryz.ku) #[] #[.pointer (some ⟨b6,0,none⟩),.pointer (some ⟨b8,0,none⟩)]]).length by simp]at S
   refine hK18 _ _ ⟨v',_,_,rfl,by rw[gla,gls];omega,hx.snoc rfl ?_,S⟩
   refine ane (cp:=[.int .i64 p.fr.l,.slice x5 p.fr.ps.length y5]) h6.up (λj v hj=>?_) (PlG.up (⟨_,rfl,k5⟩:PlG ρ _ p.fr))
   have hj2:j<2:=by have:=(List.getElem?_eq_some_iff.1 hj).1;exact this
   refine(h8 (13+j) v ?_).up
   rw[← hj]
   rcases(show j=0∨j=1 by omega)with rfl|rfl<;>rfl
  ·rw[if_neg ho,List.append_nil]at hK18
   exact hK18 _ _ ⟨v,σ,xs,rfl,by omega,hx,S⟩
 clear S hx hl0
 generalize A++(if p.op=10∨p.op=11 then [(true,p.fr)]else [])=A2 at *
 rintro _ w13 ⟨v',σ',xs',rfl,hl0,hx,S⟩ d13
 simp only[gdz]
 clear σ v xs
 refine zn (λy w'=>∃v σ xs,y=[v]∧RowOf 1 (StpM (ρ.or σ) (.func fl al cl) (.func fg ag cg)) xs (xq u g p)∧StX X w0 (ρ.or σ) w' (.row v 1 1 xs.length xs::L)) (λK28 hK28=>?_) ?_
 ·refine gp_ ?_
  refine zp (n:=2) (c:=[.int .i64 p.to.l,.slice x1 p.to.ps.length y1]) rfl (λj v hj=>?_) ?_
  ·have hj2:j<2:=(List.getElem?_eq_some_iff.1 hj).1
   have:=S.at (h8 (1+j) v (by rw[← hj];rcases(show j=0∨j=1 by omega)with rfl|rfl<;>rfl))
   simpa using this
  obtain⟨p0,cap0,hc0,hst0⟩:=hL.ss
  obtain⟨qt,capt,hc7,hty⟩:=hL.tys
  refine Yk S.holds (λw' e=>⟨(S.go e).at hc0,(S.go e).at hc7⟩) (RepS.up hst0) (hty.up' inferInstance λ_ _ h=>TyG.up h) F.may.ok F.fine (PlG.up (⟨_,rfl,k1⟩:PlG ρ _ p.to)) hto λv3 s3 w3 e3 n3 h3=>?_
  obtain⟨S,_,_⟩:=S.tell e3 n3
  have S:=S.reGh
  obtain⟨q3,c3,rfl,_,_⟩:=h3.sl.shape
  refine gS_ ?_
  refine S.al λb12 w4 S=>?_
  refine S.stB (b:=b12) λw6 S=>?_
  have S:=S.drop b12
  refine zp (n:=21) (c:=ptL p x1 x2 x3 x4 x5 y1 y2 y3 y4 y5) rfl (λj v hj=>by simpa using S.at (h8 j v hj)) ?_
  refine Z6 S.holds (PtG.up hp0) λw7 e7=>?_
  have S:=S.go e7
  refine zi (c:=wholeP u g p.to) (λ_ K2 hK2=>hK2) ?_
  have hx:RowOf 1 (StpM (ρ.or (σ'.or s3)) (.func fl al cl) (.func fg ag cg)) xs' A2:=hx.mono λc x hx=>StpM.up (l:=⟨λb o ho=>Or.elim ho .inl λho=>.inr (.inl ho)⟩) hx
  refine c_b (λho=>?_) (λho=>?_)
  ·rw[gba]at ho
   rw[if_pos ho]at hst
   refine gp_ ?_
   refine S.lit (e:=1) (cs:=[.func (.func Tryz.kv) #[] #[.pointer (some ⟨b7,0,none⟩),.pointer (some ⟨b8,0,none⟩)]]) (by kernel_rfl) λb15 w12 S=>?_
   refine S.ap (v:=v') (m':=1) (Sl.blk (S.blk b15)) (λv5 w13 S=>?_) (by omega)
   have S:=S.drop b15
   rw[show xs'.length+1=(xs'++[Value.func (.func Tryz.kv) #[] #[.pointer (some ⟨b7,0,none⟩),.pointer (some ⟨b8,0,none⟩)]]).length by simp]at S
   refine hK28 _ _ ⟨v5,_,_,rfl,?_,S⟩
   rw[hst]
   refine hx.snoc rfl ?_
   refine anf (cp:=[.int .i64 p.to.l,.slice x1 p.to.ps.length y1]) h7.up (λj v hj=>?_) (PlG.up (⟨_,rfl,k1⟩:PlG ρ _ p.to))
   have hj2:j<2:=(List.getElem?_eq_some_iff.1 hj).1
   refine(h8 (1+j) v ?_).up
   rw[← hj]
   rcases(show j=0∨j=1 by omega)with rfl|rfl<;>rfl
  ·rw[if_neg (by rw[← gba,ho];decide),List.append_nil]at hst
   refine hK28 _ _ ⟨v',_,_,rfl,?_,S⟩
   rw[hst]
   exact hx
 clear S hx hl0
 rintro _ w15 ⟨v,σ,xs,rfl,hx,S⟩ d15
 simp only[gdz]
 have hxl:xs.length=(xq u g p).length:=by have:=hx.1;omega
 rw[hxl]at S
 obtain⟨s5,T,hrow,_,_⟩:=S.doneRow hx (by decide) rfl
 obtain⟨qr,cr,rfl,_,_⟩:=hrow.shape
 repeat clear S
 have S:=T
 clear T
 have lr2:Le r ((ρ.or σ).or s5):=⟨λb o ho=>.inl (.inl (lr.le b o ho))⟩
 refine gp_ ?_
 refine zh (ι:=Nat) (λi=>[.int .i64 (i:Nat)]) (λi w'=>i≤(xq u g p).length∧∃L',J i L'∧StX X w0 ((ρ.or σ).or s5) w' L') (λi=>(xq u g p).length-i) 0 rfl ⟨gzl _,L,h0,S⟩ ?_
 clear S
 rintro i d16 w16 ⟨hi,L',hJ,S⟩ K42 hK42
 rw[gdz]
 refine gp_ ?_
 refine zf (λhlt=>?_) (λhge=>?_)
 ·have hlt:i<(xq u g p).length:=by omega
  obtain⟨br,or',co,hE,hco,⟨fv,cp,rfl,_,hpl,hcall⟩,hoo⟩:=hrow.get (by decide) hlt
  cases hE
  refine gp_ ?_
  refine zg (v:=fv) (by simpa using S.at (hoo 0 fv rfl)) ?_
  refine hcall (S.holds.le (h:=inferInstance)) ?_
  refine hdo hlt lr2 hJ S (PlG.up hpl) λL2 w17 hJ2 S=>?_
  refine gp_ ?_
  rw[show ((i:Int)+1)=((i+1:Nat):Int)by omega]
  exact hK42 (i+1) _ ⟨hlt,L2,hJ2,S⟩ (by omega)
 ·obtain rfl:i=(xq u g p).length:=by omega
  exact h L' _ hJ (S.to r (l:=lr2))
end
section
variable {X:Nat→Prop} {w0 w:World} {r:Gh} {L:List Asr} {b n B:Nat} {M:yx} {m:Nat→Bool} {f:Asr→List Asr} {K:Value→World→Prop}
theorem Z8(S:StX X w0 r w L)[h0:km b L (zN M) f](hM:SetF n B M m)(hn:n≤1000000)
  (h:∀v s w',StX X w0 (r.or s) w' (f (.obj b (zN M)))→SlG 1 s zQ v (risI n m)→(∀b o,s b o→w0.heap.size≤b∨X b)→K v w'):zd Tryz.prog Tryz.yn #[.map (some b)] w K:=by
 refine aiT S hM.nodup (by have:=hM.len;omega) λv w' S=>?_
 rw[hM.list,hM.keys]at S
 obtain⟨s,S,h1,_,h2⟩:=S.doneRow (l:=risI n m) QS (by decide) rfl
 exact h v s w' S h1 h2
end
abbrev amC(b2 b4 b5:Nat):Value:=.func (.func Tryz.jo) #[] #[.pointer (some ⟨b2,0,none⟩),.pointer (some ⟨b4,0,none⟩),.pointer (some ⟨b5,0,none⟩)]
abbrev amD(b2 b4 b5:Nat):Value:=.func (.func Tryz.jp) #[] #[.pointer (some ⟨b2,0,none⟩),.pointer (some ⟨b4,0,none⟩),.pointer (some ⟨b5,0,none⟩)]
abbrev doL(bx b2 b4 b5 bg bh:Nat)(L:List Asr)(G H:yx):List Asr:=.obj bg (zN G)::.obj bh (zN H)::.cell b4 [.map (some bg)] 82::.cell b5 [.map (some bh)] 82::.cell b2 [.pointer (some ⟨bx,0,none⟩)] 78::L
section
variable {u:UnD} {fn q:Int} {g:GrD} {ps:List PlD} {bx b2 b4 b5 bg bh B:Nat} {q0 r:Gh} {x:PlD} {c:List Value} {X:Nat→Prop} {w0 w:World} {L:List Asr} {K:Value→World→Prop} {G H:yx} {a b:Nat→Bool}
theorem amE(S:StX X w0 r w (doL bx b2 b4 b5 bg bh L G H))(hL:LkM q0 bx u g ps)[Le q0 r](hp:PlG r c x)(hf:ps.length≤1000000)(hG:SetF ps.length B G a)(hH:SetF ps.length B H b)(hB:B≤1000000000000)
  (h:∀G' H' w',SetF ps.length (B+ps.length) G' (xB ps x true a)→SetF ps.length (B+ps.length) H' (xB ps x false b)→StX X w0 r w' (doL bx b2 b4 b5 bg bh L G' H')→K (.tuple #[]) w'):zF Tryz.prog (amC b2 b4 b5) #[.agg c.toArray] w K:=by
 refine alh (by kernel_rfl) ?_
 refine Tryz.VG ?_
 unfold Tryz.Yw
 have hp0:=hp
 obtain⟨vv,rfl,hl⟩:=hp
 obtain⟨qs,caps,rfl,_,_⟩:=hl.sl.shape
 refine S.box λb7 w1 S=>?_
 have S:StX X w0 r w1 (.cell b7 [.int .i64 x.l,.slice qs x.ps.length caps] 59::doL bx b2 b4 b5 bg bh L G H):=S
 refine gg_ ?_
 refine j4 (b:=bg) S hL hp0 hf hG hB λG' w2 hG' S=>?_
 refine gg_ ?_
 refine aaH (b:=bh) S hL hp0 hf hH λH' w3 hH' S=>?_
 exact h G' H' _ hG' (hH'.mono (by omega)) S.tl
theorem amF(S:StX X w0 r w (doL bx b2 b4 b5 bg bh L G H))(hL:LkM q0 bx u g ps)[Le q0 r](hp:PlG r c x)(hf:ps.length≤1000000)(hG:SetF ps.length B G a)(hH:SetF ps.length B H b)(hB:B≤1000000000000)
  (h:∀G' H' w',SetF ps.length (B+ps.length) G' (xB ps x false a)→SetF ps.length (B+ps.length) H' (xB ps x true b)→StX X w0 r w' (doL bx b2 b4 b5 bg bh L G' H')→K (.tuple #[]) w'):zF Tryz.prog (amD b2 b4 b5) #[.agg c.toArray] w K:=by
 refine alh (by kernel_rfl) ?_
 refine Tryz.VH ?_
 unfold Tryz.Yx
 have hp0:=hp
 obtain⟨vv,rfl,hl⟩:=hp
 obtain⟨qs,caps,rfl,_,_⟩:=hl.sl.shape
 refine S.box λb7 w1 S=>?_
 have S:StX X w0 r w1 (.cell b7 [.int .i64 x.l,.slice qs x.ps.length caps] 59::doL bx b2 b4 b5 bg bh L G H):=S
 refine gg_ ?_
 refine aaH (b:=bg) S hL hp0 hf hG λG' w2 hG' S=>?_
 refine gg_ ?_
 refine j4 (b:=bh) S hL hp0 hf hH hB λH' w3 hH' S=>?_
 exact h G' H' _ (hG'.mono (by omega)) hH' S.tl
theorem aj0{p:PtD}(S:StX X w0 r w L)(hL:LkM q0 bx u g ps)[Le q0 r](F:FnM u fn g)(hq0:0≤q)(hq:q.toNat<g.pts.length)(hpe:g.pts[q.toNat]=p)(hf:ps.length≤256)
  (h:∀G H bg bh w',SetF ps.length 1000000 G (yh u g ps p).1→SetF ps.length 1000000 H (yh u g ps p).2→StX X w0 r w' (.obj bg (zN G)::.obj bh (zN H)::L)→K (.tuple #[.map (some bg),.map (some bh)]) w'):
  zd Tryz.prog Tryz.qw #[.pointer (some ⟨bx,0,none⟩),.int .i64 q] w K:=by
 refine Tryz.abg ?_
 unfold Tryz.XT
 have hargs:=jw F.may (F.pts p (by rw[← hpe];exact gem hq))
 have hslen:=aih (u:=u) (g:=g) hargs
 refine S.box λb2 w1 S=>?_
 have S:StX X w0 r w1 (.cell b2 [.pointer (some ⟨bx,0,none⟩)] 78::L):=S
 refine S.al λb4 w2 S=>?_
 refine S.al λb5 w3 S=>?_
 refine S.mkMapJ λbg w4 S=>?_
 refine S.mkMapJ λbh w5 S=>?_
 refine S.st (b:=b4) (λw6 S=>?_) (by simp)
 refine S.st (b:=b5) (λw7 S=>?_) (by simp)
 have S:StX X w0 r w7 (doL bx b2 b4 b5 bg bh L [] []):=S.permO ((List.Perm.swap _ _ _).trans (.cons _ (.cons _ (.swap _ _ _))))
 refine gg_ ?_
 refine alJ (fl:=.func Tryz.jo) (fg:=.func Tryz.jp) (J:=λk L'=>∃G H,L'=doL bx b2 b4 b5 bg bh L G H∧SetF ps.length (k*ps.length) G (((xq u g p).take k).foldl (doF ps) (zB,zB)).1∧SetF ps.length (k*ps.length) H (((xq u g p).take k).foldl (doF ps) (zB,zB)).2) S hL F hq0 hq hpe ⟨[],[],rfl,by rw[Nat.zero_mul];exact SetF.none,by rw[Nat.zero_mul];exact SetF.none⟩ ?_ ?_
 ·clear S
  rintro k L' r' w' cp K' hk lr ⟨G,H,rfl,hG,hH⟩ S hpl hK
  have hB:k*ps.length≤1000000000000:=Nat.le_trans (Nat.mul_le_mul (show k≤1004 by omega) hf) (by decide)
  haveI:Le q0 r':=⟨λb o ho=>lr.le b o (Le.le (r:=q0) (s:=r) b o ho)⟩
  rw[List.take_succ_eq_append_getElem hk,List.foldl_append,Nat.succ_mul]at hK
  generalize (xq u g p)[k]=s at *
  generalize ((xq u g p).take k).foldl (doF ps) (zB,zB)=ab at *
  obtain⟨s1,s2⟩:=s
  cases s1 with
  |true=>exact amE S hL hpl (by omega) hG hH hB λG' H' w' hG' hH' S=>hK _ _ ⟨G',H',rfl,hG',hH'⟩ S
  |false=>exact amF S hL hpl (by omega) hG hH hB λG' H' w' hG' hH' S=>hK _ _ ⟨G',H',rfl,hG',hH'⟩ S
 ·clear S
  rintro L' w8 ⟨G,H,rfl,hG,hH⟩ S
  rw[List.take_length]at hG hH
  have hB:(xq u g p).length*ps.length≤1000000:=Nat.le_trans (Nat.mul_le_mul hslen hf) (by decide)
  have fin:∀w',StX X w0 r w' (doL bx b2 b4 b5 bg bh L G H)→K (.tuple #[.map (some bg),.map (some bh)]) w':=λw' S=>by
   have S:=S.drop b4
   have S:=S.drop b5
   have S:=S.drop b2
   exact h G H bg bh w' (hG.mono hB) (hH.mono hB) S
  have S:=S.go (Ext.drew _)
  refine gg_ ?_
  refine⟨?_,?_⟩
  ·refine Qz (S.ld (b:=b5) ?_)
   refine S.st (b:=b4) (λw9 S=>?_) (by simp)
   refine S.st (b:=b5) (λw10 S=>?_) (by simp)
   have S:StX X w0 r w10 (doL bx b2 b4 b5 bg bh L G H):=S
   refine gg_ ?_
   exact fin _ S
  ·refine S.st (b:=b4) (λw9 S=>?_) (by simp)
   have S:StX X w0 r w9 (doL bx b2 b4 b5 bg bh L G H):=S
   refine Qz (S.ld (b:=b5) ?_)
   refine S.st (b:=b5) (λw10 S=>?_) (by simp)
   have S:StX X w0 r w10 (doL bx b2 b4 b5 bg bh L G H):=S
   refine gg_ ?_
   exact fin _ S
end
def stM(g:GrD)(n:Nat):List Nat:=(List.range n).filter λi:Nat=>decide ((i:Int)=0)||decide (g.pn<(i:Int))
def stF(ps:List PlD)(l:List Nat):Nat→Bool:=l.foldl (λ(f:Nat→Bool) (i:Nat)=>xB ps ⟨(i:Int),[]⟩ true f) zB
section
variable {u:UnD} {fn q:Int} {v:Value} {w:World} {r:Gh} {K:Value→World→Prop}
theorem abN(hr:Holds r w)(hu:UnG r v u)
  (h0:∀e w',e≠0→mvE u fn q=e→Ext w w'→K (.tuple #[.slice none 0 0,.slice none 0 0,.int .i64 e]) w')
  (h1:∀g v1 v2 s w',mvE u fn q=0→FnM u fn g→0≤q→(hq:q.toNat<g.pts.length)→(zq u g).length≤256→Ext w w'→New w s w'→SlG 1 s zQ v1 (risI (zq u g).length (yh u g (zq u g) g.pts[q.toNat]).1)→SlG 1 s zQ v2 (risI (zq u g).length (yh u g (zq u g) g.pts[q.toNat]).2)→K (.tuple #[v1,v2,.int .i64 0]) w'):
  zd Tryz.prog Tryz.Yf #[v,.int .i64 fn,.int .i64 q] w K:=by
 refine Tryz.agZ ?_
 unfold Tryz.abG
 have hu0:=hu
 obtain⟨p0,cap0,vf,rfl,_,_,hst,hsl,hfn⟩:=hu
 obtain⟨qf,capf,rfl,_,_⟩:=hfn.sl.shape
 have S:=St.start hr
 refine S.box λb3 w1 S=>?_
 have S:StX noX w r w1 [.cell b3 [.slice p0 u.ss.length cap0,.slice qf u.fs.length capf,.int .i64 u.mn] 25]:=S
 refine S.ldB (b:=b3) ?_ rfl
 refine Qy S.holds hu0 (λe w2 he hof e2=>?_) λg s bx w2 hof hq0 F hq hb e2 n2 hL=>?_
 ·refine gg_ ?_
  refine c_t (by simp[he]) ?_
  exact h0 e w2 he hof (S.go e2).ext
 obtain⟨S,_,a2⟩:=S.tell e2 n2
 refine gg_ ?_
 refine c_f (by decide) ?_
 refine aj0 S hL F hq0 hq rfl hb λG H bg bh w3 hG hH S=>?_
 refine gg_ ?_
 refine Z8 (b:=bg) S hG (by omega) λv1 s1 w4 S h1' a1=>?_
 refine Z8 (b:=bh) S hH (by omega) λv2 s2 w5 S h2' a2'=>?_
 have S:=S.reGh.reGh
 refine h1 g v1 v2 _ _ hof F hq0 hq hb S.ext (S.newOf (a2.or' (Above.or' (λb o ho=>(a1 b o ho).resolve_right id) λb o ho=>(a2' b o ho).resolve_right id))) (h1'.up' inferInstance λ_ _ h=>h) (h2'.up' inferInstance λ_ _ h=>h)
theorem ahf{path:Int}(hr:Holds r w)(hu:UnG r v u)
  (h0:∀e w',e≠0→ofE u fn (-1)=e∨(ofE u fn (-1)=0∧∀g,FnM u fn g→(path<0∨(zq u g).length≤path.toNat))→Ext w w'→K (.tuple #[.slice none 0 0,.int .i64 e]) w')
  (h1:∀g v1 s w',ofE u fn (-1)=0→FnM u fn g→0≤path→path.toNat<(zq u g).length→Ext w w'→New w s w'→SlG 1 s zQ v1 (risI (zq u g).length (xB (zq u g) (pthAt (zq u g) path.toNat) true zB))→K (.tuple #[v1,.int .i64 0]) w'):
  zd Tryz.prog Tryz.Xu #[v,.int .i64 fn,.int .i64 path] w K:=by
 refine Tryz.afO ?_
 unfold Tryz.aat
 have hu0:=hu
 obtain⟨p0,cap0,vf,rfl,_,_,hst,hsl,hfn⟩:=hu
 obtain⟨qf,capf,rfl,_,_⟩:=hfn.sl.shape
 have S:=St.start hr
 refine S.box λb3 w1 S=>?_
 have S:StX noX w r w1 [.cell b3 [.slice p0 u.ss.length cap0,.slice qf u.fs.length capf,.int .i64 u.mn] 25]:=S
 refine S.ldB (b:=b3) ?_ rfl
 refine YC S.holds hu0 (λe w2 he hof e2=>?_) λg s bx w2 hof F hi hb e2 n2 hL=>?_
 ·refine gg_ ?_
  refine c_t (by simp[he]) ?_
  exact h0 e w2 he (.inl hof) (S.go e2).ext
 obtain⟨S,_,a2⟩:=S.tell e2 n2
 obtain⟨pp,cap,hpc,hps⟩:=hL.pth
 refine gg_ ?_
 refine c_f (by decide) ?_
 refine gp_ ?_
 refine zj (c:=decide (path≥((zq u g).length:Int))) (λ_ K2 hK2=>by
  refine gg_ ?_
  refine zg (S.at hpc) ?_
  refine gg_ ?_
  exact hK2) ?_
 refine c_b (λhbad=>?_) (λhgood=>?_)
 ·refine h0 2 w2 (by decide) (.inr ⟨hof,λg' F'=>?_⟩) S.ext
  have e:g'=g:=by have h1:=F.at';have h2:=F'.at';rw[h1]at h2;exact(Option.some.inj h2).symm
  subst e
  simp only[Bool.or_eq_true,gdt]at hbad
  omega
 simp only[Bool.or_eq_false_iff,decide_eq_false_iff_not]at hgood
 have hlt:path.toNat<(zq u g).length:=by omega
 refine S.mkMapJ λbg w3 S=>?_
 obtain⟨bo,oo,co,hE,hco,hoc,hoo⟩:=hps.get (by decide) hlt
 cases hE
 refine gg_ ?_
 refine zg (S.at hpc) ?_
 refine gp_ ?_
 refine zp (n:=2) hco (λj v hj=>by simpa using S.at (hoo j v hj)) ?_
 refine gp_ ?_
 rw[← vY hlt]at hoc
 refine j4 (b:=bg) (M:=[]) S hL hoc (by omega) SetF.none (by omega) λM' w4 hM S=>?_
 refine Z8 (b:=bg) S hM (by omega) λv1 s1 w5 S h1' a1=>?_
 have S:=S.reGh
 exact h1 g v1 _ _ hof F (by omega) hlt S.ext (S.newOf (a2.or' λb o ho=>(a1 b o ho).resolve_right id)) (h1'.up' inferInstance λ_ _ h=>h)
theorem ahg(hr:Holds r w)(hu:UnG r v u)
  (h0:∀e w',e≠0→ofE u fn (-1)=e→Ext w w'→K (.tuple #[.slice none 0 0,.int .i64 e]) w')
  (h1:∀g v1 s w',ofE u fn (-1)=0→FnM u fn g→Ext w w'→New w s w'→SlG 1 s zQ v1 (risI (zq u g).length (stF (zq u g) (stM g g.tys.length)))→K (.tuple #[v1,.int .i64 0]) w'):
  zd Tryz.prog Tryz.Xv #[v,.int .i64 fn] w K:=by
 refine Tryz.afP ?_
 unfold Tryz.aau
 have hu0:=hu
 obtain⟨p0,cap0,vf,rfl,_,_,hst,hsl,hfn⟩:=hu
 obtain⟨qf,capf,rfl,_,_⟩:=hfn.sl.shape
 have S:=St.start hr
 refine S.box λb3 w1 S=>?_
 have S:StX noX w r w1 [.cell b3 [.slice p0 u.ss.length cap0,.slice qf u.fs.length capf,.int .i64 u.mn] 25]:=S
 refine S.ldB (b:=b3) ?_ rfl
 refine YC S.holds hu0 (λe w2 he hof e2=>?_) λg s bx w2 hof F hi hb e2 n2 hL=>?_
 ·refine gg_ ?_
  refine c_t (by simp[he]) ?_
  exact h0 e w2 he hof (S.go e2).ext
 obtain⟨S,_,a2⟩:=S.tell e2 n2
 refine gg_ ?_
 refine c_f (by decide) ?_
 refine S.mkMapJ λbg w3 S=>?_
 have S:StX noX w (r.or s) w3 [.obj bg (zN []),.cell b3 [.slice p0 u.ss.length cap0,.slice qf u.fs.length capf,.int .i64 u.mn] 25]:=S
 obtain⟨qt,capt,hc7,hty⟩:=hL.tys
 have ht512:=F.head.ty512
 refine gg_ ?_
 refine zg (S.at hc7) ?_
 refine gp_ ?_
 refine zh (ι:=Nat) (λi=>[.int .i64 (i:Nat)]) (λi w'=>i≤g.tys.length∧∃M,SetF (zq u g).length (i*256) M (stF (zq u g) (stM g i))∧StX noX w (r.or s) w' [.obj bg (zN M),.cell b3 [.slice p0 u.ss.length cap0,.slice qf u.fs.length capf,.int .i64 u.mn] 25]) (λi=>g.tys.length-i) 0 rfl ⟨gzl _,[],by rw[Nat.zero_mul];exact SetF.none,S⟩ ?_
 clear S
 rintro i d w5 ⟨hi,M,hM,S⟩ K4 hK4
 rw[gdz]
 refine gp_ ?_
 refine zf (λhlt=>?_) (λhge=>?_)
 ·have hlt:i<g.tys.length:=by omega
  refine zn (λy w'=>y=[]∧∃M,SetF (zq u g).length ((i+1)*256) M (stF (zq u g) (stM g (i+1)))∧StX noX w (r.or s) w' [.obj bg (zN M),.cell b3 [.slice p0 u.ss.length cap0,.slice qf u.fs.length capf,.int .i64 u.mn] 25]) (λK8 hK8=>?_) ?_
  ·rw[stM,List.range_succ,List.filter_append,stF,List.foldl_append]at hK8
   refine gp_ ?_
   refine zj (c:=decide ((i:Int)>g.pn)) (λ_ K2 hK2=>by
    refine gg_ ?_
    refine zg (S.at hL.pn) ?_
    refine gp_ ?_
    exact hK2) ?_
   refine c_b (λhy=>?_) (λhn=>?_)
   ·have e:([i].filter λi:Nat=>decide ((i:Int)=0)||decide (g.pn<(i:Int)))=[i]:=by
     simp only[Bool.or_eq_true,gdt]at hy
     rw[List.filter_cons_of_pos (by simp only[Bool.or_eq_true,gdt];omega),List.filter_nil]
    rw[e]at hK8
    refine zy (cs:=#[.int .i64 (i:Nat),.slice none 0 0]) (by kernel_rfl) ?_
    refine gp_ ?_
    refine j4 (b:=bg) (p:=⟨(i:Nat),[]⟩) (c:=[.int .i64 (i:Nat),.slice none 0 0]) S hL ⟨_,rfl,jI⟩ (by omega) hM (by omega) λM' w6 hM' S=>?_
    exact hK8 _ _ ⟨rfl,M',hM'.mono (by omega),S⟩
   ·have e:([i].filter λi:Nat=>decide ((i:Int)=0)||decide (g.pn<(i:Int)))=[]:=by
     simp only[Bool.or_eq_false_iff,decide_eq_false_iff_not]at hn
     rw[List.filter_cons_of_neg (by simp only[Bool.or_eq_true,gdt];omega),List.filter_nil]
    rw[e]at hK8
    exact hK8 _ _ ⟨rfl,M,hM.mono (by omega),S⟩
  ·clear S hM
   rintro _ w7 ⟨rfl,M,hM,S⟩ d7
   refine gp_ ?_
   rw[show ((i:Int)+1)=((i+1:Nat):Int)by omega]
   exact hK4 (i+1) _ ⟨hlt,M,hM,S⟩ (by omega)
 ·obtain rfl:i=g.tys.length:=by omega
  refine Z8 (b:=bg) S hM (by omega) λv1 s1 w5 S h1' a1=>?_
  have S:=S.reGh
  exact h1 g v1 _ _ hof F S.ext (S.newOf (a2.or' λb o ho=>(a1 b o ho).resolve_right id)) (h1'.up' inferInstance λ_ _ h=>h)
end
abbrev AgA:=(Nat→Bool)×(Nat→Bool)
def aiZ(a:AgA)(i:Nat)(b:Bool):AgA:=(xm a.1 i true,xm a.2 i (a.2 i||b))
def usT(us m:Nat→Bool)(i:Nat)(a:AgA):AgA:=(λj=>a.1 j||(decide (j<i)&&us j),λj=>a.2 j||(decide (j<i)&&(us j&&m j)))
theorem alK{us m:Nat→Bool}{i:Nat}{a:AgA}(h:us i=true)(j:Nat):(aiZ (usT us m i a) i (m i)).1 j=(usT us m (i+1) a).1 j∧(aiZ (usT us m i a) i (m i)).2 j=(usT us m (i+1) a).2 j:=by
 show xm _ i true j=_∧xm _ i _ j=_
 unfold xm usT
 by_cases e:j=i
 ·subst e;simp[h]
 ·have :(j<i+1)=(j<i):=by rw[eq_iff_iff];omega
  simp[e,this]
theorem amG{us m:Nat→Bool}{i:Nat}{a:AgA}(h:us i=false)(j:Nat):(usT us m i a).1 j=(usT us m (i+1) a).1 j∧(usT us m i a).2 j=(usT us m (i+1) a).2 j:=by
 unfold usT
 by_cases e:j=i
 ·subst e;simp[h]
 ·have :(j<i+1)=(j<i):=by rw[eq_iff_iff];omega
  simp[this]
abbrev alk(b3 b5 b7:Nat):Value:=.func (.func Tryz.Yo) #[] #[.pointer (some ⟨b3,0,none⟩),.pointer (some ⟨b5,0,none⟩),.pointer (some ⟨b7,0,none⟩)]
section
variable {u:UnD} {fn q:Int} {g:GrD} {ps:List PlD} {bx b3 b5 b7 bm:Nat} {q0 r:Gh} {x:PlD} {c:List Value} {X:Nat→Prop} {w0 w:World} {L:List Asr} {K:Value→World→Prop} {laid:Bool} {tell:Value}
theorem ang{J:Nat→List Asr→Prop}(S:StX X w0 r w L)(hL:LkM q0 bx u g ps)[Le q0 r](F:FnM u fn g)(hp:PlG r c x)(hok:OkP u g x)(hf:ps.length≤1000000)
  (h3:Ob r λw=>w.cell? ⟨b3,0,none⟩=some (.pointer (some ⟨bx,0,none⟩))) (h5:Ob r λw=>w.cell? ⟨b5,0,none⟩=some tell) (h7:Ob r λw=>w.cell? ⟨b7,0,none⟩=some (.map (some bm))) (h0:J 0 L)
  (hy:∀{i:Nat}{L:List Asr}{r':Gh}{w:World}{K:Value→World→Prop},i<ps.length→useF u g ps x laid i=true→Le r r'→J i L→StX X w0 r' w L→(∀L' w',J (i+1) L'→StX X w0 r' w' L'→K (.tuple #[]) w')→zF Tryz.prog tell #[.int .i64 (i:Nat),.map (some bm)] w K)
  (hn:∀{i:Nat}{L:List Asr},i<ps.length→useF u g ps x laid i=false→J i L→J (i+1) L)
  (h:∀L' w',J ps.length L'→StX X w0 r w' L'→K (.tuple #[]) w'):zF Tryz.prog (alk b3 b5 b7) #[.agg c.toArray,.bool laid] w K:=by
 refine am7 (by kernel_rfl) ?_
 refine Tryz.VI ?_
 unfold Tryz.Yy
 have hp0:=hp
 obtain⟨vv,rfl,hl⟩:=hp
 obtain⟨qs,caps,rfl,_,_⟩:=hl.sl.shape
 obtain⟨pp,cap,hpc,hps⟩:=hL.pth
 refine S.box λb1 w1 S=>?_
 have S:StX X w0 r w1 (.cell b1 [.int .i64 x.l,.slice qs x.ps.length caps] 59::L):=S
 refine zg (S.at h3) ?_
 refine S.ldB (b:=b1) ?_ rfl
 obtain⟨p0,cap0,hc0,hst0⟩:=hL.ss
 obtain⟨qt,capt,hc7,hty⟩:=hL.tys
 refine Yk S.holds (λw' e=>⟨(S.go e).at hc0,(S.go e).at hc7⟩) (RepS.up hst0) (hty.up' inferInstance λ_ _ h=>TyG.up h) F.may.ok F.fine hp0 hok λv3 s3 w3 e3 n3 h3'=>?_
 obtain⟨S,_,_⟩:=S.tell e3 n3
 obtain⟨q3,c3,rfl,_,_⟩:=h3'.sl.shape
 have hhl:=Z5 (ss:=u.ss) (tys:=g.tys) (p:=x)
 refine gS_ ?_
 refine S.al λb2 w4 S=>?_
 refine S.stB (b:=b2) λw5 S=>?_
 have S:StX X w0 (r.or s3) w5 (.cell b2 [.int .i64 x.l,.slice q3 (heldW u.ss g.tys x).ps.length c3] 59::.cell b1 [.int .i64 x.l,.slice qs x.ps.length caps] 59::L):=S
 have hph:PlG (r.or s3) [.int .i64 x.l,.slice q3 (heldW u.ss g.tys x).ps.length c3] (heldW u.ss g.tys x):=⟨_,by rw[hhl],h3'⟩
 refine zg (S.at h3) ?_
 refine gg_ ?_
 refine zg (S.at hpc) ?_
 refine gp_ ?_
 have hus:∀i,useF u g ps x laid i=((prefP (pthAt ps i) (heldW u.ss g.tys x) && !(laid&&(wholeP u g x&&eqb (pthAt ps i) x)))||(!laid&&wholeP u g x&&prefP x (pthAt ps i))):=λi=>rfl
 generalize heldW u.ss g.tys x=hd at *
 generalize wholeP u g x=wh at *
 generalize useF u g ps x laid=us at *
 have S:=S.frzAt b2
 have S:=S.frzAt b1
 obtain⟨ρ,lr,l0,hb1,hb2,hph,S⟩:∃ρ,Le r ρ∧Le q0 ρ∧(∀j v,[Value.int .i64 x.l,.slice qs x.ps.length caps][j]? = some v→Ob ρ λw=>w.cell? ⟨b1,0+j,none⟩=some v)∧(∀j v,[Value.int .i64 x.l,.slice q3 hd.ps.length c3][j]? = some v→Ob ρ λw=>w.cell? ⟨b2,0+j,none⟩=some v)∧PlG ρ [.int .i64 x.l,.slice q3 hd.ps.length c3] hd∧StX X w0 ρ w5 L:=
  ⟨_,inferInstance,inferInstance,λj v hj=>by rw[Nat.zero_add];exact xb (b:=b1) (c:=[.int .i64 x.l,.slice qs x.ps.length caps]) (T:=59) hj,λj v hj=>by rw[Nat.zero_add];exact xb (b:=b2) (c:=[.int .i64 x.l,.slice q3 hd.ps.length c3]) (T:=59) hj,PlG.up hph,S⟩
 have hp1:PlG ρ [.int .i64 x.l,.slice qs x.ps.length caps] x:=PlG.up hp0
 refine zh (ι:=Nat) (λi=>[.int .i64 (i:Nat)]) (λi w'=>i≤ps.length∧∃L',J i L'∧StX X w0 ρ w' L') (λi=>ps.length-i) 0 rfl ⟨gzl _,L,h0,S⟩ ?_
 clear S h0
 rintro i d w6 ⟨hi,L6,hJ,S⟩ K2 hK2
 rw[gdz]
 refine gp_ ?_
 refine zf (λhlt=>?_) (λhge=>?_)
 rotate_left
 ·obtain rfl:i=ps.length:=by omega
  exact h L6 _ hJ (S.to r)
 have hlt:i<ps.length:=by omega
 refine zn (λy w'=>y=[]∧∃L',J (i+1) L'∧StX X w0 ρ w' L') (λK9 hK9=>?_) ?_
 rotate_left
 ·clear S
  rintro _ w9 ⟨rfl,L',hJ',S⟩ d9
  refine gp_ ?_
  rw[show ((i:Int)+1)=((i+1:Nat):Int)by omega]
  exact hK2 (i+1) _ ⟨hlt,L',hJ',S⟩ (by omega)
 obtain⟨bo,oo,co,hE,hco,hoc,hoo⟩:=hps.get (by decide) hlt
 cases hE
 refine gp_ ?_
 refine zp (n:=2) hco (λj v hj=>by simpa using S.at (hoo j v hj)) ?_
 rw[← vY hlt]at hoc
 have hoc0:=hoc
 obtain⟨vo,rfl,hol⟩:=hoc
 obtain⟨qo,ko,rfl,_,_⟩:=hol.sl.shape
 have hui:=hus i
 generalize pthAt ps i=y at *
 refine S.al λb4 w7 S=>?_
 refine S.stB (b:=b4) λw8 S=>?_
 have S:StX X w0 ρ w8 (.cell b4 [.int .i64 y.l,.slice qo y.ps.length ko] 59::L6):=S
 have hy1:PlG ρ [.int .i64 y.l,.slice qo y.ps.length ko] y:=PlG.up hoc0
 have fin:∀(bb:Bool) w',bb=us i→StX X w0 ρ w' (.cell b4 [.int .i64 y.l,.slice qo y.ps.length ko] 59::L6)→zc (.bool bb) (Tryz.lo w' 88 (.pointer (some ⟨b5,0,none⟩)) λt56=>Tryz.lo w' 82 (.pointer (some ⟨b7,0,none⟩)) λt58=>Tryz.cv t56 #[.int .i64 (i:Nat),t58] w' λ_ w54=>K9 [] w54) (K9 [] w'):=λbb w' hb S=>by
  refine c_b (λhyes=>?_) (λhno=>?_)
  ·refine zg (S.at h5) ?_
   refine zg (S.at h7) ?_
   refine hy hlt (hb▸hyes) lr hJ S.tl λL' w9 hJ' S=>?_
   exact hK9 _ _ ⟨rfl,L',hJ',S⟩
  ·exact hK9 _ _ ⟨rfl,L6,hn hlt (hb▸hno) hJ,S.tl⟩
 clear hJ hK9 hy hn h hK2
 refine zt (c:=eqb y x) (λ_ K2 hK2=>?_) λw9 e9=>?_
 ·refine S.ldB (b:=b4) ?_ rfl
  refine zp (n:=2) rfl (λj v hj=>S.at (hb1 j v hj)) ?_
  exact aae S.holds hy1 hp1 λw' e=>hK2 w' e
 have S:=S.go e9
 generalize (wh&&eqb y x)=own at *
 refine S.ldB (b:=b4) ?_ rfl
 refine zp (n:=2) rfl (λj v hj=>S.at (hb2 j v hj)) ?_
 refine Z2 S.holds hy1 hph λw10 e10=>?_
 have S:=S.go e10
 generalize prefP y hd=pr at *
 have last:∀K:List Value→World→Prop,(∀w',StX X w0 ρ w' (.cell b4 [.int .i64 y.l,.slice qo y.ps.length ko] 59::L6)→K [.bool (prefP x y)] w')→Tryz.lo w10 59 (.pointer (some ⟨b1,0,none⟩)) λt51=>Tryz.lo w10 59 (.pointer (some ⟨b4,0,none⟩)) λt52=>Tryz.ca Tryz.xX #[t51,t52] w10 λt53 w49=>K [t53] w49:=λK hK=>by
  refine zp (n:=2) rfl (λj v hj=>S.at (hb1 j v hj)) ?_
  refine S.ldB (b:=b4) ?_ rfl
  exact Z2 S.holds hp1 hy1 λw' e=>hK w' (S.go e)
 rcases pr with _|_<;>rcases laid with _|_<;>rcases own with _|_<;>rcases wh with _|_<;>repeat' (first
  |rw [Bool.not_false]
  |rw [Bool.not_true]
  |(refine gd_ ?_;exact fin _ _ (by rw[hui];rfl) S)
  |(refine gd_ ?_;intro K9 hK9;refine gd_ ?_;refine hK9 _ _ λ_=>?_;clear hK9 K9)
  |(refine gd_ ?_;intro K9 hK9;refine gd_ ?_;refine last _ λw11 S=>?_;refine hK9 _ _ λ_=>?_;clear hK9 K9 last))
end
section
variable {u:UnD} {fn q:Int} {g:GrD} {ps:List PlD} {bx b3 b5 b7 bm B:Nat} {q0 r:Gh} {x:PlD} {c:List Value} {X:Nat→Prop} {w0 w:World} {L0:List Asr} {K:Value→World→Prop} {laid:Bool} {Mv:yx} {m:Nat→Bool} {t:Nat} {ft:Fn} {at' ct:Array Value}
abbrev ai0:=Nat→AgA→List Asr→Prop
structure TelF(R:ai0)(n:Nat)(r:Gh)(X:Nat→Prop)(w0:World)(bm:Nat)(tell:Value):Prop where
 alike:∀{t a a' L},R t a L→(∀i,i<n→a.1 i=a'.1 i∧a.2 i=a'.2 i)→R t a' L
 more:∀{t t' a L},R t a L→t≤t'→R t' a L
 tell:∀{i t:Nat}{a:AgA}{L:List Asr}{Mv:yx}{m:Nat→Bool}{B:Nat}{r':Gh}{w:World}{K:Value→World→Prop},i<n→t≤1000000→Le r r'→R t a L→SetF n B Mv m→StX X w0 r' w (.obj bm (zN Mv)::L)→(∀L' w',R (t+1) (aiZ a i (m i)) L'→StX X w0 r' w' (.obj bm (zN Mv)::L')→K (.tuple #[]) w')→zF Tryz.prog tell #[.int .i64 (i:Nat),.map (some bm)] w K
theorem TelF.up{R:ai0}{n:Nat}{r s:Gh}{tell:Value}(h:TelF R n r X w0 bm tell)(l:Le r s):TelF R n s X w0 bm tell:=
 ⟨h.alike,h.more,λhi ht lr hR hM S hK=>h.tell hi ht ⟨λb o ho=>lr.le b o (l.le b o ho)⟩ hR hM S hK⟩
theorem adK{R:ai0}{a:AgA}{tell:Value}(S:StX X w0 r w (.obj bm (zN Mv)::L0))(hL:LkM q0 bx u g ps)[Le q0 r](F:FnM u fn g)(hp:PlG r c x)(hok:OkP u g x)(hf:ps.length≤256)(hT:TelF R ps.length r X w0 bm tell)
  (h3:Ob r λw=>w.cell? ⟨b3,0,none⟩=some (.pointer (some ⟨bx,0,none⟩))) (h5:Ob r λw=>w.cell? ⟨b5,0,none⟩=some tell) (h7:Ob r λw=>w.cell? ⟨b7,0,none⟩=some (.map (some bm))) (ht:t≤999000) (hR:R t a L0) (hM:SetF ps.length B Mv m)
  (h:∀L' w',R (t+ps.length) (λi=>a.1 i||useF u g ps x laid i,λi=>a.2 i||(useF u g ps x laid i&&m i)) L'→StX X w0 r w' (.obj bm (zN Mv)::L')→K (.tuple #[]) w'):zF Tryz.prog (alk b3 b5 b7) #[.agg c.toArray,.bool laid] w K:=by
 refine ang (J:=λi L'=>∃L1,L'=.obj bm (zN Mv)::L1∧R (t+i) (usT (useF u g ps x laid) m i a) L1) S hL F hp hok (by omega) h3 h5 h7 ⟨L0,rfl,hT.alike hR λi _=>by simp[usT]⟩ ?_ ?_ ?_
 ·rintro i L' r' w K hi hu lr ⟨L1,rfl,hR⟩ S hK
  refine hT.tell hi (by omega) lr hR hM S λL2 w' hR S=>?_
  exact hK _ w' ⟨L2,rfl,hT.alike hR λj _=>alK hu j⟩ S
 ·rintro i L' hi hu ⟨L1,rfl,hR⟩
  exact⟨L1,rfl,hT.more (hT.alike hR λj _=>amG hu j) (by omega)⟩
 ·rintro L' w' ⟨L1,rfl,hR⟩ S
  exact h L1 w' (hT.alike hR λi hi=>by simp[usT,hi]) S
theorem aj1{R:ai0}{p:PtD}(S:StX X w0 r w L0)(hL:LkM q0 bx u g ps)[Le q0 r](F:FnM u fn g)(hq0:0≤q)(hq:q.toNat<g.pts.length)(hpe:g.pts[q.toNat]=p)(hf:ps.length≤256)(hT:∀bm,TelF R ps.length r X w0 bm (.func ft at' ct))(hR:R 0 (zB,zB) L0)
  (h:∀t L' w',R t ((yq u g ps p).all,(yq u g ps p).again) L'→StX X w0 r w' L'→K (.tuple #[]) w'):zd Tryz.prog Tryz.qz #[.pointer (some ⟨bx,0,none⟩),.int .i64 q,.func ft at' ct] w K:=by
 refine Tryz.abh ?_
 unfold Tryz.XU
 have hpm:p∈g.pts:=by rw[← hpe];exact gem hq
 have hargs:=jw F.may (F.pts p hpm)
 have hto:=F.to hpm
 have hpls:=F.pls hpm
 obtain⟨pq,capq,hpts,hpl⟩:=hL.pts
 obtain⟨bq,oq,cq,hqE,hcq,hpc,hpo⟩:=hpl.sl.get (by decide) hq
 cases hqE
 rw[hpe]at hpc
 obtain⟨x1,x2,x3,x4,x5,y1,y2,y3,y4,y5,rfl,hp0⟩:=xZ hpc
 refine S.box λb3 w1 S=>?_
 have S:StX X w0 r w1 (.cell b3 [.pointer (some ⟨bx,0,none⟩)] 78::L0):=S
 have S:=S.frzAt b3
 refine S.box λb5 w2 S=>?_
 have S:StX X w0 _ w2 (.cell b5 [.func ft at' ct] 88::L0):=S
 have S:=S.frzAt b5
 refine zg (S.at (q:=r.or (Go.Sh.one b3 [.pointer (some ⟨bx,0,none⟩)] 78)) (xb (b:=b3) (i:=0) (c:=[.pointer (some ⟨bx,0,none⟩)]) (T:=78) rfl)) ?_
 refine gg_ ?_
 refine zg (S.at hpts) ?_
 refine gp_ ?_
 refine zp (n:=21) hcq (λj v hj=>by simpa using S.at (hpo j v hj)) ?_
 refine S.al λb6 w3 S=>?_
 refine S.stB (b:=b6) λw4 S=>?_
 have S:StX X w0 _ w4 (.cell b6 (ptL p x1 x2 x3 x4 x5 y1 y2 y3 y4 y5) 94::L0):=S
 have S:=S.frzAt b6
 refine S.mkMapJ λbm w5 S=>?_
 refine S.al λb7 w6 S=>?_
 refine S.st (b:=b7) (λw7 S=>?_) (by simp)
 have S:StX X w0 _ w7 (.cell b7 [.map (some bm)] 82::.obj bm (zN [])::L0):=S
 have S:=S.frzAt b7
 refine gp_ ?_
 refine zp (n:=21) (c:=ptL p x1 x2 x3 x4 x5 y1 y2 y3 y4 y5) rfl (λj v hj=>by simpa using S.at (xb (q:=Go.Sh.one b6 (ptL p x1 x2 x3 x4 x5 y1 y2 y3 y4 y5) 94) (b:=b6) (T:=94) hj)) ?_
 refine vC S.holds (PtG.up hp0) hargs λv9 s2 w9 e9 n9 h9=>?_
 obtain⟨S,_,a9⟩:=S.tell e9 n9
 obtain⟨ρ,lr,l0,h3,h5,h6,h7,h9,hp0,S⟩:∃ρ,Le r ρ∧Le q0 ρ∧(Ob ρ λw=>w.cell? ⟨b3,0,none⟩=some (.pointer (some ⟨bx,0,none⟩)))∧(Ob ρ λw=>w.cell? ⟨b5,0,none⟩=some (.func ft at' ct))∧(∀j v,(ptL p x1 x2 x3 x4 x5 y1 y2 y3 y4 y5)[j]? = some v→Ob ρ λw=>w.cell? ⟨b6,j,none⟩=some v)∧(Ob ρ λw=>w.cell? ⟨b7,0,none⟩=some (.map (some bm)))∧
  SlG 4 ρ (OpG ρ) v9 (zs p)∧PtG ρ (ptL p x1 x2 x3 x4 x5 y1 y2 y3 y4 y5) p∧StX X w0 ρ w9 (.obj bm (zN [])::L0):=
  ⟨_,inferInstance,inferInstance,xb (b:=b3) (i:=0) (c:=[.pointer (some ⟨bx,0,none⟩)]) (T:=78) rfl,xb (b:=b5) (i:=0) (c:=[.func ft at' ct]) (T:=88) rfl,λj v hj=>xb (b:=b6) (c:=ptL p x1 x2 x3 x4 x5 y1 y2 y3 y4 y5) (T:=94) hj,xb (b:=b7) (i:=0) (c:=[.map (some bm)]) (T:=82) rfl,h9.up' inferInstance λ_ _ h=>OpG.up h,PtG.up hp0,S⟩
 clear e9 n9 a9 hpo hpc hcq
 have hTb:=(hT bm).up lr
 clear hT
 obtain⟨_,_,_,_,_,hE,k1,k2,k3,k4,k5⟩:=id hp0
 cases hE
 obtain⟨q9,c9,rfl,_,_⟩:=h9.shape
 have hol:(zs p).length≤1002:=by
  have h1:=List.length_filter_le zV (p.a::p.b::p.args)
  change (zs p).length≤_ at h1
  simp only[List.length_cons]at h1
  omega
 refine gp_ ?_
 refine zh (ι:=Nat) (λj=>[.int .i64 (j:Nat)]) (λj w'=>j≤(zs p).length∧∃a L Mv,a=(((zs p).take j).map λo=>(o.pl,false,decide (o.k=4))).foldl (usF u g ps) ⟨zB,zB,zB⟩∧R (j*256) (a.all,a.again) L∧SetF ps.length (j*256) Mv a.lost∧StX X w0 ρ w' (.obj bm (zN Mv)::L)) (λj=>(zs p).length-j) 0 rfl ⟨gzl _,⟨zB,zB,zB⟩,L0,[],rfl,by rw[Nat.zero_mul];exact hR,by rw[Nat.zero_mul];exact SetF.none,S⟩ ?_
 clear S hR
 rintro j d5 w10 ⟨hj,a,L,Mv,ha,hR,hM,S⟩ K9 hK9
 rw[gdz]
 refine gp_ ?_
 refine zf (λhlt=>?_) (λhge=>?_)
 ·have hlt:j<(zs p).length:=by omega
  refine zn (λy w'=>y=[]∧∃L Mv,R ((j+1)*256) ((usF u g ps a ((zs p)[j].pl,false,decide ((zs p)[j].k=4))).all,(usF u g ps a ((zs p)[j].pl,false,decide ((zs p)[j].k=4))).again) L∧SetF ps.length ((j+1)*256) Mv (usF u g ps a ((zs p)[j].pl,false,decide ((zs p)[j].k=4))).lost∧StX X w0 ρ w' (.obj bm (zN Mv)::L)) (λK13 hK13=>?_) ?_
  ·obtain⟨bo,oo,co,hoE,hco,hoc,hoo⟩:=h9.get (by decide) hlt
   cases hoE
   have hok:=hpls _ (List.mem_append_left _ (List.mem_map_of_mem (gem hlt)))
   clear hK9 ha
   generalize (zs p)[j]=o at *
   refine gp_ ?_
   refine zp (n:=4) hco (λj v hj=>by simpa using S.at (hoo j v hj)) ?_
   obtain⟨qo,ko,rfl⟩:=qW hoc
   refine S.al λb14 w11 S=>?_
   refine S.stB (b:=b14) λw12 S=>?_
   have S:StX X w0 ρ w12 (.cell b14 [.int .u8 o.k,.int .i64 o.n,.int .i64 o.pl.l,.slice qo o.pl.ps.length ko] 61::.obj bm (zN Mv)::L):=S
   obtain⟨_,hoE,hopl⟩:=id hoc
   cases hoE
   have S:=S.frzAt b14
   have lo:∀j v,[Value.int .u8 o.k,.int .i64 o.n,.int .i64 o.pl.l,.slice qo o.pl.ps.length ko][j]? = some v→Ob (ρ.or (Go.Sh.one b14 [.int .u8 o.k,.int .i64 o.n,.int .i64 o.pl.l,.slice qo o.pl.ps.length ko] 61)) λw=>w.cell? ⟨b14,j,none⟩=some v:=λj v hj=>xb (b:=b14) (c:=[.int .u8 o.k,.int .i64 o.n,.int .i64 o.pl.l,.slice qo o.pl.ps.length ko]) (T:=61) hj
   have lo2:∀j v,[Value.int .i64 o.pl.l,.slice qo o.pl.ps.length ko][j]? = some v→Ob (ρ.or (Go.Sh.one b14 [.int .u8 o.k,.int .i64 o.n,.int .i64 o.pl.l,.slice qo o.pl.ps.length ko] 61)) λw=>w.cell? ⟨b14,2+j,none⟩=some v:=λj v hj=>lo (2+j) v (by rw[Nat.add_comm,← hj];rfl)
   have hpl:PlG (ρ.or (Go.Sh.one b14 [.int .u8 o.k,.int .i64 o.n,.int .i64 o.pl.l,.slice qo o.pl.ps.length ko] 61)) [.int .i64 o.pl.l,.slice qo o.pl.ps.length ko] o.pl:=PlG.up (⟨_,rfl,hopl⟩:PlG ρ _ o.pl)
   obtain⟨σ,hσ⟩:∃σ,σ=ρ.or (Go.Sh.one b14 [.int .u8 o.k,.int .i64 o.n,.int .i64 o.pl.l,.slice qo o.pl.ps.length ko] 61):=⟨_,rfl⟩
   have lσ:Le ρ σ:=by rw[hσ];exact inferInstance
   rw[← hσ]at S lo lo2 hpl
   haveI:Le q0 σ:=⟨λb o ho=>lσ.le b o (l0.le b o ho)⟩
   refine gp_ ?_
   refine zp (n:=2) rfl (λj v hj=>S.at (lo2 j v hj)) ?_
   refine adK (laid:=false) S hL F hpl hok hf (hTb.up lσ) h3.up h5.up h7.up (by omega) hR hM λL' w13 hR S=>?_
   have hR:R ((j+1)*256) ((usF u g ps a (o.pl,false,decide (o.k=4))).all,(usF u g ps a (o.pl,false,decide (o.k=4))).again) L':=hTb.more hR (by omega)
   refine gp_ ?_
   refine zg (S.at (lo 0 _ rfl)) ?_
   refine gp_ ?_
   refine zf (λhk=>?_) (λhk=>?_)
   ·refine zg (S.at h3) ?_
    refine gp_ ?_
    refine zp (n:=2) rfl (λj v hj=>S.at (lo2 j v hj)) ?_
    refine zg (S.at h7) ?_
    refine gp_ ?_
    refine j4 (b:=bm) S hL hpl (by omega) hM (by omega) λM' w14 hM' S=>?_
    refine hK13 _ _ ⟨rfl,L',M',hR,?_,S.to ρ⟩
    have e:(usF u g ps a (o.pl,false,decide (o.k=4))).lost=xB ps o.pl true a.lost:=if_pos (by simpa using hk)
    rw[e]
    exact hM'.mono (by omega)
   ·refine hK13 _ _ ⟨rfl,L',Mv,hR,?_,S.to ρ⟩
    have e:(usF u g ps a (o.pl,false,decide (o.k=4))).lost=a.lost:=if_neg (by simpa using hk)
    rw[e]
    exact hM.mono (by omega)
  ·clear S hR hM
   rintro _ w13 ⟨rfl,L,Mv,hR,hM,S⟩ d13
   refine gp_ ?_
   rw[show ((j:Int)+1)=((j+1:Nat):Int)by omega]
   refine hK9 (j+1) _ ⟨hlt,_,L,Mv,?_,hR,hM,S⟩ (by omega)
   rw[List.take_succ_eq_append_getElem hlt,List.map_append,List.foldl_append,← ha];rfl
 obtain rfl:j=(zs p).length:=by omega
 rw[List.take_length]at ha
 clear hK9 K9 hge hj
 have hfin:yq u g ps p=((if p.op=4 then [(p.fr,false,false)]else if p.op=14 then [(Xe,false,false)]else [])++(if(decide (1≤p.op)&&decide (p.op≤8))=true then [(p.to,true,false)]else [])).foldl (usF u g ps) a:=by
  rw[yq,adJ,List.foldl_append,ha]
 rw[List.foldl_append]at hfin
 have lp:∀(n:Nat)(c:List Value),c.length=2→(∀j v,c[j]? = some v→(ptL p x1 x2 x3 x4 x5 y1 y2 y3 y4 y5)[n+j]? = some v)→∀j v,c[j]? = some v→Ob ρ λw=>w.cell? ⟨b6,n+j,none⟩=some v:=λn c _ hc j v hj=>h6 _ v (hc j v hj)
 have hfr:=lp 13 [.int .i64 p.fr.l,.slice x5 p.fr.ps.length y5] rfl (λj v hj=>by
  have hj2:j<2:=(List.getElem?_eq_some_iff.1 hj).1
  rw[← hj];rcases(show j=0∨j=1 by omega)with rfl|rfl<;>rfl)
 have hpt:=lp 1 [.int .i64 p.to.l,.slice x1 p.to.ps.length y1] rfl (λj v hj=>by
  have hj2:j<2:=(List.getElem?_eq_some_iff.1 hj).1
  rw[← hj];rcases(show j=0∨j=1 by omega)with rfl|rfl<;>rfl)
 refine zn (λy w'=>y=[]∧∃a2 L,yq u g ps p=(if(decide (1≤p.op)&&decide (p.op≤8))=true then [(p.to,true,false)]else []).foldl (usF u g ps) a2∧R 300000 (a2.all,a2.again) L∧(∃B,SetF ps.length B Mv a2.lost)∧StX X w0 ρ w' (.obj bm (zN Mv)::L)) (λK21 hK21=>?_) ?_
 ·refine gp_ ?_
  refine zg (S.at (h6 0 _ rfl)) ?_
  refine gp_ ?_
  refine zf (λho=>?_) (λho=>?_)
  ·rw[if_pos ho]at hfin
   refine gp_ ?_
   refine zp (n:=2) rfl (λj v hj=>S.at (hfr j v hj)) ?_
   refine adK (laid:=false) S hL F (⟨_,rfl,k5⟩:PlG ρ _ p.fr) (hpls _ (by rw[zK,if_pos (.inl (.inl ho))];simp)) hf hTb h3 h5 h7 (by omega) hR hM λL' w13 hR S=>?_
   exact hK21 _ _ ⟨rfl,_,L',hfin,hTb.more hR (by omega),⟨_,hM⟩,S⟩
  ·rw[if_neg ho]at hfin
   refine gp_ ?_
   refine zg (S.at (h6 0 _ rfl)) ?_
   refine gp_ ?_
   refine zf (λho=>?_) (λho=>?_)
   ·rw[if_pos ho]at hfin
    refine zy (cs:=#[.int .i64 0,.slice none 0 0]) (by kernel_rfl) ?_
    refine adK (laid:=false) S hL F (x:=Xe) (c:=[.int .i64 0,.slice none 0 0]) ⟨_,rfl,jI⟩ (.inl rfl) hf hTb h3 h5 h7 (by omega) hR hM λL' w13 hR S=>?_
    exact hK21 _ _ ⟨rfl,_,L',hfin,hTb.more hR (by omega),⟨_,hM⟩,S⟩
   ·rw[if_neg ho]at hfin
    exact hK21 _ _ ⟨rfl,a,L,hfin,hTb.more hR (by omega),⟨_,hM⟩,S⟩
 clear S hR hM hfin ha
 rintro _ w13 ⟨rfl,a2,L,hfin,hR,⟨B,hM⟩,S⟩ d13
 refine zp (n:=21) (c:=ptL p x1 x2 x3 x4 x5 y1 y2 y3 y4 y5) rfl (λj v hj=>by simpa using S.at (h6 j v hj)) ?_
 refine Z6 S.holds hp0 λw14 e14=>?_
 have S:=S.go e14
 refine c_b (λho=>?_) (λho=>?_)
 ·rw[if_pos ho]at hfin
  refine gp_ ?_
  refine zp (n:=2) rfl (λj v hj=>S.at (hpt j v hj)) ?_
  refine adK (laid:=true) S hL F (⟨_,rfl,k1⟩:PlG ρ _ p.to) hto hf hTb h3 h5 h7 (by omega) hR hM λL' w15 hR S=>?_
  rw[hfin]at h
  exact h _ L' _ hR (S.tl.to r)
 ·rw[if_neg (by rw[ho];decide)]at hfin
  rw[hfin]at h
  exact h _ L _ hR (S.tl.to r)
end
end
end Go.Proofs
