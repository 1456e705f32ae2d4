/-
  Contracts and plain laws that the last text leans on.
-/
import Derived.Test.YthmakcmiggpoeaaGreatDoorQFe
import Derived.Test.YthmakcmiggpoeaaGreatDoorQFd
import Derived.Test.YthmakcmiggpoeaaGreatDoorQFc
import Derived.Shelf.Sort.Plain
import Derived.Shelf.Bits.Mul64
import Derived.Shelf.Slices.Reverse
import Derived.Shelf.Slices.Clone
import Derived.Shelf.Slices.CompactI
import Derived.Shelf.Slices.In.SortNone
import Derived.Test.YthmakcmiggpoeaaGreatDoorProg
import Derived.KernelRfl
import Derived.Test.YthmakcmiggpoeaaGreatDoorQFa
import Derived.Lib.TrailingZeros
import Derived.Test.YthmakcmiggpoeaaGreatDoorQFb
import Derived.ChangeKeysEq
set_option maxRecDepth 100000
set_option maxHeartbeats 8000000
set_option linter.unusedVariables false
set_option linter.unusedSimpArgs false
section
namespace Go.Sh
theorem alQ{w:World}{b e n x y:Bool}{A1:(List Value→World→Prop)→Prop}{A2 A3 A4:(List Value→World→Prop)→World→Prop}{Z:Value→World→Prop}
  (h1:∀K:List Value→World→Prop,(∀w',Ext w w'→K [.bool e] w')→A1 K) (h2:∀(K:List Value→World→Prop) w1,Ext w w1→(∀w',Ext w w'→K [.bool n] w')→A2 K w1)
  (h3:∀(K:List Value→World→Prop) w1,Ext w w1→(∀w',Ext w w'→K [.bool x] w')→A3 K w1) (h4:∀(K:List Value→World→Prop) w1,Ext w w1→(∀w',Ext w w'→K [.bool y] w')→A4 K w1)
  (hZ:∀w',Ext w w'→Z (.bool (b||(((e||n)&&x)&&y))) w'):
  za (λK=>gIf (.bool b) false (A1 K) (K [u_] w)) λs92 _ w94=>
   za (λK=>gIf (s92.getD 0 u_) false (A2 K w94) (K [u_] w94)) λs96 _ w98=>
    za (λK=>gIf (.bool b) false (zb (s92.getD 0 u_) (.bool true) (s96.getD 0 u_) λt=>K [t] w98) (K [u_] w98)) λs100 _ w102=>
     za (λK=>gIf (s100.getD 0 u_) true (A3 K w102) (K [u_] w102)) λs104 _ w106=>
      za (λK=>gIf (.bool b) false (zb (s100.getD 0 u_) (s104.getD 0 u_) (.bool false) λt=>K [t] w106) (K [u_] w106)) λs109 _ w111=>
       za (λK=>gIf (s109.getD 0 u_) true (A4 K w111) (K [u_] w111)) λs113 _ w115=>
        za (λK=>gIf (.bool b) false (zb (s109.getD 0 u_) (s113.getD 0 u_) (.bool false) λt=>K [t] w115) (K [u_] w115)) λs118 _ w120=>
         zb (.bool b) (.bool true) (s118.getD 0 u_) λt=>Z t w120:=by
 cases b<;>cases e<;>cases n<;>cases x<;>cases y <;>
  (iterate 7 (intro K hK;first|refine hK _ _ λ_=>?_|(refine h1 _ λw1 e1=>hK _ _ λ_=>?_)|(refine h2 _ _ (by first|assumption|exact Ext.refl _) λw1 e1=>hK _ _ λ_=>?_)|(refine h3 _ _ (by first|assumption|exact Ext.refl _) λw1 e1=>hK _ _ λ_=>?_)|(refine h4 _ _ (by first|assumption|exact Ext.refl _) λw1 e1=>hK _ _ λ_=>?_)|refine ⟨_,rfl,hK _ _ λ_=>?_⟩)) <;>
  exact⟨_,rfl,by simpa using hZ _ (by first|assumption|exact Ext.refl _)⟩
theorem akU{w:World}{b m x y o u v:Bool}{A1:(List Value→World→Prop)→Prop}{A2 A3 A4 A5 A6:(List Value→World→Prop)→World→Prop}{Z:Value→World→Prop}
  (h1:∀K:List Value→World→Prop,(∀w',Ext w w'→K [.bool m] w')→A1 K) (h2:∀(K:List Value→World→Prop) w1,Ext w w1→(∀w',Ext w w'→K [.bool x] w')→A2 K w1)
  (h3:∀(K:List Value→World→Prop) w1,Ext w w1→(∀w',Ext w w'→K [.bool y] w')→A3 K w1) (h4:∀(K:List Value→World→Prop) w1,Ext w w1→(∀w',Ext w w'→K [.bool o] w')→A4 K w1)
  (h5:∀(K:List Value→World→Prop) w1,Ext w w1→(∀w',Ext w w'→K [.bool u] w')→A5 K w1) (h6:∀(K:List Value→World→Prop) w1,Ext w w1→(∀w',Ext w w'→K [.bool v] w')→A6 K w1)
  (hZ:∀w',Ext w w'→Z (.bool (b&&(((m&&x)&&y)||((o&&u)&&v)))) w'):
  za (λK=>gIf (.bool b) true (A1 K) (K [u_] w)) λs141 _ w143=>
   za (λK=>gIf (s141.getD 0 u_) true (A2 K w143) (K [u_] w143)) λs145 _ w147=>
    za (λK=>gIf (.bool b) true (zb (s141.getD 0 u_) (s145.getD 0 u_) (.bool false) λt=>K [t] w147) (K [u_] w147)) λs150 _ w152=>
     za (λK=>gIf (s150.getD 0 u_) true (A3 K w152) (K [u_] w152)) λs154 _ w156=>
      za (λK=>gIf (.bool b) true (zb (s150.getD 0 u_) (s154.getD 0 u_) (.bool false) λt=>K [t] w156) (K [u_] w156)) λs159 _ w161=>
       za (λK=>gIf (s159.getD 0 u_) false (A4 K w161) (K [u_] w161)) λs163 _ w165=>
        za (λK=>gIf (s163.getD 0 u_) true (A5 K w165) (K [u_] w165)) λs167 _ w169=>
         za (λK=>gIf (s159.getD 0 u_) false (zb (s163.getD 0 u_) (s167.getD 0 u_) (.bool false) λt=>K [t] w169) (K [u_] w169)) λs172 _ w174=>
          za (λK=>gIf (s172.getD 0 u_) true (A6 K w174) (K [u_] w174)) λs176 _ w178=>
           za (λK=>gIf (s159.getD 0 u_) false (zb (s172.getD 0 u_) (s176.getD 0 u_) (.bool false) λt=>K [t] w178) (K [u_] w178)) λs181 _ w183=>
            za (λK=>gIf (.bool b) true (zb (s159.getD 0 u_) (.bool true) (s181.getD 0 u_) λt=>K [t] w183) (K [u_] w183)) λs185 _ w187=>
             zb (.bool b) (s185.getD 0 u_) (.bool false) λt=>Z t w187:=by
 cases b<;>cases m<;>cases x<;>cases y<;>cases o<;>cases u<;>cases v <;>
  (iterate 11 (intro K hK;first|refine hK _ _ λ_=>?_|(refine h1 _ λw1 e1=>hK _ _ λ_=>?_)|(refine h2 _ _ (by first|assumption|exact Ext.refl _) λw1 e1=>hK _ _ λ_=>?_)|(refine h3 _ _ (by first|assumption|exact Ext.refl _) λw1 e1=>hK _ _ λ_=>?_)|(refine h4 _ _ (by first|assumption|exact Ext.refl _) λw1 e1=>hK _ _ λ_=>?_)|(refine h5 _ _ (by first|assumption|exact Ext.refl _) λw1 e1=>hK _ _ λ_=>?_)|(refine h6 _ _ (by first|assumption|exact Ext.refl _) λw1 e1=>hK _ _ λ_=>?_)|refine ⟨_,rfl,hK _ _ λ_=>?_⟩)) <;>
  exact⟨_,rfl,by simpa using hZ _ (by first|assumption|exact Ext.refl _)⟩
theorem akV{w:World}{b m x:Bool}{A1:(List Value→World→Prop)→Prop}{A2:(List Value→World→Prop)→World→Prop}{Z:Value→World→Prop}
  (h1:∀K:List Value→World→Prop,K [.bool m] w→A1 K) (h2:b=true→∀K:List Value→World→Prop,(∀w',Ext w w'→K [.bool x] w')→A2 K w) (hZ:∀w',Ext w w'→Z (.bool (b&&(m||x))) w'):
  za (λK=>gIf (.bool b) true (A1 K) (K [u_] w)) λs212 _ w214=>
   za (λK=>gIf (s212.getD 0 u_) false (A2 K w214) (K [u_] w214)) λs216 _ w218=>
    za (λK=>gIf (.bool b) true (zb (s212.getD 0 u_) (.bool true) (s216.getD 0 u_) λt=>K [t] w218) (K [u_] w218)) λs221 _ w223=>
     zb (.bool b) (s221.getD 0 u_) (.bool false) λt=>Z t w223:=by
 cases b<;>cases m<;>cases x <;>
  (iterate 3 (intro K hK;first|refine hK _ _ λ_=>?_|refine h1 _ (hK _ _ λ_=>?_)|(refine h2 rfl _ λw1 e1=>hK _ _ λ_=>?_)|refine ⟨_,rfl,hK _ _ λ_=>?_⟩)) <;>
  exact⟨_,rfl,by simpa using hZ _ (by first|assumption|exact Ext.refl _)⟩
end Go.Sh
namespace Go.Proofs
open Go.Sh
set_option maxRecDepth 100000
theorem agj:∀(l:List Int)(m:Int),(m≤3)→(∀x∈l,x≤3)→yL m l≤3
 |[],m,h,_=>h
 |k::l,m,h,hl=>agj l _ (by have:=hl k List.mem_cons_self;omega) λx hx=>hl x (List.mem_cons_of_mem _ hx)
theorem agk{ss:List StD}:∀(l:List Int)(t:TyD){x:TyD×List Int},zD ss l t=some x→∀k∈x.2,k≤3
 |[],t,x,h=>by cases h;intro k hk;cases hk
 |k::l,t,x,h=>by
  rw[zD]at h
  cases hs:zF ss t k with
  |none=>rw [hs]at h;cases h
  |some s=>
   rw[hs]at h
   have h:(zD ss l s.1).map (λx=>(x.1,s.2::x.2))=some x:=h
   cases hw:zD ss l s.1 with
   |none=>rw [hw]at h;cases h
   |some y=>
    rw[hw]at h
    cases h
    intro j hj
    rcases List.mem_cons.1 hj with rfl|hj
    ·unfold zF at hs
     split at hs
     ·cases ho:t.of.head? with
      |none=>rw [ho]at hs;cases hs
      |some u=>rw [ho]at hs;cases hs;show(1:Int)≤3;decide
     split at hs
     ·cases ho:t.of.head? with
      |none=>rw [ho]at hs;cases hs
      |some u=>rw [ho]at hs;cases hs;show(if t.m then(2:Int)else 3)≤3;split<;>decide
     split at hs
     ·cases ho:(ze ss t.st)[k.toNat]? with
      |none=>rw [ho]at hs;cases hs
      |some u=>rw [ho]at hs;cases hs;show(0:Int)≤3;decide
     ·cases hs
    ·exact agk l s.1 hw j hj
theorem ai0{ss:List StD}{tys:List TyD}{p:PlD}(hst:(zz ss).2=0)(hf:xF ss tys)(h:(zm ss tys p).2.2=true):(zm ss tys p).2.1≤3:=by
 have h8:=Jh h
 obtain⟨h0,hl,x,h1,h2⟩:=(VR hst hf).1 h
 rw[VQ hst (by rw[mayB,decide_eq_true hst,Bool.true_and];exact hf.all _ (List.getElem_mem hl)),if_pos h8]at h1
 rw[h2]
 exact agj _ _ (by decide) (agk _ _ h1)
theorem aeX{u:UnD}{g:GrD}{p:PlD}{bx:Nat}{c:List Value}{w:World}{r:Gh}{K:Value→World→Prop}(hr:Holds r w)(hx:AsP r bx u g)(hst:(zz u.ss).2=0)(hf:xF u.ss g.tys)(hp:PlG r c p)
  (h:∀t how q cap vg s w',((zm u.ss g.tys p).2.2=true→zm u.ss g.tys p=(t,yL 0 how,true))→Ext w w'→New w s w'→TyG r (tyV t q cap) t→SlG 1 s xD vg how→how.length≤8→K (.tuple #[tyV t q cap,vg,.bool (zm u.ss g.tys p).2.2]) w'):
  zd Tryz.prog Tryz.yW #[.pointer (some ⟨bx,0,none⟩),.agg c.toArray] w K:=by
 refine Xq hr hx hst hf hp (λw' hno e=>?_) λt how q cap vg s w' hsp e n htt hsl h8=>?_
 ·have:=h zA [] none 0 (.slice none 0 0) nothing w' (λhh=>by rw[hno]at hh;cases hh) e New.nothing yp SlG.nil (Nat.zero_le _)
  rw[hno]at this
  exact this
 ·have:=h t how q cap vg s w' (λ_=>hsp) e n htt hsl h8
  rw[hsp]at this
  exact this
end Go.Proofs
end
section
namespace Go.Proofs
open Go.Sh
variable {p:PtD} {c:List Value} {K:Value→World→Prop} {s:ByteArray}
theorem ajV{h:abu}{L:List UInt8}(e:([84,65,66,76,70,83,78,85,77,69]:List Int).map (qE L)=[h.to,h.a,h.b,h.args,h.fr,h.sign,h.fn,h.st,h.mu,h.el]):jk p L 10=zK p h:=by
 simp only[List.map_cons,List.map_nil,List.cons.injEq,and_true]at e
 obtain⟨e0,e1,e2,e3,e4,e5,e6,e7,e8,e9⟩:=e
 exact ajT e0 e1 e2 e3 e4 e5 e6 e7 e8 e9
theorem xg{f:abu}{has:List UInt8}{w:World}{r:Gh}{K:Value→World→Prop}(e:([84,65,66,76,70,83,78,85,77,69]:List Int).map (qE has)=[f.to,f.a,f.b,f.args,f.fr,f.sign,f.fn,f.st,f.mu,f.el])(hh:has.length≤100)(hr:Holds r w)(hp:PtG r c p)
  (h:∀w',Ext w w'→K (.bool (zK p f)) w'):zd Tryz.prog Tryz.zS #[.agg c.toArray,.string (bs has)] w K:=by
 refine agi hr hp hh λw' e'=>?_
 rw[ajV e]
 exact h _ e'
theorem alR{t1 t2 i x:Bool}:(yk s [[61,61],[33,61],[60],[60,61],[62],[62,61]]&&t2&&(i||((s.toList == [61,61]||s.toList == [33,61])&&x))) =
  (if yk s [[60],[60,61],[62],[62,61]]=true then t2&&i else if yk s [[61,61],[33,61]]=true then t2&&(i||x)else false):=by
 have hx:∀a b:List UInt8,a≠b→(s.toList == a)=true→(s.toList == b)=false:=λa b hab h=>by
  rw[beq_iff_eq]at h
  rw[h]
  exact beq_eq_false_iff_ne.2 hab
 simp only[yk,List.any_cons,List.any_nil,Bool.or_false]
 by_cases h1:(s.toList == [61,61])=true
 ·rw[hx _ [60] (by decide) h1,hx _ [60,61] (by decide) h1,hx _ [62] (by decide) h1,hx _ [62,61] (by decide) h1,h1]
  simp
 by_cases h2:(s.toList == [33,61])=true
 ·rw[hx _ [60] (by decide) h2,hx _ [60,61] (by decide) h2,hx _ [62] (by decide) h2,hx _ [62,61] (by decide) h2,h2]
  simp
 rw[Bool.not_eq_true]at h1 h2
 rw[h1,h2]
 simp only[Bool.false_or,Bool.false_and,Bool.or_false,Bool.false_eq_true,if_false]
 by_cases h3:((s.toList == [60])||((s.toList == [60,61])||((s.toList == [62])||(s.toList == [62,61]))))=true
 ·rw[if_pos h3,h3,Bool.true_and]
 ·rw[if_neg h3]
  rw[Bool.not_eq_true]at h3
  rw[h3];rfl
theorem amz{b t1 a1 t2 a2:Bool}:(b&&(((s.toList == [45]&&t1)&&a1)||((s.toList == [33]&&t2)&&a2)))=(b&&(if yk s [[45]]=true then t1&&a1 else if yk s [[33]]=true then t2&&a2 else false)):=by
 congr 1
 simp only[yk,List.any_cons,List.any_nil,Bool.or_false]
 by_cases h1:(s.toList == [45])=true
 ·have h2:(s.toList == [33])=false:=by
   rw[beq_iff_eq]at h1;rw[h1];rfl
  rw[if_pos h1,h1,h2];simp
 ·rw[if_neg h1]
  rw[Bool.not_eq_true]at h1
  rw[h1]
  by_cases h2:(s.toList == [33])=true
  ·rw[if_pos h2,h2];simp
  ·rw[if_neg h2];rw[Bool.not_eq_true]at h2;rw[h2];simp
theorem aeY{u:UnD}{g:GrD}{p:PtD}{bx:Nat}{c:List Value}{w:World}{r:Gh}{K:Value→World→Prop}(hr:Holds r w)(hx:AsP r bx u g)(hst:(zz u.ss).2=0)(hf:xF u.ss g.tys)
  (hfs:∀f∈u.fs,0≤f.pn∧f.pn<f.tys.length∧xF u.ss f.tys) (hp:PtG r c p)
  (h:∀w',Ext w w'→K (.bool (zL u g p)) w'):zd Tryz.prog Tryz.qB #[.pointer (some ⟨bx,0,none⟩),.agg c.toArray] w K:=by
 refine Tryz.Ji ?_
 unfold Tryz.Za
 have hx0:=hx
 obtain⟨p0,cap0,qf,capf,q1,c1,q2,c2,q3,c3,q4,c4,hB,hu,hg⟩:=hx
 obtain⟨_,_,_,hE,_,_,hss,hsl,hfn⟩:=hu
 cases hE
 have hfl:u.fs.length≤9223372036854775807:=hfn.few
 obtain⟨_,_,_,_,hE,_,_,_,hpts⟩:=hg
 cases hE
 have hpl:g.pts.length≤9223372036854775807:=hpts.few
 obtain⟨z1,z2,z3,z4,z5,d1,d2,d3,d4,d5,rfl,hp0⟩:=qw hp
 obtain⟨_,_,_,_,_,hE,k1,k2,k3,k4,k5⟩:=id hp0
 cases hE
 have hpto:PlG r [.int .i64 p.to.l,.slice z1 p.to.ps.length d1] p.to:=⟨_,rfl,k1⟩
 have hpfr:PlG r [.int .i64 p.fr.l,.slice z5 p.fr.ps.length d5] p.fr:=⟨_,rfl,k5⟩
 have hoa:OpG r [.int .u8 p.a.k,.int .i64 p.a.n,.int .i64 p.a.pl.l,.slice z2 p.a.pl.ps.length d2] p.a:=⟨_,rfl,k2⟩
 have hob:OpG r [.int .u8 p.b.k,.int .i64 p.b.n,.int .i64 p.b.pl.l,.slice z3 p.b.pl.ps.length d3] p.b:=⟨_,rfl,k3⟩
 have S:=St.start hr
 refine S.box λb3 w1 S=>?_
 have S:StX noX w r w1 [.cell b3 (ptL p z1 z2 z3 z4 z5 d1 d2 d3 d4 d5) 96]:=S
 have ld:∀{q:Gh}{w9:World}{L:List Asr}{i:Nat}{v:Value}[Le r q],StX noX w q w9 L→(asL u g p0 cap0 qf capf q1 c1 q2 c2 q3 c3 q4 c4)[i]? = some v→w9.cell? ⟨bx,i,none⟩=some v:=λS hi=>by
  rw[(S.at hB).cell];exact hi
 refine gg_ ?_
 refine zg (ld (i:=9) S rfl) ?_
 refine gg_ ?_
 refine Zw (g:=decide (p.op=14)) (c:=decide (p.nx≠0)) (λ_ K2 hK2=>by refine gg_ ?_;exact hK2) (λ_ K2 hK2=>by refine gg_ ?_;exact hK2) ?_
 refine adK (g:=decide (p.op≠14)) (m:=decide (p.nx<0)) (c:=decide ((g.pts.length:Int)≤p.nx)) (λK2 hK2=>by refine gg_ ?_;exact hK2) (λK2 hK2=>by refine gg_ ?_;exact hK2) (λK2 hK2=>by refine gg_ ?_;exact hK2) ?_
 have hbad:((decide (p.tx<0)||(decide (p.op=14)&&decide (p.nx≠0)))||(decide (p.op≠14)&&(decide (p.nx<0)||decide ((g.pts.length:Int)≤p.nx)))) =
   ((decide (p.tx<0)||(!decide (p.op=14) && !Qm g p.nx))||(decide (p.op=14) && !decide (p.nx=0))):=by
  have e1:(!Qm g p.nx)=(decide (p.nx<0)||decide ((g.pts.length:Int)≤p.nx)):=by
   rw[Qm,Bool.not_and,← decide_not,← decide_not]
   congr 1<;>exact decide_eq_decide.2 (by omega)
  rw[e1,← decide_not,← decide_not]
  show((decide (p.tx<0)||(decide (p.op=14)&&decide (¬p.nx=0)))||(decide (¬p.op=14)&&(decide (p.nx<0)||decide ((g.pts.length:Int)≤p.nx))))=_
  ac_rfl
 rw[hbad]
 refine c_b (λhc=>?_) (λhc=>?_)
 ·have:=h _ S.ext
  rw[zL,hc]at this
  exact this
 rw[zL,hc]at h
 simp only[Bool.not_false,Bool.true_and]at h
 clear hbad hc
 refine gg_ ?_
 refine S.ldN (b:=b3) ?_
 refine aif (p:=p.to) S.holds hx0 hst hf hpto λtt qt ct w2 htt e2 ht2=>?_
 have S:=S.go e2
 refine gS_ ?_
 refine S.al λb6 w3 S=>?_
 refine S.stB (b:=b6) λw4 S=>?_
 refine gg_ ?_
 refine S.ldN (b:=b3) ?_
 refine vU (o:=p.a) S.holds hx0 hst hf hoa λta qa ca w5 hta e5 ht5=>?_
 have S:=S.go e5
 refine gS_ ?_
 refine S.al λb8 w6 S=>?_
 refine S.stB (b:=b8) λw7 S=>?_
 refine gg_ ?_
 refine S.ldN (b:=b3) ?_
 refine vU (o:=p.b) S.holds hx0 hst hf hob λtb qb cb w8 htb e8 ht8=>?_
 have S:=S.go e8
 refine gS_ ?_
 refine S.al λb10 w9 S=>?_
 refine S.stB (b:=b10) λw10 S=>?_
 refine gg_ ?_
 refine S.ldN (b:=b3) ?_
 refine aeX (p:=p.fr) S.holds hx0 hst hf hpfr λtf how qr cr vg s w11 htf e11 n11 ht11 hhow hh8=>?_
 obtain⟨S,dd,ad⟩:=S.tell e11 n11
 obtain⟨vgp,vgc,rfl,_,_⟩:=hhow.shape
 refine gS_ ?_
 refine S.al λb12 w12 S=>?_
 refine S.stB (b:=b12) λw13 S=>?_
 have S:StX noX w (r.or s) w13 [.cell b12 (tyL tf qr cr) 43,.cell b10 (tyL tb qb cb) 43,.cell b8 (tyL ta qa ca) 43,.cell b6 (tyL tt qt ct) 43,.cell b3 (ptL p z1 z2 z3 z4 z5 d1 d2 d3 d4 d5) 96]:=S
 have hpr:PtG (r.or s) (ptL p z1 z2 z3 z4 z5 d1 d2 d3 d4 d5) p:=hp0.up
 have ht2:TyG (r.or s) (tyV tt qt ct) tt:=ht2.up
 have ht5:TyG (r.or s) (tyV ta qa ca) ta:=ht5.up
 have ht8:TyG (r.or s) (tyV tb qb cb) tb:=ht8.up
 have ht11:TyG (r.or s) (tyV tf qr cr) tf:=ht11.up
 have hhow:SlG 1 (r.or s) xD (.slice vgp how.length vgc) how:=hhow.cells
 have hBto:(zm u.ss g.tys p.to).2.2=true→isB (zm u.ss g.tys p.to).1=true:=λho=>(kL hf ho).is hf.few
 have hBa:(zt u.ss g.tys p.a).2=true→isB (zt u.ss g.tys p.a).1=true:=acI hf
 have hBf:(zm u.ss g.tys p.fr).2.2=true→isB (zm u.ss g.tys p.fr).1=true:=λho=>(kL hf ho).is hf.few
 have ali:∀{a b:TyD}{va vb:Value}{w9:World}{L:List Asr}{K9:Value→World→Prop},isB a=true→isB b=true→StX noX w (r.or s) w9 L→TyG (r.or s) va a→TyG (r.or s) vb b→(∀w',Ext w9 w'→K9 (.bool (zJ zZ a b)) w')→zd Tryz.prog Tryz.yR #[va,vb] w9 K9:=λha hb S hva hvb hk=>by
  refine JP 48 ha hb S.holds hva hvb λw' e'=>?_
  have:=hk w' e'
  rw[zJ,ha,hb]at this
  exact this
 refine gg_ ?_
 refine zj (λhop=>?_) (λhop=>?_)
 ·rw[ptG]at h
  simp only[hop,Int.reduceEq,if_false,if_true]at h
  refine S.ldB (b:=b3) ?_ rfl
  refine xg (f:={ to:=true,a:=true }) (by decide) (by decide) S.holds hpr λw14 e14=>?_
  have S:=S.go e14
  refine zh (c:=(zm u.ss g.tys p.to).2.2&&decide ((zm u.ss g.tys p.to).2.1<3)) (λ_ K2 hK2=>hK2) ?_
  refine zh (c:=(zt u.ss g.tys p.a).2) (λ_ K2 hK2=>hK2) ?_
  refine zy (c:=zJ zZ (zt u.ss g.tys p.a).1 (zm u.ss g.tys p.to).1) (λhb K2 hK2=>?_) λw15 e15=>h _ (S.go e15).ext
  simp only[Bool.and_eq_true]at hb
  obtain rfl:=htt hb.1.2.1
  obtain rfl:=hta hb.2
  refine S.ldB (b:=b8) ?_ rfl
  refine S.ldB (b:=b6) ?_ rfl
  exact ali (hBa hb.2) (hBto hb.1.2.1) S ht5 ht2 λw' e'=>hK2 _ e'
 refine gg_ ?_
 refine zj (λhop=>?_) (λhop=>?_)
 ·rw[ptG]at h
  simp only[hop,Int.reduceEq,if_false,if_true]at h
  refine S.ldB (b:=b3) ?_ rfl
  refine xg (f:={ to:=true,a:=true,b:=true,sign:=true }) (by decide) (by decide) S.holds hpr λw14 e14=>?_
  have S:=S.go e14
  refine gg_ ?_
  refine zk (c:=!((zm u.ss g.tys p.to).2.2&&decide ((zm u.ss g.tys p.to).2.1<3))) (λ_ K2 hK2=>by refine gg_ ?_;exact hK2) ?_
  refine zk (c:=!(zt u.ss g.tys p.a).2) (λ_ K2 hK2=>by refine gg_ ?_;exact hK2) ?_
  refine zk (c:=!(zt u.ss g.tys p.b).2) (λ_ K2 hK2=>by refine gg_ ?_;exact hK2) ?_
  refine c_b (λhc=>?_) (λhc=>?_)
  ·rw[bb4 hc,Bool.false_and]at h
   exact h _ S.ext
  rw[alH hc,Bool.true_and]at h
  simp only[Bool.or_eq_false_iff,Bool.not_eq_false',Bool.and_eq_true]at hc
  obtain⟨⟨⟨_,hto,_⟩,ha2⟩,hb2⟩:=hc
  obtain rfl:=htt hto
  obtain rfl:=hta ha2
  obtain rfl:=htb hb2
  refine gg_ ?_
  refine agh ?_
  refine c_b (λhs=>?_) (λhs=>?_)
  ·rw[if_pos hs]at h
   refine S.ldB (b:=b6) ?_ rfl
   refine zY S.holds λw15 e15=>?_
   have S:=S.go e15
   refine zy (c:=isK (zt u.ss g.tys p.a).1 1) (λ_ K2 hK2=>?_) λw16 e16=>?_
   ·refine S.ldB (b:=b8) ?_ rfl
    exact zY S.holds λw' e'=>hK2 _ e'
   have S:=S.go e16
   refine zy (c:=isK (zt u.ss g.tys p.b).1 1) (λ_ K2 hK2=>?_) λw17 e17=>?_
   ·refine S.ldB (b:=b10) ?_ rfl
    exact zY S.holds λw' e'=>hK2 _ e'
   have:=h _ (S.go e17).ext
   rw[← Bool.and_assoc]at this
   exact this
  rw[if_neg (by rw[hs];decide)]at h
  refine S.ldB (b:=b8) ?_ rfl
  refine zY S.holds λw15 e15=>?_
  have S:=S.go e15
  refine zy (c:=isK (zt u.ss g.tys p.b).1 1) (λ_ K2 hK2=>?_) λw16 e16=>?_
  ·refine S.ldB (b:=b10) ?_ rfl
   exact zY S.holds λw' e'=>hK2 _ e'
  have S:=S.go e16
  refine alQ (e:=p.sign.toList == [61,61]) (n:=p.sign.toList == [33,61]) (x:=isK (zt u.ss g.tys p.a).1 2) (y:=isK (zt u.ss g.tys p.b).1 2) (λK2 hK2=>?_) (λK2 w1 e1 hK2=>?_) (λK2 w1 e1 hK2=>?_) (λK2 w1 e1 hK2=>?_) λw17 e17=>?_
  ·refine gg_ ?_
   exact hK2 _ (Ext.refl _)
  ·have S:=S.go e1
   refine gg_ ?_
   exact hK2 _ (by first|exact e1|exact Ext.refl _)
  ·have S:=S.go e1
   refine S.ldB (b:=b8) ?_ rfl
   exact zY S.holds λw' e'=>hK2 _ (e1.trans e')
  ·have S:=S.go e1
   refine S.ldB (b:=b10) ?_ rfl
   exact zY S.holds λw' e'=>hK2 _ (e1.trans e')
  have S:=S.go e17
  refine gg_ ?_
  refine adM ?_
  refine zy (c:=isK (zm u.ss g.tys p.to).1 2) (λ_ K2 hK2=>?_) λw18 e18=>?_
  ·refine S.ldB (b:=b6) ?_ rfl
   exact zY S.holds λw' e'=>hK2 _ e'
  have S:=S.go e18
  refine zh (c:=(isK (zt u.ss g.tys p.a).1 1&&isK (zt u.ss g.tys p.b).1 1)||(((p.sign.toList == [61,61]||p.sign.toList == [33,61])&&isK (zt u.ss g.tys p.a).1 2)&&isK (zt u.ss g.tys p.b).1 2)) (λ_ K2 hK2=>hK2) ?_
  have:=h _ S.ext
  rw[← alR (t1:=true),← Bool.and_assoc ((p.sign.toList == [61,61])||(p.sign.toList == [33,61]))]at this
  exact this
 refine gg_ ?_
 refine zj (λhop=>?_) (λhop=>?_)
 ·rw[ptG]at h
  simp only[hop,Int.reduceEq,if_false,if_true]at h
  refine S.ldB (b:=b3) ?_ rfl
  refine xg (f:={ to:=true,a:=true,sign:=true }) (by decide) (by decide) S.holds hpr λw14 e14=>?_
  have S:=S.go e14
  refine zh (c:=(zm u.ss g.tys p.to).2.2&&decide ((zm u.ss g.tys p.to).2.1<3)) (λ_ K2 hK2=>hK2) ?_
  refine zh (c:=(zt u.ss g.tys p.a).2) (λ_ K2 hK2=>hK2) ?_
  rw[← amz]at h
  cases hb:((zK p { to:=true,a:=true,sign:=true } && ((zm u.ss g.tys p.to).2.2&&decide ((zm u.ss g.tys p.to).2.1<3)))&&(zt u.ss g.tys p.a).2)with
  |false=>
   rw[hb,Bool.false_and]at h
   (intro K9 hK9;refine gd_ ?_;refine hK9 _ _ λ_=>?_;clear hK9 K9)
   (intro K9 hK9;refine gd_ ?_;refine hK9 _ _ λ_=>?_;clear hK9 K9)
   (intro K9 hK9;refine gd_ ?_;refine hK9 _ _ λ_=>?_;clear hK9 K9)
   (intro K9 hK9;refine gd_ ?_;refine hK9 _ _ λ_=>?_;clear hK9 K9)
   (intro K9 hK9;refine gd_ ?_;refine hK9 _ _ λ_=>?_;clear hK9 K9)
   (intro K9 hK9;refine gd_ ?_;refine hK9 _ _ λ_=>?_;clear hK9 K9)
   (intro K9 hK9;refine gd_ ?_;refine hK9 _ _ λ_=>?_;clear hK9 K9)
   (intro K9 hK9;refine gd_ ?_;refine hK9 _ _ λ_=>?_;clear hK9 K9)
   (intro K9 hK9;refine gd_ ?_;refine hK9 _ _ λ_=>?_;clear hK9 K9)
   (intro K9 hK9;refine gd_ ?_;refine hK9 _ _ λ_=>?_;clear hK9 K9)
   (intro K9 hK9;refine gd_ ?_;refine hK9 _ _ λ_=>?_;clear hK9 K9)
   refine gd_ ?_
   exact h _ S.ext
  |true=>
   rw[hb]at h
   simp only[Bool.and_eq_true]at hb
   obtain rfl:=htt hb.1.2.1
   obtain rfl:=hta hb.2
   refine akU (m:=p.sign.toList == [45]) (x:=isK (zm u.ss g.tys p.to).1 1) (y:=isK (zt u.ss g.tys p.a).1 1) (o:=p.sign.toList == [33]) (u:=isK (zm u.ss g.tys p.to).1 2) (v:=isK (zt u.ss g.tys p.a).1 2) (λK2 hK2=>?_) (λK2 w1 e1 hK2=>?_) (λK2 w1 e1 hK2=>?_) (λK2 w1 e1 hK2=>?_) (λK2 w1 e1 hK2=>?_) (λK2 w1 e1 hK2=>?_) λw17 e17=>h _ (S.go e17).ext
   ·refine gg_ ?_
    exact hK2 _ (Ext.refl _)
   ·have S:=S.go e1
    refine S.ldB (b:=b6) ?_ rfl
    exact zY S.holds λw' e'=>hK2 _ (e1.trans e')
   ·have S:=S.go e1
    refine S.ldB (b:=b8) ?_ rfl
    exact zY S.holds λw' e'=>hK2 _ (e1.trans e')
   ·have S:=S.go e1
    refine gg_ ?_
    exact hK2 _ (by first|exact e1|exact Ext.refl _)
   ·have S:=S.go e1
    refine S.ldB (b:=b6) ?_ rfl
    exact zY S.holds λw' e'=>hK2 _ (e1.trans e')
   ·have S:=S.go e1
    refine S.ldB (b:=b8) ?_ rfl
    exact zY S.holds λw' e'=>hK2 _ (e1.trans e')
 have h8:∀k,(ze u.ss k).length≤8:=kA (xj hst).2.1
 have h32:=hf.few
 have inn:∀{t:TyD}{q:Option Addr}{cap:Nat},TyG (r.or s) (tyV t q cap) t→(∃k,t.k=k∧(k=3∨k=4))→Fine u.ss t→∃uu bo oo q2 cap2,t.of=[uu]∧q=some ⟨bo,oo,none⟩∧isB uu=true∧TyG (r.or s) (tyV uu q2 cap2) uu∧∀j v,(tyL uu q2 cap2)[j]? = some v→Ob (r.or s) λw=>w.cell? ⟨bo,oo+j,none⟩=some v:=λht hk hfi=>by
  obtain⟨k,hk1,hk2⟩:=hk
  rcases hfi.cases with⟨_,h1⟩|⟨uu,h1,h2,_⟩
  ·omega
  ·obtain⟨bo,oo,q2,cap2,rfl,ht2,hcc⟩:=vM ht h1
   exact⟨uu,bo,oo,q2,cap2,h1,rfl,h2.is h32,ht2,hcc⟩
 refine gg_ ?_
 refine zj (λhop=>?_) (λhop=>?_)
 ·rw[ptG]at h
  simp only[hop,Int.reduceEq,if_false,if_true]at h
  have S:=S.go (Ext.drew _)
  refine S.ldB (b:=b3) ?_ rfl
  refine xg (f:={ to:=true,fr:=true,mu:=true }) (by decide) (by decide) S.holds hpr λw14 e14=>?_
  have S:=S.go e14
  refine zh (c:=(zm u.ss g.tys p.to).2.2&&decide ((zm u.ss g.tys p.to).2.1<3)) (λ_ K2 hK2=>hK2) ?_
  refine zh (c:=(zm u.ss g.tys p.fr).2.2) (λ_ K2 hK2=>hK2) ?_
  refine zy (c:=isK (zm u.ss g.tys p.to).1 4) (λhb K2 hK2=>?_) λw15 e15=>?_
  ·simp only[Bool.and_eq_true]at hb
   obtain rfl:=htt hb.1.2.1
   refine S.ldB (b:=b6) ?_ rfl
   exact zY S.holds λw' e'=>hK2 _ e'
  have S:=S.go e15
  refine zh (c:=(zm u.ss g.tys p.to).1.m == p.mu) (λhb K2 hK2=>?_) ?_
  ·simp only[Bool.and_eq_true]at hb
   obtain rfl:=htt hb.1.1.2.1
   refine gg_ ?_
   exact hK2
  refine zy (c:=zJ zZ ((zm u.ss g.tys p.to).1.of.headD zA) (zm u.ss g.tys p.fr).1) (λhb K2 hK2=>?_) λw16 e16=>?_
  ·simp only[Bool.and_eq_true]at hb
   have hto:=hb.1.1.1.2.1
   have hfr:=hb.1.1.2
   have hk4:(zm u.ss g.tys p.to).1.k=4:=by have:=hb.1.2;simpa [isK]using this
   obtain rfl:=htt hto
   have hff:=htf hfr
   have htfe:(zm u.ss g.tys p.fr).1=tf:=by rw[hff]
   have hBf:=hBf hfr
   rw[htfe]at hBf hK2
   obtain⟨uu,bo,oo,q2,cap2,hof,rfl,hBu,htu,hcc⟩:=inn ht2 ⟨_,hk4,.inr rfl⟩ (kL hf hto)
   rw[hof]at hK2
   have hl1:(zm u.ss g.tys p.to).1.of.length=1:=by rw[hof];rfl
   refine gg_ ?_
   refine zn (n:=5) (c:=tyL uu q2 cap2) rfl (λj v hj=>by simpa using S.at (hcc j v hj)) ?_
   refine S.ldB (b:=b12) ?_ rfl
   exact ali hBu hBf S htu ht11 λw' e'=>hK2 _ e'
  have S:=S.go e16
  refine akV (m:=!p.mu) (x:=decide (yL 0 how<3)) (λK2 hK2=>by refine gg_ ?_;exact hK2) (λ_ K2 hK2=>?_) λw17 e17=>?_
  ·refine vT S.holds hhow (by omega) λw7 e7=>?_
   refine gp_ ?_
   exact hK2 _ e7
  have:=h _ (S.go e17).ext
  rw[Bool.beq_eq_decide_eq,Bool.and_assoc]
  cases hfr:(zm u.ss g.tys p.fr).2.2 with
  |false=>
   rw[hfr]at this
   simp only[Bool.and_false,Bool.false_and]at this⊢
   exact this
  |true=>
   have hm3:=ai0 hst hf hfr
   have hff:=htf hfr
   have e1:(zm u.ss g.tys p.fr).2.1=yL 0 how:=by rw[hff]
   rw[e1]at hm3
   rw[hfr,e1]at this
   have e2:(!(p.mu&&decide (yL 0 how=3)))=(!p.mu||decide (yL 0 how<3)):=by
    rw[Bool.not_and,← decide_not]
    congr 1
    exact decide_eq_decide.2 (by omega)
   rw[e2]at this
   exact this
 refine gg_ ?_
 refine zj (λhop=>?_) (λhop=>?_)
 ·rw[ptG]at h
  simp only[hop,Int.reduceEq,if_false,if_true]at h
  have S:=S.go (Ext.drew _)
  refine S.ldB (b:=b3) ?_ rfl
  refine xg (f:={ to:=true,a:=true }) (by decide) (by decide) S.holds hpr λw14 e14=>?_
  have S:=S.go e14
  refine zh (c:=(zm u.ss g.tys p.to).2.2&&decide ((zm u.ss g.tys p.to).2.1<3)) (λ_ K2 hK2=>hK2) ?_
  refine zh (c:=(zt u.ss g.tys p.a).2) (λ_ K2 hK2=>hK2) ?_
  refine zy (c:=isK (zm u.ss g.tys p.to).1 3) (λhb K2 hK2=>?_) λw15 e15=>?_
  ·simp only[Bool.and_eq_true]at hb
   obtain rfl:=htt hb.1.2.1
   refine S.ldB (b:=b6) ?_ rfl
   exact zY S.holds λw' e'=>hK2 _ e'
  have S:=S.go e15
  refine zy (c:=zJ zZ ((zm u.ss g.tys p.to).1.of.headD zA) (zt u.ss g.tys p.a).1) (λhb K2 hK2=>?_) λw16 e16=>h _ (S.go e16).ext
  simp only[Bool.and_eq_true]at hb
  have hto:=hb.1.1.2.1
  have ha2:=hb.1.2
  have hk3:(zm u.ss g.tys p.to).1.k=3:=by have:=hb.2;simpa [isK]using this
  obtain rfl:=htt hto
  obtain rfl:=hta ha2
  obtain⟨uu,bo,oo,q2,cap2,hof,rfl,hBu,htu,hcc⟩:=inn ht2 ⟨_,hk3,.inl rfl⟩ (kL hf hto)
  rw[hof]at hK2
  have hl1:(zm u.ss g.tys p.to).1.of.length=1:=by rw[hof];rfl
  refine gg_ ?_
  refine zn (n:=5) (c:=tyL uu q2 cap2) rfl (λj v hj=>by simpa using S.at (hcc j v hj)) ?_
  refine S.ldB (b:=b8) ?_ rfl
  exact ali hBu (hBa ha2) S htu ht5 λw' e'=>hK2 _ e'
 refine gg_ ?_
 refine zj (λhop=>?_) (λhop=>?_)
 ·rw[ptG]at h
  simp only[hop,Int.reduceEq,if_false,if_true]at h
  refine S.ldB (b:=b3) ?_ rfl
  refine xg (f:={ to:=true,args:=true,st:=true }) (by decide) (by decide) S.holds hpr λw14 e14=>?_
  have S:=S.go e14
  refine gg_ ?_
  refine zk (c:=!((zm u.ss g.tys p.to).2.2&&decide ((zm u.ss g.tys p.to).2.1<3))) (λ_ K2 hK2=>by refine gg_ ?_;exact hK2) ?_
  refine yO (c:=!isK (zm u.ss g.tys p.to).1 5) (λhb K2 hK2=>?_) λw15 e15=>?_
  ·simp only[Bool.or_eq_false_iff,Bool.not_eq_false',Bool.and_eq_true]at hb
   obtain rfl:=htt hb.2.1
   refine S.ldB (b:=b6) ?_ rfl
   refine zY S.holds λw' e'=>?_
   refine gp_ ?_
   exact hK2 _ e'
  have S:=S.go e15
  refine zk (c:=decide ((zm u.ss g.tys p.to).1.st≠p.st)) (λhb K2 hK2=>?_) ?_
  ·simp only[Bool.or_eq_false_iff,Bool.not_eq_false',Bool.and_eq_true]at hb
   obtain rfl:=htt hb.1.2.1
   refine gg_ ?_
   exact hK2
  refine c_b (λhc=>?_) (λhc=>?_)
  ·rw[bb3 hc,Bool.false_and]at h
   exact h _ S.ext
  rw[alI hc,Bool.true_and]at h
  simp only[Bool.or_eq_false_iff,Bool.not_eq_false',Bool.and_eq_true,decide_eq_false_iff_not]at hc
  obtain⟨⟨⟨_,hto,_⟩,hk5⟩,hste⟩:=hc
  obtain rfl:=htt hto
  have S:=S.go (Ext.drew _)
  refine gg_ ?_
  refine zg (ld (i:=0) S rfl) ?_
  refine S.ldB (b:=b6) ?_ rfl
  refine adu S.holds hss.up (by omega) (λk=>by have:=h8 k;omega) ht2 λqx cx sn w16 e16 n16 hts=>?_
  obtain⟨S,_,_⟩:=S.tell e16 n16
  refine gS_ ?_
  refine gg_ ?_
  have hfb:∀t∈(yB u.ss (zm u.ss g.tys p.to).1).1,isB t=true:=λt ht=>by
   rw[yB]at ht
   split at ht
   ·exact Fine.is (ss:=u.ss) (hf.good _ t ht) h32
   ·cases ht
  have hfl8:(yB u.ss (zm u.ss g.tys p.to).1).1.length≤8:=by
   rw[yB]
   split
   ·exact h8 _
   ·simp
  refine VS (l:=p.args) S.holds hx0.up hst hf (k4.sl.up' inferInstance λc x hx=>OpG.up hx) k4.few (TysG.up hts) (by simp only[maxLen];omega) hfb λw17 e17=>?_
  exact h _ (S.go e17).ext
 refine gg_ ?_
 refine zj (λhop=>?_) (λhop=>?_)
 ·rw[ptG]at h
  simp only[hop,Int.reduceEq,if_false,if_true]at h
  have S:=S.go (Ext.drew _)
  refine S.ldB (b:=b3) ?_ rfl
  refine xg (f:={ to:=true,args:=true,fn:=true }) (by decide) (by decide) S.holds hpr λw14 e14=>?_
  have S:=S.go e14
  refine gg_ ?_
  refine zk (c:=!((zm u.ss g.tys p.to).2.2&&decide ((zm u.ss g.tys p.to).2.1<3))) (λ_ K2 hK2=>by refine gg_ ?_;exact hK2) ?_
  refine zk (c:=decide (p.fn<0)) (λ_ K2 hK2=>by refine gg_ ?_;exact hK2) ?_
  refine zk (c:=decide ((u.fs.length:Int)≤p.fn)) (λ_ K2 hK2=>?_) ?_
  ·refine gg_ ?_
   refine zg (ld (i:=1) S rfl) ?_
   refine gg_ ?_
   exact hK2
  refine c_b (λhc=>?_) (λhc=>?_)
  ·rw[bb5 hc,Bool.false_and]at h
   exact h _ S.ext
  rw[alJ hc,Bool.true_and]at h
  simp only[Bool.or_eq_false_iff,Bool.not_eq_false',Bool.and_eq_true,decide_eq_false_iff_not]at hc
  obtain⟨⟨⟨_,hto,_⟩,hfn0⟩,hfn1⟩:=hc
  obtain rfl:=htt hto
  have hltf:p.fn.toNat<u.fs.length:=by omega
  rw[gqg hltf]at h
  dsimp only at h
  obtain⟨hpn0,hpn1,hff⟩:=hfs _ (List.getElem_mem hltf)
  obtain⟨bf,of,cf,rfl,hcf,hgc,hfo⟩:=hfn.sl.get (by decide) hltf
  generalize u.fs[p.fn.toNat]=f at h hpn0 hpn1 hff hgc
  obtain⟨vo,vt,vn,vp,rfl,m1,m2,m3,m4⟩:=hgc
  obtain⟨qo,capo,rfl,_,_⟩:=m1.sl.shape
  obtain⟨qt2,capt2,rfl,_,hct2⟩:=m2.sl.shape
  obtain⟨qn,capn,rfl,_,_⟩:=m3.sl.shape
  obtain⟨qp,capp,rfl,_,_⟩:=m4.sl.shape
  have hml:=m2.few
  have hml':f.tys.length≤9223372036854775807:=hml
  have S:=S.go (Ext.drew _)
  refine gg_ ?_
  refine zg (ld (i:=1) S rfl) ?_
  refine gg_ ?_
  refine zn (n:=7) hcf (λj v hj=>S.at (hfo j v hj)) ?_
  refine S.alU λb18 w15 S=>?_
  refine S.stB (b:=b18) λw16 S=>?_
  have S:=S.go (Ext.drew _)
  refine gg_ ?_
  have hlen:(f.pn+1).toNat-(1:Int).toNat=((f.tys.drop 1).take f.pn.toNat).length:=by rw[List.length_take,List.length_drop];omega
  rw[hlen]
  have hsub:=(kD m2.sl).sub (a:=(1:Int).toNat) (n:=f.pn.toNat) (cap:=capt2) hct2
  have hlst:(f.tys.drop (1:Int).toNat).take f.pn.toNat=(f.tys.drop 1).take f.pn.toNat:=rfl
  rw[hlst]at hsub
  generalize (if capt2=(1:Int).toNat then qt2 else qt2.map (·.add ((1:Int).toNat*5)))=qs2 at hsub⊢
  have hpb:∀t∈(f.tys.drop 1).take f.pn.toNat,isB t=true:=λt ht=>(hff.all t (List.mem_of_mem_drop (List.mem_of_mem_take ht))).is h32
  refine VS (l:=p.args) S.holds hx0.up hst hf (k4.sl.up' inferInstance λc x hx=>OpG.up hx) k4.few (TysG.up hsub) (by rw[List.length_take,List.length_drop];omega) hpb λw17 e17=>?_
  have S:=S.go e17
  have hpos:0<f.tys.length:=by omega
  have hhd:f.tys.headD zA=f.tys[0]:=by rw[List.headD_eq_head?_getD,List.head?_eq_getElem?,gqg hpos,Option.getD_some]
  rw[hhd]at h
  refine zy (c:=zJ zZ (zm u.ss g.tys p.to).1 f.tys[0]) (λ_ K2 hK2=>?_) λw18 e18=>?_
  ·obtain⟨bt,ot,ct3,rfl,hct3,htc,hto3⟩:=kD m2.sl 0 hpos
   obtain⟨q9,cap9,rfl,ht9⟩:=ye hto3
   refine S.ldB (b:=b6) ?_ rfl
   refine gg_ ?_
   refine zn (n:=5) hct3 (λj v hj=>by simpa using S.at (htc j v hj)) ?_
   exact ali (hBto hto) ((hff.all _ (List.getElem_mem hpos)).is h32) S ht2 ht9.up λw' e'=>hK2 _ e'
  have:=h _ (S.go e18).ext
  rw[Bool.and_comm]at this
  exact this
 refine gg_ ?_
 refine zj (λhop=>?_) (λhop=>?_)
 ·rw[ptG]at h
  simp only[hop,Int.reduceEq,if_false,if_true]at h
  refine S.ldB (b:=b3) ?_ rfl
  refine xg (f:={ to:=true }) (by decide) (by decide) S.holds hpr λw14 e14=>?_
  have S:=S.go e14
  refine zh (c:=(zm u.ss g.tys p.to).2.2&&decide ((zm u.ss g.tys p.to).2.1<3)) (λ_ K2 hK2=>hK2) ?_
  refine zy (c:=isK (zm u.ss g.tys p.to).1 1) (λhb K2 hK2=>?_) λw15 e15=>h _ (S.go e15).ext
  simp only[Bool.and_eq_true]at hb
  obtain rfl:=htt hb.2.1
  refine S.ldB (b:=b6) ?_ rfl
  exact zY S.holds λw' e'=>hK2 _ e'
 refine gg_ ?_
 refine zj (λhop=>?_) (λhop=>?_)
 ·rw[ptG]at h
  simp only[hop,Int.reduceEq,if_false,if_true]at h
  refine S.ldB (b:=b3) ?_ rfl
  refine xg (f:={ a:=true }) (by decide) (by decide) S.holds hpr λw14 e14=>?_
  have S:=S.go e14
  refine zh (c:=(zt u.ss g.tys p.a).2) (λ_ K2 hK2=>hK2) ?_
  refine zy (c:=isK (zt u.ss g.tys p.a).1 1) (λhb K2 hK2=>?_) λw15 e15=>h _ (S.go e15).ext
  simp only[Bool.and_eq_true]at hb
  obtain rfl:=hta hb.2
  refine S.ldB (b:=b8) ?_ rfl
  exact zY S.holds λw' e'=>hK2 _ e'
 refine gg_ ?_
 refine zj (λhop=>?_) (λhop=>?_)
 ·rw[ptG]at h
  simp only[hop,Int.reduceEq,if_false,if_true]at h
  have S:=S.go (Ext.drew _)
  refine gg_ ?_
  refine zg (ld (i:=0) S rfl) ?_
  refine S.ldB (b:=b12) ?_ rfl
  refine aeI S.holds hss.up (by omega) (λk=>by have:=h8 k;omega) ht11 λw14 e14=>?_
  have S:=S.go e14
  refine gS_ ?_
  refine S.ldB (b:=b3) ?_ rfl
  refine xg (f:={ fr:=true }) (by decide) (by decide) S.holds hpr λw15 e15=>?_
  have S:=S.go e15
  refine zh (c:=(zm u.ss g.tys p.fr).2.2) (λ_ K2 hK2=>hK2) ?_
  refine zh (c:=(qg u.ss tf).1) (λ_ K2 hK2=>hK2) ?_
  refine zy (c:=decide (yL 0 how<2)) (λ_ K2 hK2=>?_) λw16 e16=>?_
  ·refine vT S.holds hhow (by omega) λw7 e7=>?_
   refine gp_ ?_
   exact hK2 _ e7
  have:=h _ (S.go e16).ext
  cases hfr:(zm u.ss g.tys p.fr).2.2 with
  |false=>
   rw[hfr]at this
   simp only[Bool.and_false,Bool.false_and]at this⊢
   exact this
  |true=>
   rw[htf hfr]at this
   exact this
 refine gg_ ?_
 refine zj (λhop=>?_) (λhop=>?_)
 ·rw[ptG]at h
  simp only[hop,Int.reduceEq,if_false,if_true]at h
  refine S.ldB (b:=b3) ?_ rfl
  refine xg (f:={ fr:=true }) (by decide) (by decide) S.holds hpr λw14 e14=>?_
  have S:=S.go e14
  refine zh (c:=(zm u.ss g.tys p.fr).2.2) (λ_ K2 hK2=>hK2) ?_
  refine zh (c:=decide (0<p.fr.l)) (λ_ K2 hK2=>by refine gg_ ?_;exact hK2) ?_
  refine zh (c:=decide (p.fr.ps.length=0)) (λ_ K2 hK2=>?_) (h _ S.ext)
  refine gg_ ?_
  rw[decide_eq_decide.2 (kT p.fr.ps.length)]
  exact hK2
 refine gg_ ?_
 refine zj (λhop=>?_) (λhop=>?_)
 ·rw[ptG]at h
  simp only[hop,Int.reduceEq,if_false,if_true]at h
  refine S.ldB (b:=b3) ?_ rfl
  refine xg (f:={ a:=true,el:=true }) (by decide) (by decide) S.holds hpr λw14 e14=>?_
  have S:=S.go e14
  refine zh (c:=(zt u.ss g.tys p.a).2) (λ_ K2 hK2=>hK2) ?_
  refine zy (c:=isK (zt u.ss g.tys p.a).1 2) (λhb K2 hK2=>?_) λw15 e15=>?_
  ·simp only[Bool.and_eq_true]at hb
   obtain rfl:=hta hb.2
   refine S.ldB (b:=b8) ?_ rfl
   exact zY S.holds λw' e'=>hK2 _ e'
  have S:=S.go e15
  refine zh (c:=decide (0≤p.el)) (λ_ K2 hK2=>by refine gg_ ?_;exact hK2) ?_
  refine zh (c:=decide (p.el<(g.pts.length:Int))) (λ_ K2 hK2=>by refine gg_ ?_;exact hK2) ?_
  have:=h _ S.ext
  rw[Qm,← Bool.and_assoc]at this
  exact this
 intro K11 hK11
 refine gg_ ?_
 refine kP (c:=decide (p.op=14)) (hK11 _ _ λ_=>?_) λ_ hk=>?_
 rotate_left
 ·refine gg_ ?_;exact hk
 simp only[gdz]
 rw[ptG]at h
 rw[if_neg (by omega),if_neg (by omega),if_neg (by omega),if_neg (by omega),if_neg (by omega),if_neg (by omega),if_neg (by omega),if_neg (by omega),if_neg (by omega),if_neg (by omega),if_neg (by omega),if_neg (by omega)]at h
 refine c_b (λhh=>?_) (λhh=>?_)
 ·have hh:p.op=13∨p.op=14:=by simpa using hh
  rw[if_pos hh]at h
  refine S.ldB (b:=b3) ?_ rfl
  refine xg (f:={}) (by decide) (by decide) S.holds hpr λw14 e14=>?_
  exact h _ (S.go e14).ext
 ·have hh:¬(p.op=13∨p.op=14):=by simpa using hh
  rw[if_neg hh]at h
  exact h _ S.ext
end Go.Proofs
end
section
namespace Go.Sh
theorem ajW{w:World}{b x y z:Bool}{A1:(List Value→World→Prop)→Prop}{A2 A3:(List Value→World→Prop)→World→Prop}{Z:Value→World→Prop}
  (h1:b=true→∀K:List Value→World→Prop,K [.bool x] w→A1 K) (h2:b=true→∀K:List Value→World→Prop,K [.bool y] w→A2 K w) (h3:b=true→∀K:List Value→World→Prop,K [.bool z] w→A3 K w)
  (hZ:Z (.bool (b&&(x||(y&&z)))) w):
  za (λK=>gIf (.bool b) true (A1 K) (K [u_] w)) λs80 _ w82=>
   za (λK=>gIf (s80.getD 0 u_) false (A2 K w82) (K [u_] w82)) λs84 _ w86=>
    za (λK=>gIf (s84.getD 0 u_) true (A3 K w86) (K [u_] w86)) λs88 _ w90=>
     za (λK=>gIf (s80.getD 0 u_) false (zb (s84.getD 0 u_) (s88.getD 0 u_) (.bool false) λt=>K [t] w90) (K [u_] w90)) λs92 _ w94=>
      za (λK=>gIf (.bool b) true (zb (s80.getD 0 u_) (.bool true) (s92.getD 0 u_) λt=>K [t] w94) (K [u_] w94)) λs96 _ w98=>
       zb (.bool b) (s96.getD 0 u_) (.bool false) λt=>Z t w98:=by
 cases b<;>cases x<;>cases y<;>cases z <;>
  (iterate 5 (intro K hK;first|refine hK _ _ λ_=>?_|refine h1 rfl _ (hK _ _ λ_=>?_)|refine h2 rfl _ (hK _ _ λ_=>?_)|refine h3 rfl _ (hK _ _ λ_=>?_)|refine ⟨_,rfl,hK _ _ λ_=>?_⟩)) <;>
  exact⟨_,rfl,by simpa using hZ⟩
theorem alS{w:World}{b c d e:Bool}{A1:(List Value→World→Prop)→Prop}{A2 A3:(List Value→World→Prop)→World→Prop}{Z:Value→World→Prop}
  (h1:∀K:List Value→World→Prop,K [.bool c] w→A1 K) (h2:∀K:List Value→World→Prop,K [.bool d] w→A2 K w) (h3:∀K:List Value→World→Prop,K [.bool e] w→A3 K w)
  (hZ:Z (.bool (b||((c&&d)&&e))) w):
  za (λK=>gIf (.bool b) false (A1 K) (K [u_] w)) λs153 _ w155=>
   za (λK=>gIf (s153.getD 0 u_) true (A2 K w155) (K [u_] w155)) λs157 _ w159=>
    za (λK=>gIf (.bool b) false (zb (s153.getD 0 u_) (s157.getD 0 u_) (.bool false) λt=>K [t] w159) (K [u_] w159)) λs161 _ w163=>
     za (λK=>gIf (s161.getD 0 u_) true (A3 K w163) (K [u_] w163)) λs165 _ w167=>
      za (λK=>gIf (.bool b) false (zb (s161.getD 0 u_) (s165.getD 0 u_) (.bool false) λt=>K [t] w167) (K [u_] w167)) λs169 _ w171=>
       zb (.bool b) (.bool true) (s169.getD 0 u_) λt=>Z t w171:=by
 cases b<;>cases c<;>cases d<;>cases e <;>
  (iterate 5 (intro K hK;first|refine hK _ _ λ_=>?_|refine h1 _ (hK _ _ λ_=>?_)|refine h2 _ (hK _ _ λ_=>?_)|refine h3 _ (hK _ _ λ_=>?_)|refine ⟨_,rfl,hK _ _ λ_=>?_⟩)) <;>
  exact⟨_,rfl,by simpa using hZ⟩
end Go.Sh
namespace Go.Proofs
open Go.Sh
set_option maxRecDepth 100000
theorem agl{bt:Nat}{M:List Asr}{w0:World}{r:Gh}{t:TyD}{v:Value}{f:Nat→Nat→Bool}{w:World}{K:Value→World→Prop}(hv:TyG r v t)(hx:∀x∈regsT t,0≤x∧x<8)
  (S:StX noX w0 r w (.cell bt (zQ f) 296::M))
  (h:∀w',StX noX w0 r w' (.cell bt (zQ (Jc f (regsT t))) 296::M)→K (.tuple #[]) w'):zd Tryz.prog Tryz.YZ #[v,.pointer (some ⟨bt,0,none⟩)] w K:=by
 refine Tryz.aeR ?_
 unfold Tryz.VK
 have hv0:=hv
 obtain⟨p1,cap1,rfl,_⟩:=hv
 refine S.box λb2 w1 S=>?_
 have S:StX noX w0 r w1 (.cell b2 (tyL t p1 cap1) 43::.cell bt (zQ f) 296::M):=S
 refine S.ldB (b:=b2) ?_ rfl
 refine XS S.holds hv0 λv7 w7 e7 o7=>?_
 obtain⟨s1,p7,cap7,n7,nb7,rfl,_,hc7,hs7⟩:=afG o7
 have S:=(S.new e7 n7).tl
 have hr48:(regsT t).length≤1000:=by
  rw[regsT];split
  ·have:=kK (by assumption);omega
  ·simp
 generalize regsT t=l at hx h hs7 hr48⊢
 refine zi (ι:=Nat×(Nat→Nat→Bool)) (λi=>[.int .i64 (i.1:Nat)]) (λi w'=>i.1≤l.length∧(∀x y:Nat,Jc i.2 (l.drop i.1) x y=Jc f l x y)∧StX noX w0 (r.or s1) w' (.cell bt (zQ i.2) 296::M)) (λi=>l.length-i.1) (0,f) rfl ⟨Nat.zero_le _,λx y=>rfl,S⟩ ?_
 clear S
 rintro⟨i,g⟩ d w2 ⟨hi,hbit,S⟩ K3 hK3
 simp only at hi hbit S⊢
 rw[gdz]
 refine gg_ ?_
 refine zj (λhlt=>?_) (λhge=>?_)
 rotate_left
 ·have hie:i=l.length:=by omega
  refine h _ ?_
  have e:zQ g=zQ (Jc f l):=yI λx y _ _=>by
   have:=hbit x y
   rw[hie,List.drop_length]at this
   rw[← this]
   show g x y=(g x y||kW x y [])
   rw[kW,Bool.or_false]
  rw[← e]
  exact S.to r
 have hlt:i<l.length:=by omega
 have hdrop:l.drop i=l[i]::l.drop (i+1):=List.drop_eq_getElem_cons hlt
 obtain⟨ha0,ha8⟩:=hx _ (List.getElem_mem hlt)
 obtain⟨bq,oq,rfl,hxi⟩:=ah9 hs7 (S.holds.le (h:=inferInstance)) hlt
 generalize hai:l[i]=a at hdrop ha0 ha8 hxi
 have hrl:(l.drop (i+1)).length=l.length-(i+1):=List.length_drop
 refine gg_ ?_
 refine zi (ι:=Nat) (λj=>[.int .i64 ((i:Int)+1+(j:Nat))]) (λj w'=>j≤(l.drop (i+1)).length∧StX noX w0 (r.or s1) w' (.cell bt (zQ (Yg g a ((l.drop (i+1)).take j))) 296::M)) (λj=>(l.drop (i+1)).length-j) 0 (by simp) ⟨Nat.zero_le _,by
  rw[yI (f:=Yg g a ((l.drop (i+1)).take 0)) (g:=g) (λx y _ _=>by simp[Yg])]
  exact S⟩ ?_
 clear S
 rintro j d w3 ⟨hj,S⟩ K7 hK7
 rw[gdz]
 refine gg_ ?_
 refine zj (λhlt2=>?_) (λhge2=>?_)
 ·have hlt2:j<(l.drop (i+1)).length:=by omega
  have hlt3:i+1+j<l.length:=by omega
  have hel:(l.drop (i+1))[j]=l[i+1+j]:=List.getElem_drop
  obtain⟨bk,ok,hbe,hxk⟩:=ah9 hs7 (S.holds.le (h:=inferInstance)) hlt3
  cases hbe
  obtain⟨hi0,hi8⟩:=hx _ (List.getElem_mem hlt3)
  have S:=S.go (Ext.drew _)
  rw[show ((i:Int)+1+(j:Nat))=((i+1+j:Nat):Int)by omega]
  refine gg_ ?_
  refine zg (by rw[tnc];exact S.at hxk) ?_
  refine gg_ ?_
  refine zg (by simpa using S.at hxi) ?_
  refine gg_ ?_
  refine S.st (b:=bt) (λw4 S=>?_) (by rw[jR];omega)
  refine gg_ ?_
  rw[show (((i+1+j:Nat):Int)+1)=((i:Int)+1+((j+1:Nat):Int))by omega]
  refine hK7 (j+1) _ ⟨hlt2,?_⟩ (by omega)
  rw[show 0+l[i+1+j].toNat*8+a.toNat*1=l[i+1+j].toNat*8+a.toNat by omega,Ja (by omega) (by omega)]at S
  rw[yI (f:=Yg g a ((l.drop (i+1)).take (j+1))) (g:=λx y=>Yg g a ((l.drop (i+1)).take j) x y||(decide (x=l[i+1+j].toNat)&&decide (y=a.toNat))) (λx y _ _=>by
   show(g x y||(decide (a=(y:Int))&&((l.drop (i+1)).take (j+1)).contains (x:Int)))=((g x y||(decide (a=(y:Int))&&((l.drop (i+1)).take j).contains (x:Int)))||(decide (x=l[i+1+j].toNat)&&decide (y=a.toNat)))
   rw[af0 hlt2,hel,show decide ((x:Int)=l[i+1+j])=decide (x=l[i+1+j].toNat)from decide_eq_decide.2 (by omega),show decide (a=(y:Int))=decide (y=a.toNat)from decide_eq_decide.2 (by omega)]
   cases g x y<;>cases decide (y=a.toNat)<;>cases ((l.drop (i+1)).take j).contains (x:Int)<;>cases decide (x=l[i+1+j].toNat)<;>rfl)]
  exact S
 ·have hje:j=(l.drop (i+1)).length:=by omega
  rw[hje,List.take_length]at S
  refine gg_ ?_
  rw[show ((i:Int)+1)=((i+1:Nat):Int)by omega]
  refine hK3 (i+1,Yg g a (l.drop (i+1))) _ ⟨hlt,λx y=>?_,S⟩ (by simp only;omega)
  rw[← hbit x y,hdrop]
  show((g x y||(decide (a=(y:Int))&&(l.drop (i+1)).contains (x:Int)))||kW x y (l.drop (i+1)))=(g x y||kW x y (a::l.drop (i+1)))
  rw[aeh,Bool.or_assoc]
end Go.Proofs
end
section
namespace Go.Proofs
open Go.Sh
variable {u:UnD} {v:Value} {w:World} {r:Gh} {K:Value→World→Prop}
theorem agm{i:Nat}{K:Value→World→Prop}(hi:i<u.fs.length)(hok:(zz u.ss).2=0)(hr:Holds r w)(hu:UnG r v u)
  (h:∀w',Ext w w'→K (.bool (y6 u i u.fs[i])) w'):zd Tryz.prog Tryz.YY #[v,.int .i64 (i:Nat)] w K:=by
 obtain⟨p0,cap0,vf,rfl,_,_,hst,hsl,hfn⟩:=hu
 obtain⟨qf,capf,rfl,_,_⟩:=hfn.sl.shape
 obtain⟨bf,of,cf,rfl,hcf,hgc,hfo⟩:=hfn.sl.get (by decide) hi
 have hfl:u.fs.length≤9223372036854775807:=hfn.few
 refine Tryz.aeQ ?_
 unfold Tryz.VJ
 generalize hgi:u.fs[i]=g at h hgc
 obtain⟨vo,vt,vn,vp,rfl,h1,h2,h3,h4⟩:=id hgc
 obtain⟨qo,capo,rfl,_,_⟩:=h1.sl.shape
 obtain⟨qt,capt,rfl,_,hct⟩:=h2.sl.shape
 obtain⟨qn,capn,rfl,_,_⟩:=h3.sl.shape
 obtain⟨qp,capp,rfl,_,_⟩:=h4.sl.shape
 have hptl:g.pts.length≤9223372036854775807:=h4.few
 have htl:g.tys.length≤9223372036854775807:=h2.few
 have hol:g.outs.length≤9223372036854775807:=h1.few
 have S:=St.start hr
 refine S.box λb2 w1 S=>?_
 have S:StX noX w r w1 [.cell b2 [.slice p0 u.ss.length cap0,.slice (some ⟨bf,of,none⟩) u.fs.length capf,.int .i64 u.mn] 25]:=S
 refine gg_ ?_
 refine zn (n:=7) hcf (λj v hj=>by rw[tnc];exact S.at (hfo j v hj)) ?_
 refine S.al λb5 w2 S=>?_
 refine S.stB (b:=b5) λw3 S=>?_
 have S:StX noX w r w3 [.cell b5 [.string g.name,.int .i64 g.lv,.slice qo g.outs.length capo,.int .i64 g.pn,.slice qt g.tys.length capt,.slice qn g.nms.length capn,.slice qp g.pts.length capp] 101,
  .cell b2 [.slice p0 u.ss.length cap0,.slice (some ⟨bf,of,none⟩) u.fs.length capf,.int .i64 u.mn] 25]:=S
 refine gg_ ?_
 have no:(HeadU u i g→False)→y6 u i g=false:=λhh=>by
  cases e:y6 u i g
  ·rfl
  ·exact(hh (acs e)).elim
 refine zk (c:=decide (8<g.lv)) (λ_ K2 hK2=>by refine gg_ ?_;exact hK2) ?_
 refine zk (c:=decide (g.pn<0)) (λ_ K2 hK2=>by refine gg_ ?_;exact hK2) ?_
 refine zk (c:=decide (8<g.pn)) (λ_ K2 hK2=>by refine gg_ ?_;exact hK2) ?_
 refine zk (c:=decide ((g.tys.length:Int)≤g.pn)) (λ_ K2 hK2=>by refine gg_ ?_;exact hK2) ?_
 refine zk (c:=decide (512<g.tys.length)) (λ_ K2 hK2=>?_) ?_
 ·refine gg_ ?_
  rw[show decide ((512:Int)<(g.tys.length:Int))=decide (512<g.tys.length)from decide_eq_decide.2 (by omega)]
  exact hK2
 refine zk (c:=decide (g.nms.length≠g.tys.length)) (λ_ K2 hK2=>?_) ?_
 ·refine gg_ ?_
  rw[acu]
  exact hK2
 refine c_b (λhbad=>?_) (λhgood=>?_)
 ·rw[no λH=>by
   have:=H.lv0;have:=H.lv8;have:=H.pn0;have:=H.pn8;have:=H.pn1;have:=H.ty512;have:=H.nms
   simp only[Bool.or_eq_true,decide_eq_true_eq]at hbad;omega]at h
  exact h _ S.ext
 have hnum:(0≤g.lv∧g.lv≤8∧0≤g.pn∧g.pn≤8)∧g.pn<g.tys.length∧g.tys.length≤512∧g.nms.length=g.tys.length:=by
  simp only[Bool.or_eq_false_iff,decide_eq_false_iff_not]at hgood;omega
 clear hgood
 obtain⟨⟨hlv0,hlv8,hpn0,hpn8⟩,hpn1,hty,hnm⟩:=hnum
 refine zi (ι:=Nat) (λi=>[.int .i64 (i:Nat)]) (λj w'=>j≤g.tys.length∧qV u g j (g.tys.drop j)=qV u g 0 g.tys∧StX noX w r w' [.cell b5 [.string g.name,.int .i64 g.lv,.slice qo g.outs.length capo,.int .i64 g.pn,.slice qt g.tys.length capt,.slice qn g.nms.length capn,.slice qp g.pts.length capp] 101,
  .cell b2 [.slice p0 u.ss.length cap0,.slice (some ⟨bf,of,none⟩) u.fs.length capf,.int .i64 u.mn] 25]) (λi=>g.tys.length-i) 0 rfl ⟨Nat.zero_le _,rfl,S⟩ ?_
 clear S
 rintro j d w5 ⟨hj,hd,S⟩ K6 hK6
 rw[gdz]
 refine gg_ ?_
 refine zj (λhlt=>?_) (λhge=>?_)
 ·have hlt:j<g.tys.length:=by omega
  obtain⟨bt,ot,ct,rfl,hct,htc,hcell⟩:=h2.sl.get (by decide) hlt
  obtain⟨q2,cap2,rfl,ht2⟩:=ye htc
  rw[aem hlt]at hd
  have S:=S.go (Ext.drew _)
  refine gg_ ?_
  refine zn (n:=5) hct (λj v hj=>by rw[tnc];exact S.at (hcell j v hj)) ?_
  refine gg_ ?_
  refine vR 48 (by decide) S.holds ht2 λw8 e8=>?_
  have S:=S.go e8
  rw[agf]
  refine gp_ ?_
  have hmay:mayB u.ss g.tys[j]=zr u.ss.length 48 g.tys[j]:=by rw[mayB,decide_eq_true hok,Bool.true_and]
  rw[← hmay]
  refine c_b (λhm=>?_) (λhm=>?_)
  ·have hm:mayB u.ss g.tys[j]=false:=by simpa using hm
   rw[no λH=>by
    have:=H.tys
    rw[← hd,tyG,hm,Bool.false_and,Bool.false_and]at this;cases this]at h
   exact h _ S.ext
  have hm:mayB u.ss g.tys[j]=true:=by simpa using hm
  refine gg_ ?_
  refine zn (n:=5) hct (λj v hj=>by rw[tnc];exact S.at (hcell j v hj)) ?_
  refine XS S.holds ht2 λv7 w12 e12 o12=>?_
  obtain⟨s7,p7,cap7,n7,nb7,rfl,_,_,hs7⟩:=afG o12
  have S:=S.new e12 n7
  have hlow:∀x∈regsT g.tys[j],-1≤x:=λx hx=>by
   rw[regsT]at hx
   split at hx
   ·exact ajF 48 (vL hm).2 x hx
   ·cases hx
  have hr48:(regsT g.tys[j]).length≤1000:=by
   rw[regsT];split
   ·have:=kK (by assumption);omega
   ·simp
  have hty2:tyG u g j g.tys[j] = !((regsT g.tys[j]).any λx=>decide (g.lv≤x)||(decide ((j:Int)≤g.pn)&&decide (x<0))):=by
   rw[ahv,hm,Bool.true_and]
   congr 1
   rw[Bool.eq_iff_iff,List.any_eq_true,List.any_eq_true]
   constructor<;>rintro ⟨x,hx,hc⟩<;>refine ⟨x,hx,?_⟩<;>have:=hlow x hx<;>simp only[Bool.or_eq_true,Bool.and_eq_true,decide_eq_true_eq]at hc⊢
   ·rcases hc with hc|hc
    ·split at hc
     ·exact .inr ⟨by assumption,hc⟩
     ·omega
    ·exact .inl hc
   ·rcases hc with hc|⟨hc,hc2⟩
    ·exact .inr hc
    ·rw[if_pos hc];exact .inl hc2
  generalize regsT g.tys[j]=l at hs7 hr48 hty2⊢
  refine zi (ι:=Nat) (λk=>[.int .i64 (k:Nat)]) (λk w'=>k≤l.length∧((l.take k).any λx=>decide (g.lv≤x)||(decide ((j:Int)≤g.pn)&&decide (x<0)))=false∧StX noX w (r.or s7) w' [.cell b5 [.string g.name,.int .i64 g.lv,.slice qo g.outs.length capo,.int .i64 g.pn,.slice (some ⟨bt,ot,none⟩) g.tys.length capt,.slice qn g.nms.length capn,.slice qp g.pts.length capp] 101,
   .cell b2 [.slice p0 u.ss.length cap0,.slice (some ⟨bf,of,none⟩) u.fs.length capf,.int .i64 u.mn] 25]) (λk=>l.length-k) 0 rfl ⟨Nat.zero_le _,by simp,S⟩ ?_
  clear S
  rintro k d w13 ⟨hk,hany,S⟩ K7 hK7
  rw[gdz]
  refine gg_ ?_
  refine zj (λhlt2=>?_) (λhge2=>?_)
  ·have hlt2:k<l.length:=by omega
   obtain⟨bk,ok,rfl,hxk⟩:=ah9 hs7 (S.holds.le (h:=inferInstance)) hlt2
   have S:=S.go (Ext.drew _)
   refine gg_ ?_
   refine zg (by simpa using S.at hxk) ?_
   refine gg_ ?_
   refine Zw (g:=decide ((j:Int)≤g.pn)) (c:=decide (l[k]<0)) (λ_ K2 hK2=>by refine gg_ ?_;exact hK2) (λ_ K2 hK2=>?_) ?_
   ·refine gg_ ?_
    refine zg (by simpa using S.at hxk) ?_
    refine gg_ ?_
    exact hK2
   refine c_b (λhbad=>?_) (λhgood=>?_)
   ·have hA:(l.any λx=>decide (g.lv≤x)||(decide ((j:Int)≤g.pn)&&decide (x<0)))=true:=List.any_eq_true.2 ⟨_,List.getElem_mem hlt2,hbad⟩
    rw[hty2,hA,Bool.not_true,Bool.false_and]at hd
    rw[no λH=>by have:=H.tys;rw[← hd]at this;cases this]at h
    exact h _ S.ext
   ·refine gg_ ?_
    rw[show ((k:Int)+1)=((k+1:Nat):Int)by omega]
    refine hK7 (k+1) _ ⟨hlt2,?_,S⟩ (by omega)
    rw[List.take_succ_eq_append_getElem hlt2,List.any_append,hany]
    simp only[List.any_cons,List.any_nil,Bool.false_or,Bool.or_false]
    exact hgood
  ·have hke:k=l.length:=by omega
   rw[hke,List.take_length]at hany
   rw[hty2,hany,Bool.not_false,Bool.true_and]at hd
   refine gg_ ?_
   rw[show ((j:Int)+1)=((j+1:Nat):Int)by omega]
   exact hK6 (j+1) _ ⟨hlt,hd,S.to r⟩ (by omega)
 have hje:j=g.tys.length:=by omega
 rw[hje,List.drop_length]at hd
 have htys:qV u g 0 g.tys=true:=hd.symm
 clear hd hK6 K6 hge hj hje
 refine S.al λb9 w20 S=>?_
 refine S.al λb10 w21 S=>?_
 have S:StX noX w r w21 [.cell b9 (zQ λ_ _=>false) 296,.cell b10 (zQ λ_ _=>false) 296,.cell b5 [.string g.name,.int .i64 g.lv,.slice qo g.outs.length capo,.int .i64 g.pn,.slice qt g.tys.length capt,.slice qn g.nms.length capn,.slice qp g.pts.length capp] 101,
  .cell b2 [.slice p0 u.ss.length cap0,.slice (some ⟨bf,of,none⟩) u.fs.length capf,.int .i64 u.mn] 25]:=S.swap
 refine zi (ι:=Nat) (λi=>[.int .i64 (i:Nat)]) (λj w'=>j≤g.pn.toNat+1∧StX noX w r w' [.cell b9 (zQ (muF (g.tys.take j))) 296,.cell b10 (zQ λ_ _=>false) 296,.cell b5 [.string g.name,.int .i64 g.lv,.slice qo g.outs.length capo,.int .i64 g.pn,.slice qt g.tys.length capt,.slice qn g.nms.length capn,.slice qp g.pts.length capp] 101,
  .cell b2 [.slice p0 u.ss.length cap0,.slice (some ⟨bf,of,none⟩) u.fs.length capf,.int .i64 u.mn] 25]) (λi=>g.pn.toNat+1-i) 0 rfl ⟨Nat.zero_le _,by
   rw[yI (f:=muF (g.tys.take 0)) (g:=λ_ _=>false) (λx y _ _=>by simp[muF,jL])]
   exact S⟩ ?_
 clear S
 rintro j d w22 ⟨hj,S⟩ K6 hK6
 rw[gdz]
 refine gg_ ?_
 refine zj (λhlt=>?_) (λhge=>?_)
 ·have hlt:j<g.tys.length:=by omega
  obtain⟨bt,ot,ct,rfl,hct,htc,hcell⟩:=h2.sl.get (by decide) hlt
  obtain⟨q2,cap2,rfl,ht2⟩:=ye htc
  refine gg_ ?_
  refine zn (n:=5) hct (λj v hj=>by rw[tnc];exact S.at (hcell j v hj)) ?_
  have hreg:∀x∈regsT g.tys[j],0≤x∧x<8:=λx hx=>by
   have:=Xk htys (j:=j) hlt (by omega) x hx
   omega
  refine agl ht2 hreg S λw23 S=>?_
  refine gg_ ?_
  rw[show ((j:Int)+1)=((j+1:Nat):Int)by omega]
  refine hK6 (j+1) _ ⟨by omega,?_⟩ (by omega)
  rw[yI (f:=muF (g.tys.take (j+1))) (g:=Jc (muF (g.tys.take j)) (regsT g.tys[j])) (λx y _ _=>aei hlt)]
  exact S
 have hje:j=g.pn.toNat+1:=by omega
 rw[hje]at S
 clear hK6 K6 hge hj hje
 have hout:xR g=true↔qD g.lv none g.outs=true∧(List.range g.lv.toNat).all (clF g.lv.toNat (muF (g.tys.take (g.pn.toNat+1))) (syF g.outs))=true:=by
  rw[xR,← ael,ahu,Bool.and_eq_true]
 have nout:xR g=false→y6 u i g=false:=λe=>no λH=>by have:=H.outs;rw[e]at this;cases this
 generalize hmu:muF (g.tys.take (g.pn.toNat+1))=mu at hout S
 refine zi (ι:=Nat) (λi=>[.int .i64 (i:Nat)]) (λi w'=>i≤g.outs.length∧qD g.lv (qK g.outs i) (g.outs.drop i)=qD g.lv none g.outs∧
  StX noX w r w' [.cell b9 (zQ mu) 296,.cell b10 (zQ (syF (g.outs.take i))) 296,.cell b5 [.string g.name,.int .i64 g.lv,.slice qo g.outs.length capo,.int .i64 g.pn,.slice qt g.tys.length capt,.slice qn g.nms.length capn,.slice qp g.pts.length capp] 101,
  .cell b2 [.slice p0 u.ss.length cap0,.slice (some ⟨bf,of,none⟩) u.fs.length capf,.int .i64 u.mn] 25]) (λi=>g.outs.length-i) 0 rfl
  ⟨Nat.zero_le _,rfl,by
   rw[yI (f:=syF (g.outs.take 0)) (g:=λ_ _=>false) (λx y _ _=>by simp[syF,jh])]
   exact S⟩ ?_
 clear S
 rintro k d w24 ⟨hk,hd,S⟩ K6 hK6
 rw[gdz]
 refine gg_ ?_
 refine zj (λhlt=>?_) (λhge=>?_)
 ·have hlt:k<g.outs.length:=by omega
  obtain⟨bo,oo,co,rfl,hco,hoo,hoc⟩:=h1.sl.get (by decide) hlt
  obtain rfl:co=_:=hoo
  rw[af2 hlt]at hd
  have hgo:=λ(j:Nat) (hj:j<g.outs.length)=>h1.sl.get (by decide) hj
  obtain⟨⟨o1,o2⟩,ho⟩:∃o,g.outs[k]=o:=⟨_,rfl⟩
  rw[ho]at hd
  have hst:syF (g.outs.take (k+1))=λx y=>syF (g.outs.take k) x y||(decide ((x:Int)=o1)&&decide ((y:Int)=o2)):=by
   funext x y
   show jh _ _ _=(jh _ _ _||_)
   rw[aej hlt,ho]
  have hno:qD g.lv none g.outs=false→∀w',Ext w w'→K (.bool false) w':=λe w' ew=>by
   have:=h w' ew
   rw[nout (by
    cases ho:xR g with
    |false=>rfl
    |true=>rw [(hout.1 ho).1]at e;cases e)]at this
   exact this
  refine gg_ ?_
  refine zn (n:=2) hco (λj v hj=>by rw[tnc];exact S.at (hoc j v hj)) ?_
  rw[ho]
  refine S.al λb13 w25 S=>?_
  refine S.stB (b:=b13) λw26 S=>?_
  refine gg_ ?_
  refine zk (c:=decide (g.lv≤o1)) (λ_ K2 hK2=>by refine gg_ ?_;exact hK2) ?_
  refine zk (c:=decide (o2<0)) (λ_ K2 hK2=>by refine gg_ ?_;exact hK2) ?_
  refine zk (c:=decide (g.lv≤o2)) (λ_ K2 hK2=>by refine gg_ ?_;exact hK2) ?_
  refine zk (c:=decide (o1=o2)) (λ_ K2 hK2=>by refine gg_ ?_;exact hK2) ?_
  have hio:yK g.lv (o1,o2) = !((((decide (o1<0)||decide (g.lv≤o1))||decide (o2<0))||decide (g.lv≤o2))||decide (o1=o2)):=by
   rw[yK]
   congr 1
   rw[Bool.eq_iff_iff]
   simp only[Bool.or_eq_true,decide_eq_true_eq]
   omega
  refine c_b (λhbad=>?_) (λhgood=>?_)
  ·rw[hio,hbad,Bool.not_true,Bool.false_and,Bool.false_and]at hd
   exact hno hd.symm _ S.ext
  rw[hio,hgood,Bool.not_false,Bool.true_and]at hd
  have hrg:(0≤o1∧o1<8)∧(0≤o2∧o2<8):=by
   simp only[Bool.or_eq_false_iff,decide_eq_false_iff_not]at hgood;omega
  clear hgood hio
  obtain⟨⟨ho10,ho18⟩,ho20,ho28⟩:=hrg
  have S:=S.go (Ext.drew _)
  obtain⟨⟨p1,p2⟩,hp⟩:∃o,(g.outs[k-1]?).getD (0,0)=o:=⟨_,rfl⟩
  have hpv:0<k→∃(hl:k-1<g.outs.length),g.outs[k-1]=(p1,p2):=λhpos=>by
   have hl:k-1<g.outs.length:=by omega
   rw[gqg hl]at hp
   exact⟨hl,hp⟩
  have hprev:0<k→∀j v,[Value.int .i64 p1,.int .i64 p2][j]? = some v→Ob r λw=>w.cell? ⟨bo,oo+(k-1)*2+j,none⟩=some v:=λhpos j v hj=>by
   obtain⟨hl,he⟩:=hpv hpos
   obtain⟨bo2,oo2,co2,hbe,hco2,hoo2,hoc2⟩:=h1.sl.get (by decide) hl
   obtain rfl:co2=_:=hoo2
   cases hbe
   rw[he]at hoc2
   exact hoc2 j v hj
  refine gg_ ?_
  refine ajW (x:=decide (o1<p1)) (y:=decide (p1=o1)) (z:=decide (o2≤p2)) (λhb K2 hK2=>?_) (λhb K2 hK2=>?_) (λhb K2 hK2=>?_) ?_
  ·have hpos:0<k:=by simp only[decide_eq_true_eq]at hb;omega
   refine gg_ ?_
   refine zg (v:=.int .i64 p1) (by rw[show ((k:Int)-1).toNat=k-1 by omega];simpa using S.at (hprev hpos 0 _ rfl)) ?_
   refine gg_ ?_
   exact hK2
  ·have hpos:0<k:=by simp only[decide_eq_true_eq]at hb;omega
   refine gg_ ?_
   refine zg (v:=.int .i64 p1) (by rw[show ((k:Int)-1).toNat=k-1 by omega];simpa using S.at (hprev hpos 0 _ rfl)) ?_
   refine gg_ ?_
   exact hK2
  ·have hpos:0<k:=by simp only[decide_eq_true_eq]at hb;omega
   refine gg_ ?_
   refine zg (v:=.int .i64 p2) (by rw[show ((k:Int)-1).toNat=k-1 by omega];exact S.at (hprev hpos 1 _ rfl)) ?_
   refine gg_ ?_
   exact hK2
  rw[not_lt (o:=(o1,o2)) (w:=(p1,p2))]
  have haft:ah7 (qK g.outs k) (o1,o2) = !(decide ((k:Int)>0) && !jM (p1,p2) (o1,o2)):=by
   by_cases hpos:0<k
   ·obtain⟨hl,he⟩:=hpv hpos
    rw[qK,if_neg (by omega),gqg hl,he,decide_eq_true (show(k:Int)>0 by omega),Bool.true_and,Bool.not_not];rfl
   ·rw[qK,if_pos (by omega),decide_eq_false (show¬(k:Int)>0 by omega)];rfl
  refine c_b (λhb=>?_) (λhb=>?_)
  ·rw[haft,hb,Bool.not_true,Bool.false_and]at hd
   exact hno hd.symm _ S.ext
  rw[haft,hb,Bool.not_false,Bool.true_and]at hd
  have S:=S.go (Ext.drew _)
  refine gg_ ?_
  refine S.st (b:=b10) (λw27 S=>?_) (by rw[jR];omega)
  refine gg_ ?_
  rw[show ((k:Int)+1)=((k+1:Nat):Int)by omega]
  refine hK6 (k+1) _ ⟨hlt,hd,?_⟩ (by omega)
  rw[show 0+o1.toNat*8+o2.toNat*1=o1.toNat*8+o2.toNat by omega,Ja (by omega) (by omega)]at S
  rw[hst,yI (f:=λx y=>syF (g.outs.take k) x y||(decide ((x:Int)=o1)&&decide ((y:Int)=o2))) (g:=λx y=>syF (g.outs.take k) x y||(decide (x=o1.toNat)&&decide (y=o2.toNat))) (λx y _ _=>by
   show(syF (g.outs.take k) x y||(decide ((x:Int)=o1)&&decide ((y:Int)=o2)))=(syF (g.outs.take k) x y||(decide (x=o1.toNat)&&decide (y=o2.toNat)))
   rw[show decide ((x:Int)=o1)=decide (x=o1.toNat)from decide_eq_decide.2 (by omega),show decide ((y:Int)=o2)=decide (y=o2.toNat)from decide_eq_decide.2 (by omega)])]
  exact S.drop b13
 have hke:k=g.outs.length:=by omega
 rw[hke,List.take_length]at S
 rw[hke,List.drop_length]at hd
 have hoR:qD g.lv none g.outs=true:=by rw[← hd];rfl
 clear hd hK6 K6 hge hk hke
 generalize hsy:syF g.outs=sy at hout S
 obtain⟨n,hn⟩:∃n:Nat,g.lv.toNat=n:=⟨_,rfl⟩
 have hn8:n≤8:=by omega
 have hlvn:g.lv=(n:Int):=by omega
 rw[hn]at hout
 have hno:(List.range n).all (clF n mu sy)=false→∀w',Ext w w'→K (.bool false) w':=λe w' ew=>by
  have:=h w' ew
  rw[nout (by
   cases ho:xR g with
   |false=>rfl
   |true=>rw [(hout.1 ho).2]at e;cases e)]at this
  exact this
 refine zi (ι:=Nat) (λi=>[.int .i64 (i:Nat)]) (λi w'=>i≤n∧((List.range n).drop i).all (clF n mu sy)=(List.range n).all (clF n mu sy)∧
  StX noX w r w' [.cell b9 (zQ mu) 296,.cell b10 (zQ sy) 296,.cell b5 [.string g.name,.int .i64 g.lv,.slice qo g.outs.length capo,.int .i64 g.pn,.slice qt g.tys.length capt,.slice qn g.nms.length capn,.slice qp g.pts.length capp] 101,
  .cell b2 [.slice p0 u.ss.length cap0,.slice (some ⟨bf,of,none⟩) u.fs.length capf,.int .i64 u.mn] 25]) (λi=>n-i) 0 rfl ⟨Nat.zero_le _,rfl,S⟩ ?_
 clear S
 rintro a d2 w30 ⟨ha,hda,S⟩ K7 hK7
 rw[gdz]
 refine gg_ ?_
 rw[hlvn]
 refine zj (λhlta=>?_) (λhgea=>?_)
 ·have hlta:a<n:=by omega
  rw[j9 hlta]at hda
  refine zi (ι:=Nat) (λi=>[.int .i64 (i:Nat)]) (λi w'=>i≤n∧((List.range n).drop i).all (clG n mu sy a)=(List.range n).all (clG n mu sy a)∧
   StX noX w r w' [.cell b9 (zQ mu) 296,.cell b10 (zQ sy) 296,.cell b5 [.string g.name,.int .i64 g.lv,.slice qo g.outs.length capo,.int .i64 g.pn,.slice qt g.tys.length capt,.slice qn g.nms.length capn,.slice qp g.pts.length capp] 101,
   .cell b2 [.slice p0 u.ss.length cap0,.slice (some ⟨bf,of,none⟩) u.fs.length capf,.int .i64 u.mn] 25]) (λi=>n-i) 0 rfl ⟨Nat.zero_le _,rfl,S⟩ ?_
  clear S
  rintro b d3 w31 ⟨hb,hdb,S⟩ K8 hK8
  rw[gdz]
  refine gg_ ?_
  rw[hlvn]
  refine zj (λhltb=>?_) (λhgeb=>?_)
  rotate_left
  ·have hbe:b=n:=by omega
   rw[hbe,ve]at hdb
   have hF:clF n mu sy a=true:=hdb.symm
   rw[hF,Bool.true_and]at hda
   refine gg_ ?_
   rw[show ((a:Int)+1)=((a+1:Nat):Int)by omega]
   exact hK7 (a+1) _ ⟨hlta,hda,S⟩ (by omega)
  have hltb:b<n:=by omega
  rw[j9 hltb]at hdb
  have hfalse:clG n mu sy a b=false→(List.range n).all (clF n mu sy)=false:=λe=>by
   rw[e,Bool.false_and]at hdb
   have hF:clF n mu sy a=false:=hdb.symm
   rw[hF,Bool.false_and]at hda
   exact hda.symm
  refine gg_ ?_
  refine zh (c:=mu a b) (λ_ K2 hK2=>?_) ?_
  ·refine gg_ ?_
   refine S.ld (b:=b9) ?_ (jz (f:=mu) (by omega) (by omega))
   exact hK2
  refine zh (c:=!sy a b) (λ_ K2 hK2=>?_) ?_
  ·refine gg_ ?_
   refine S.ld (b:=b10) ?_ (jz (f:=sy) (by omega) (by omega))
   refine gg_ ?_
   exact hK2
  have hG:clG n mu sy a b=((List.range n).all (clH sy a b) && !((decide ((a:Int)≠(b:Int))&&mu a b) && !sy a b)):=by
   rw[clG,Bool.and_assoc,show decide ((a:Int)≠(b:Int)) = !decide (a=b)from by rw[← decide_not];exact decide_eq_decide.2 (by omega)]
  refine c_b (λhbad=>?_) (λhgood=>?_)
  ·exact hno (hfalse (by rw[hG,hbad,Bool.not_true,Bool.and_false])) _ S.ext
  rw[hgood,Bool.not_false,Bool.and_true]at hG
  refine zi (ι:=Nat) (λi=>[.int .i64 (i:Nat)]) (λi w'=>i≤n∧((List.range n).drop i).all (clH sy a b)=(List.range n).all (clH sy a b)∧
   StX noX w r w' [.cell b9 (zQ mu) 296,.cell b10 (zQ sy) 296,.cell b5 [.string g.name,.int .i64 g.lv,.slice qo g.outs.length capo,.int .i64 g.pn,.slice qt g.tys.length capt,.slice qn g.nms.length capn,.slice qp g.pts.length capp] 101,
   .cell b2 [.slice p0 u.ss.length cap0,.slice (some ⟨bf,of,none⟩) u.fs.length capf,.int .i64 u.mn] 25]) (λi=>n-i) 0 rfl ⟨Nat.zero_le _,rfl,S⟩ ?_
  clear S
  rintro cc d4 w32 ⟨hc,hdc,S⟩ K9 hK9
  rw[gdz]
  refine gg_ ?_
  rw[hlvn]
  refine zj (λhltc=>?_) (λhgec=>?_)
  ·have hltc:cc<n:=by omega
   rw[j9 hltc]at hdc
   refine gg_ ?_
   refine zh (c:=sy a b) (λ_ K2 hK2=>?_) ?_
   ·refine gg_ ?_
    refine S.ld (b:=b10) ?_ (jz (f:=sy) (by omega) (by omega))
    exact hK2
   refine zh (c:=sy b cc) (λ_ K2 hK2=>?_) ?_
   ·refine gg_ ?_
    refine S.ld (b:=b10) ?_ (jz (f:=sy) (by omega) (by omega))
    exact hK2
   refine zh (c:=!sy a cc) (λ_ K2 hK2=>?_) ?_
   ·refine gg_ ?_
    refine S.ld (b:=b10) ?_ (jz (f:=sy) (by omega) (by omega))
    refine gg_ ?_
    exact hK2
   have hH:clH sy a b cc = !(((decide ((a:Int)≠(cc:Int))&&sy a b)&&sy b cc) && !sy a cc):=by
    rw[clH,show decide ((a:Int)≠(cc:Int)) = !decide (a=cc)from by rw[← decide_not];exact decide_eq_decide.2 (by omega)]
    congr 1
    ac_rfl
   refine c_b (λhbad=>?_) (λhgood2=>?_)
   ·rw[hH,hbad,Bool.not_true,Bool.false_and]at hdc
    exact hno (hfalse (by rw[hG,← hdc])) _ S.ext
   ·rw[hH,hgood2,Bool.not_false,Bool.true_and]at hdc
    refine gg_ ?_
    rw[show ((cc:Int)+1)=((cc+1:Nat):Int)by omega]
    exact hK9 (cc+1) _ ⟨hltc,hdc,S⟩ (by omega)
  have hce:cc=n:=by omega
  rw[hce,ve]at hdc
  rw[hG,← hdc,Bool.true_and]at hdb
  refine gg_ ?_
  rw[show ((b:Int)+1)=((b+1:Nat):Int)by omega]
  exact hK8 (b+1) _ ⟨hltb,hdb,S⟩ (by omega)
 have hae:a=n:=by omega
 rw[hae,ve]at hda
 have hog:xR g=true:=hout.2 ⟨hoR,hda.symm⟩
 clear hda hK7 K7 hgea hae ha hno nout
 refine zi (ι:=Nat) (λi=>[.int .i64 (yx (g.pts.take i):Nat),.int .i64 (i:Nat)]) (λi w'=>i≤g.pts.length∧i≤1025∧StX noX w r w' [.cell b9 (zQ mu) 296,.cell b10 (zQ sy) 296,.cell b5 [.string g.name,.int .i64 g.lv,.slice qo g.outs.length capo,.int .i64 g.pn,.slice qt g.tys.length capt,.slice qn g.nms.length capn,.slice qp g.pts.length capp] 101,
  .cell b2 [.slice p0 u.ss.length cap0,.slice (some ⟨bf,of,none⟩) u.fs.length capf,.int .i64 u.mn] 25]) (λi=>g.pts.length-i) 0 rfl ⟨Nat.zero_le _,Nat.zero_le _,S⟩ ?_
 clear S
 rintro k d5 w33 ⟨hk,hk2,S⟩ K5 hK5
 simp only[gdz,gds]
 have hlk:yx (g.pts.take k)≤k:=by
  have:=List.countP_le_length (p:=λp:PtD=>decide (p.op=4)) (l:=g.pts.take k)
  rw[List.length_take]at this
  show List.countP _ _≤k
  omega
 refine gg_ ?_
 refine zh (c:=decide (k≤1024)) (λ_ K2 hK2=>?_) ?_
 ·refine gg_ ?_
  rw[show decide ((k:Int)≤1024)=decide (k≤1024)from decide_eq_decide.2 (by omega)]
  exact hK2
 refine c_b (λhgo=>?_) (λhstop=>?_)
 ·simp only[Bool.and_eq_true,decide_eq_true_eq]at hgo
  have hlt:k<g.pts.length:=by omega
  have hlt':=Jb hlt
  obtain⟨bp,op,cp,rfl,hcp,hpc,hpo⟩:=h4.sl.get (by decide) hlt
  obtain⟨x1,x2,x3,x4,x5,y1,y2,y3,y4,y5,rfl,_⟩:=qw hpc
  have lop:Ob r λw=>w.cell? ⟨bp,op+k*21,none⟩=some (.int .u8 g.pts[k].op):=by simpa using hpo 0 _ rfl
  refine zo (λs w'=>s=[.int .i64 (yx (g.pts.take (k+1)):Nat)]∧w'=w33) (λK9 hK9=>?_) ?_
  rotate_left
  ·rintro _ _ ⟨rfl,rfl⟩ d6
   rw[gdz]
   refine gg_ ?_
   rw[show ((k:Int)+1)=((k+1:Nat):Int)by omega]
   exact hK5 (k+1) _ ⟨hlt,by omega,S⟩ (by omega)
  refine gg_ ?_
  refine zg (by simpa using S.at lop) ?_
  refine gg_ ?_
  refine zj (λh4'=>?_) (λh4'=>?_)
  ·refine gg_ ?_
   refine hK9 _ _ ⟨?_,rfl⟩
   rw[hlt',if_pos h4'];rfl
  ·refine hK9 _ _ ⟨?_,rfl⟩
   rw[hlt',if_neg h4',Nat.add_zero]
 refine gg_ ?_
 refine zk (c:=decide (1024<g.pts.length)) (λ_ K2 hK2=>?_) ?_
 ·refine gg_ ?_
  rw[show decide ((1024:Int)<(g.pts.length:Int))=decide (1024<g.pts.length)from decide_eq_decide.2 (by omega)]
  exact hK2
 refine zk (c:=decide (256<yx (g.pts.take k))) (λ_ K2 hK2=>?_) ?_
 ·refine gg_ ?_
  rw[show decide ((256:Int)<(yx (g.pts.take k):Int))=decide (256<yx (g.pts.take k))from decide_eq_decide.2 (by omega)]
  exact hK2
 have hend:g.pts.length≤1024→g.pts.take k=g.pts:=λhle=>by
  refine List.take_of_length_le ?_
  rw[Bool.and_eq_false_iff,decide_eq_false_iff_not,decide_eq_false_iff_not]at hstop
  omega
 refine c_b (λhbad=>?_) (λhgood=>?_)
 ·rw[no λH=>by
   have h1:=H.pt1
   have h2:=H.pt1024
   have h3:=H.loans
   rw[hend h2]at hbad
   simp only[Bool.or_eq_true,decide_eq_true_eq]at hbad
   omega]at h
  exact h _ S.ext
 simp only[Bool.or_eq_false_iff,decide_eq_false_iff_not]at hgood
 rw[hend (by omega)]at hgood
 have hpos:0<g.tys.length:=by omega
 have hhd:g.tys.headD zA=g.tys[0]:=by rw[List.headD_eq_head?_getD,List.head?_eq_getElem?,gqg hpos,Option.getD_some]
 obtain⟨bt,ot,ct,rfl,hct2,htc,hcell⟩:=h2.sl.get (by decide) hpos
 obtain⟨q2,cap2,rfl,ht2⟩:=ye htc
 have lk:Ob r λw=>w.cell? ⟨bt,ot,none⟩=some (.int .u8 g.tys[0].k):=by simpa using hcell 0 _ rfl
 refine gg_ ?_
 refine alS (c:=decide (g.lv=0)) (d:=decide (g.pn=0)) (e:=isK g.tys[0] 1) (λK2 hK2=>by refine gg_ ?_;exact hK2) (λK2 hK2=>by refine gg_ ?_;exact hK2) (λK2 hK2=>?_) ?_
 ·refine gg_ ?_
  refine zg (by simpa using S.at lk) ?_
  refine gg_ ?_
  exact hK2
 have hE:y6 u i g=(decide ((i:Int)≠u.mn)||((decide (g.lv=0)&&decide (g.pn=0))&&isK g.tys[0] 1)):=by
  rw[y6,decide_eq_true hlv0,decide_eq_true hlv8,decide_eq_true hpn0,decide_eq_true hpn8,decide_eq_true hpn1,decide_eq_true hty,decide_eq_true hnm,htys,hog,decide_eq_true (show 1≤g.pts.length by omega),decide_eq_true (show g.pts.length≤1024 by omega),decide_eq_true (show yx g.pts≤256 by omega),hhd,decide_not]
  simp
 rw[hE]at h
 exact h _ S.ext
theorem aeZ{K:Value→World→Prop}(hr:Holds r w)(hu:UnG r v u)
  (h:∀(a b e:Int) w',Ext w w'→(e=0↔MayU u)→K (.tuple #[.int .i64 a,.int .i64 b,.int .i64 e]) w'):zd Tryz.prog Tryz.Ya #[v] w K:=by
 refine Tryz.adH ?_
 unfold Tryz.JM
 have hu0:=hu
 obtain⟨p0,cap0,vf,rfl,_,_,hst,hsl,hfn⟩:=hu
 obtain⟨qf,capf,rfl,_,_⟩:=hfn.sl.shape
 have hfl:u.fs.length≤9223372036854775807:=hfn.few
 have S:=St.start hr
 refine S.box λb1 w1 S=>?_
 have S:StX noX w r w1 [.cell b1 [.slice p0 u.ss.length cap0,.slice qf u.fs.length capf,.int .i64 u.mn] 25]:=S
 have bad:∀{a b:Int}{w':World},¬MayU u→Ext w w'→K (.tuple #[.int .i64 a,.int .i64 b,.int .i64 100]) w':=λhn e=>h _ _ _ _ e ⟨λh=>absurd h (by decide),λhM=>absurd hM hn⟩
 refine gg_ ?_
 refine XY S.holds hst λw2 e2=>?_
 have S:=S.go e2
 refine gg_ ?_
 refine zk (c:=decide (u.fs.length<1)) (λ_ K2 hK2=>?_) ?_
 ·refine gg_ ?_
  rw[show decide ((u.fs.length:Int)<1)=decide (u.fs.length<1)from decide_eq_decide.2 (by omega)]
  exact hK2
 refine zk (c:=decide (32<u.fs.length)) (λ_ K2 hK2=>?_) ?_
 ·refine gg_ ?_
  rw[show decide ((32:Int)<(u.fs.length:Int))=decide (32<u.fs.length)from decide_eq_decide.2 (by omega)]
  exact hK2
 refine zk (c:=decide (u.mn<0)) (λ_ K2 hK2=>by refine gg_ ?_;exact hK2) ?_
 refine zk (c:=decide ((u.fs.length:Int)≤u.mn)) (λ_ K2 hK2=>by refine gg_ ?_;exact hK2) ?_
 refine c_b (λhbad=>?_) (λhgood=>?_)
 ·refine bad (λhM=>?_) S.ext
  have h1:=hM.ok;have h2:=hM.fs1;have h3:=hM.fs32;have h4:=hM.mn0;have h5:=hM.mn1
  rw[decide_eq_true h1]at hbad
  simp only[Bool.or_eq_true,decide_eq_true_eq,Bool.not_true,Bool.false_eq_true,false_or]at hbad
  omega
 simp only[Bool.or_eq_false_iff,decide_eq_false_iff_not,Bool.not_eq_false',decide_eq_true_eq]at hgood
 obtain⟨⟨⟨⟨hok,hf1⟩,hf32⟩,hm0⟩,hm1⟩:=hgood
 refine zi (ι:=Nat) (λi=>[.int .i64 (i:Nat)]) (λi w'=>i≤u.fs.length∧(∀(j:Nat)(hj:j<u.fs.length),j<i→y6 u j u.fs[j]=true)∧StX noX w r w' [.cell b1 [.slice p0 u.ss.length cap0,.slice qf u.fs.length capf,.int .i64 u.mn] 25]) (λi=>u.fs.length-i) 0 rfl ⟨Nat.zero_le _,λj _ hj=>absurd hj (Nat.not_lt_zero _),S⟩ ?_
 clear S
 rintro i d w3 ⟨hi,hall,S⟩ K1 hK1
 rw[gdz]
 refine gg_ ?_
 refine zj (λhlt=>?_) (λhge=>?_)
 ·have hlt:i<u.fs.length:=by omega
  refine S.ldB (b:=b1) ?_ rfl
  refine agm hlt hok S.holds hu0 λw4 e4=>?_
  have S:=S.go e4
  refine gp_ ?_
  refine c_b (λhb=>?_) (λhb=>?_)
  ·refine bad (λhM=>?_) S.ext
   rw[hM.head i hlt]at hb;cases hb
  ·refine gg_ ?_
   rw[show ((i:Int)+1)=((i+1:Nat):Int)by omega]
   refine hK1 (i+1) _ ⟨hlt,λj hj hji=>?_,S⟩ (by omega)
   by_cases e:j=i
   ·subst e;simpa using hb
   ·exact hall j hj (by omega)
 have hheads:∀(j:Nat)(hj:j<u.fs.length),y6 u j u.fs[j]=true:=λj hj=>hall j hj (by omega)
 clear hall hK1 K1 hge hi
 have hfine:∀f∈u.fs,xF u.ss f.tys∧(0≤f.pn∧f.pn<f.tys.length∧xF u.ss f.tys):=λf hf=>by
  obtain⟨j,hj,rfl⟩:=List.getElem_of_mem hf
  have H:=acs (hheads j hj)
  exact⟨H.fine hok,H.pn0,H.pn1,H.fine hok⟩
 refine zi (ι:=Nat) (λi=>[.int .i64 (i:Nat)]) (λi w'=>i≤u.fs.length∧(∀(j:Nat)(hj:j<u.fs.length),j<i→∀p∈u.fs[j].pts,zL u u.fs[j] p=true)∧StX noX w r w' [.cell b1 [.slice p0 u.ss.length cap0,.slice qf u.fs.length capf,.int .i64 u.mn] 25]) (λi=>u.fs.length-i) 0 rfl ⟨Nat.zero_le _,λj _ hj=>absurd hj (Nat.not_lt_zero _),S⟩ ?_
 clear S
 rintro i d w5 ⟨hi,hall,S⟩ K2 hK2
 rw[gdz]
 refine gg_ ?_
 refine zj (λhlt=>?_) (λhge=>?_)
 rotate_left
 ·exact h 0 0 0 _ S.ext ⟨λ_=>⟨hok,by omega,by omega,by omega,by omega,hheads,λg hg p hp=>by
   obtain⟨j,hj,rfl⟩:=List.getElem_of_mem hg
   exact hall j hj (by omega) p hp⟩,λ_=>rfl⟩
 have hlt:i<u.fs.length:=by omega
 obtain⟨bf,of,cf,rfl,hcf,hgc,hfo⟩:=hfn.sl.get (by decide) hlt
 have hgm:=List.getElem_mem hlt
 generalize hgi:u.fs[i]=g at hgc hgm
 obtain⟨vo,vt,vn,vp,rfl,h1,h2,h3,h4⟩:=id hgc
 obtain⟨qo,capo,rfl,_,_⟩:=h1.sl.shape
 obtain⟨qt,capt,rfl,_,hct⟩:=h2.sl.shape
 obtain⟨qn,capn,rfl,_,_⟩:=h3.sl.shape
 obtain⟨qp,capp,rfl,_,_⟩:=h4.sl.shape
 have hptl:g.pts.length≤9223372036854775807:=h4.few
 have lpts:Ob r λw=>w.cell? ⟨bf,of+i*7+6,none⟩=some (.slice qp g.pts.length capp):=hfo 6 _ rfl
 have S:=S.go (Ext.drew _)
 refine S.ldB (b:=b1) ?_ rfl
 refine gg_ ?_
 refine zn (n:=7) hcf (λj v hj=>by rw[tnc];exact S.at (hfo j v hj)) ?_
 refine zq (cs:=#[.slice p0 u.ss.length cap0,.slice (some ⟨bf,of,none⟩) u.fs.length capf,.int .i64 u.mn,.string g.name,.int .i64 g.lv,.slice qo g.outs.length capo,.int .i64 g.pn,.slice qt g.tys.length capt,.slice qn g.nms.length capn,.slice qp g.pts.length capp]) (by kernel_rfl) ?_
 refine S.box λbx w6 S=>?_
 have S:StX noX w r w6 [.cell bx (asL u g p0 cap0 (some ⟨bf,of,none⟩) capf qo capo qt capt qn capn qp capp) 170,.cell b1 [.slice p0 u.ss.length cap0,.slice (some ⟨bf,of,none⟩) u.fs.length capf,.int .i64 u.mn] 25]:=S
 have S:=S.frz
 have hx:AsP (r.or (Go.Sh.one bx (asL u g p0 cap0 (some ⟨bf,of,none⟩) capf qo capo qt capt qn capn qp capp) 170)) bx u g:=⟨p0,cap0,some ⟨bf,of,none⟩,capf,qo,capo,qt,capt,qn,capn,qp,capp,(xr (b:=bx)).up,hu0.up,GrG.up hgc⟩
 refine zi (ι:=Nat) (λi=>[.int .i64 (i:Nat)]) (λq w'=>q≤g.pts.length∧(∀(j:Nat)(hj:j<g.pts.length),j<q→zL u g g.pts[j]=true)∧StX noX w (r.or (Go.Sh.one bx (asL u g p0 cap0 (some ⟨bf,of,none⟩) capf qo capo qt capt qn capn qp capp) 170)) w' [.cell b1 [.slice p0 u.ss.length cap0,.slice (some ⟨bf,of,none⟩) u.fs.length capf,.int .i64 u.mn] 25]) (λi=>g.pts.length-i) 0 rfl ⟨Nat.zero_le _,λj _ hj=>absurd hj (Nat.not_lt_zero _),S⟩ ?_
 clear S
 rintro q d w7 ⟨hq,hpts,S⟩ K9 hK9
 rw[gdz]
 refine gg_ ?_
 refine zg (by rw[tnc];exact S.at lpts) ?_
 refine gg_ ?_
 refine zj (λhlt2=>?_) (λhge2=>?_)
 ·have hlt2:q<g.pts.length:=by omega
  obtain⟨bp,op,cp,rfl,hcp,hpc,hpo⟩:=h4.sl.get (by decide) hlt2
  refine gg_ ?_
  refine zg (by rw[tnc];exact S.at lpts) ?_
  refine gg_ ?_
  refine zn (n:=21) hcp (λj v hj=>by rw[tnc];exact S.at (hpo j v hj)) ?_
  refine aeY S.holds hx hok (hfine g hgm).1 (λf hf=>(hfine f hf).2) hpc.up λw8 e8=>?_
  have S:=S.go e8
  refine gp_ ?_
  refine c_b (λhb=>?_) (λhb=>?_)
  ·refine bad (λhM=>?_) S.ext
   rw[hM.pts g hgm _ (List.getElem_mem hlt2)]at hb;cases hb
  ·refine gg_ ?_
   rw[show ((q:Int)+1)=((q+1:Nat):Int)by omega]
   refine hK9 (q+1) _ ⟨hlt2,λj hj hjq=>?_,S⟩ (by omega)
   by_cases e:j=q
   ·subst e;simpa using hb
   ·exact hpts j hj (by omega)
 ·refine gg_ ?_
  rw[show ((i:Int)+1)=((i+1:Nat):Int)by omega]
  refine hK2 (i+1) _ ⟨hlt,λj hj hji p hp=>?_,S.to r⟩ (by omega)
  by_cases e:j=i
  ·subst e
   rw[hgi]at hp⊢
   obtain⟨k,hk,rfl⟩:=List.getElem_of_mem hp
   exact hpts k hk (by omega)
  ·exact hall j hj (by omega) p hp
theorem ag3{K:Value→World→Prop}(hr:Holds r w)(hu:UnG r v u)
  (h:∀w',Ext w w'→K (.bool (Xh u)) w'):zd Tryz.prog Tryz.X7 #[v] w K:=by
 refine Tryz.agd ?_
 unfold Tryz.aa0
 have hu0:=hu
 obtain⟨p0,cap0,vf,rfl,_,_,hst,hsl,hfn⟩:=hu
 have S:=St.start hr
 refine S.box λb1 w1 S=>?_
 have S:StX noX w r w1 [.cell b1 [.slice p0 u.ss.length cap0,vf,.int .i64 u.mn] 25]:=S
 refine S.ldB (b:=b1) ?_ rfl
 refine aeZ S.holds hu0 λa b e w2 e2 he=>?_
 have S:=S.go e2
 refine gg_ ?_
 have hm:decide (e=0)=Xh u:=by
  rw[Bool.eq_iff_iff,decide_eq_true_eq,he]
  exact Jg.symm
 rw[hm]
 exact h _ S.ext
theorem acK{fn q:Int}{K:Value→World→Prop}(hr:Holds r w)(hu:UnG r v u)
  (h:∀w',Ext w w'→K (.bool (isU u fn q)) w'):zd Tryz.prog Tryz.Yz #[v,.int .i64 fn,.int .i64 q] w K:=by
 refine Tryz.ag0 ?_
 unfold Tryz.acA
 have hu0:=hu
 obtain⟨p0,cap0,vf,rfl,_,_,hst,hsl,hfn⟩:=hu
 obtain⟨qf,capf,rfl,_,_⟩:=hfn.sl.shape
 have hfl:u.fs.length≤9223372036854775807:=hfn.few
 have S:=St.start hr
 refine S.box λb1 w1 S=>?_
 have S:StX noX w r w1 [.cell b1 [.slice p0 u.ss.length cap0,.slice qf u.fs.length capf,.int .i64 u.mn] 25]:=S
 refine S.ldB (b:=b1) ?_ rfl
 refine ag3 S.holds hu0 λw2 e2=>?_
 have S:=S.go e2
 refine zh (c:=decide (0≤fn)) (λ_ K2 hK2=>by refine gg_ ?_;exact hK2) ?_
 refine zh (c:=decide (fn<(u.fs.length:Int))) (λ_ K2 hK2=>by refine gg_ ?_;exact hK2) ?_
 refine zh (c:=decide (q<((u.fs[fn.toNat]?.map λg=>(g.pts.length:Int)).getD 0))) (λhb K2 hK2=>?_) ?_
 ·simp only[Bool.and_eq_true,decide_eq_true_eq]at hb
  have hlt:fn.toNat<u.fs.length:=by omega
  obtain⟨bf,of,cf,rfl,hcf,hgc,hfo⟩:=hfn.sl.get (by decide) hlt
  obtain⟨vo,vt,vn,vp,rfl,h1,h2,h3,h4⟩:=id hgc
  obtain⟨qp,capp,rfl,_,_⟩:=h4.sl.shape
  have hptl:u.fs[fn.toNat].pts.length≤9223372036854775807:=h4.few
  have lpts:Ob r λw=>w.cell? ⟨bf,of+fn.toNat*7+6,none⟩=some (.slice qp u.fs[fn.toNat].pts.length capp):=hfo 6 _ rfl
  refine gg_ ?_
  refine zg (S.at lpts) ?_
  refine gg_ ?_
  rw[gqg hlt]at hK2
  exact hK2
 have:=h _ S.ext
 rw[isU]at this
 have e:((((Xh u&&decide (0≤fn))&&decide (fn<(u.fs.length:Int)))&&decide (q<((u.fs[fn.toNat]?.map λg=>(g.pts.length:Int)).getD 0))))=((decide (0≤fn)&&decide (fn<(u.fs.length:Int)))&&(Xh u&&decide (q<((u.fs[fn.toNat]?.map λg=>(g.pts.length:Int)).getD 0)))):=by ac_rfl
 rw[e]
 exact this
end Go.Proofs
end
section
namespace Go.Proofs
open Go.Shelf
def Tryz.ag4:Go.Shelf.Ren:=⟨fun|189=>69|125=>132|257=>131|128=>182|129=>183|294=>173|295=>174|296=>175|297=>176|298=>177|299=>178|216=>179|300=>180|301=>181|328=>208|329=>209|330=>210|331=>211|332=>212|215=>213|343=>234|n=>n,fun|28=>55|3=>3|46=>213|0=>0|51=>260|53=>205|4=>4|183=>254|182=>253|131=>140|5=>5|9=>9|218=>282|222=>286|228=>308|229=>288|n=>n,fun|n=>n⟩
theorem Tryz.ahz:Go.Proofs.Lays.n189 Tryz.prog Tryz.ag4:={
 mixed:=by kernel_rfl
 f125:=Tryz.func132.trans (congrArg some (by kernel_rfl))
 f128:=Tryz.func182.trans (congrArg some (by kernel_rfl))
 f129:=Tryz.func183.trans (congrArg some (by kernel_rfl))
 f189:=Tryz.func69.trans (congrArg some (by kernel_rfl))
 f215:=Tryz.func213.trans (congrArg some (by kernel_rfl))
 f216:=Tryz.func179.trans (congrArg some (by kernel_rfl))
 f257:=Tryz.func131.trans (congrArg some (by kernel_rfl))
 f294:=Tryz.func173.trans (congrArg some (by kernel_rfl))
 f295:=Tryz.func174.trans (congrArg some (by kernel_rfl))
 f296:=Tryz.func175.trans (congrArg some (by kernel_rfl))
 f297:=Tryz.func176.trans (congrArg some (by kernel_rfl))
 f298:=Tryz.func177.trans (congrArg some (by kernel_rfl))
 f299:=Tryz.func178.trans (congrArg some (by kernel_rfl))
 f300:=Tryz.func180.trans (congrArg some (by kernel_rfl))
 f301:=Tryz.func181.trans (congrArg some (by kernel_rfl))
 f328:=Tryz.func208.trans (congrArg some (by kernel_rfl))
 f329:=Tryz.func209.trans (congrArg some (by kernel_rfl))
 f330:=Tryz.func210.trans (congrArg some (by kernel_rfl))
 f331:=Tryz.func211.trans (congrArg some (by kernel_rfl))
 f332:=Tryz.func212.trans (congrArg some (by kernel_rfl))
 f343:=Tryz.func234.trans (congrArg some (by kernel_rfl))
 t0:=Tryz.underlying0
 a0:=Tryz.isAgg0
 z0:=Tryz.sizeOf0
 v0:=Tryz.zeroValue0
 t3:=Tryz.underlying3
 a3:=Tryz.isAgg3
 z3:=Tryz.sizeOf3
 v3:=Tryz.zeroValue3
 t4:=Tryz.underlying4
 a4:=Tryz.isAgg4
 z4:=Tryz.sizeOf4
 v4:=Tryz.zeroValue4
 t5:=Tryz.underlying5
 a5:=Tryz.isAgg5
 z5:=Tryz.sizeOf5
 v5:=Tryz.zeroValue5
 t9:=Tryz.underlying9
 a9:=Tryz.isAgg9
 z9:=Tryz.sizeOf9
 v9:=Tryz.zeroValue9
 t28:=Tryz.underlying55
 a28:=Tryz.isAgg55
 z28:=Tryz.sizeOf55
 v28:=Tryz.zeroValue55
 t46:=Tryz.underlying213
 a46:=Tryz.isAgg213
 z46:=Tryz.sizeOf213
 v46:=Tryz.zeroValue213
 t51:=Tryz.underlying260
 a51:=Tryz.isAgg260
 z51:=Tryz.sizeOf260
 v51:=Tryz.zeroValue260
 t53:=Tryz.underlying205
 a53:=Tryz.isAgg205
 z53:=Tryz.sizeOf205
 v53:=Tryz.zeroValue205
 t131:=Tryz.underlying140
 a131:=Tryz.isAgg140
 z131:=Tryz.sizeOf140
 v131:=Tryz.zeroValue140
 t182:=Tryz.underlying253
 a182:=Tryz.isAgg253
 z182:=Tryz.sizeOf253
 v182:=Tryz.zeroValue253
 t183:=Tryz.underlying254
 a183:=Tryz.isAgg254
 z183:=Tryz.sizeOf254
 v183:=Tryz.zeroValue254
 t218:=Tryz.underlying282
 a218:=Tryz.isAgg282
 z218:=Tryz.sizeOf282
 v218:=Tryz.zeroValue282
 t222:=Tryz.underlying286
 a222:=Tryz.isAgg286
 z222:=Tryz.sizeOf286
 v222:=Tryz.zeroValue286
 t228:=Tryz.underlying308
 a228:=Tryz.isAgg308
 z228:=Tryz.sizeOf308
 v228:=Tryz.zeroValue308
 t229:=Tryz.underlying288
 a229:=Tryz.isAgg288
 z229:=Tryz.sizeOf288
 v229:=Tryz.zeroValue288 }
end Go.Proofs
end
section
namespace Go.Sh
open Go.RowKit
theorem ai1{w w':World}{g q:Nat}{c:List Value}{e:TypeId}{d:Array Int}{os:Array Obj}(B:Blk w g c e)(hd:d.size≤c.length)
  (hw:w'=Sort.grow (Sort.putRow (Value.int .i64) (Sort.ahead w q) g 0 d) os):ExtBut (· = g) w w'∧Blk w' g (d.toList.map (Value.int .i64)++c.drop d.size) e:=by
 subst hw
 have hg:g<w.heap.size:=(Array.getElem?_eq_some_iff.1 B).1
 have hput:∀k,(Sort.putRow (Value.int .i64) (Sort.ahead w q) g 0 d).heap[k]? = if g=k then(w.heap[k]?).map (Sort.onCells (Sort.putCells (Value.int .i64) 0 d))else w.heap[k]?:=λk=>by
  simp only[Sort.putRow,Sort.mapBlock,Array.getElem?_modify]
  split<;>rfl
 have hsz:(Sort.putRow (Value.int .i64) (Sort.ahead w q) g 0 d).heap.size=w.heap.size:=by simp[Sort.ahead]
 refine⟨⟨rfl,rfl,rfl,by simp only[Sort.grow,Array.size_append,hsz];omega,λk hk hne=>?_⟩,?_⟩
 ·show((Sort.putRow (Value.int .i64) (Sort.ahead w q) g 0 d).heap++os)[k]? = _
  rw[Array.getElem?_append_left (by rw[hsz];exact hk),hput,if_neg (λh=>hne h.symm)]
 ·show((Sort.putRow (Value.int .i64) (Sort.ahead w q) g 0 d).heap++os)[g]? = _
  rw[Array.getElem?_append_left (by rw[hsz];exact hg),hput,if_pos rfl,B,Option.map_some]
  simp only[Sort.onCells]
  congr 2
  apply Array.ext_getElem?
  intro i
  simp only[Sort.putCells,Array.getElem?_mapIdx,List.getElem?_toArray,List.getElem?_append,List.length_map,Array.length_toList,List.getElem?_map,List.getElem?_drop,Nat.zero_le,true_and,Nat.zero_add,Nat.sub_zero]
  by_cases hi:i<d.size
  ·rw[if_pos hi,gqg (by omega),Option.map_some,if_pos hi,Array.getElem?_toList,Array.getElem?_eq_getElem hi,getElem!_pos d i hi];rfl
  ·rw[if_neg hi,show d.size+(i-d.size)=i by omega]
   cases h:c[i]? with
   |none=>rfl
   |some x=>rw [Option.map_some,if_neg hi]
end Go.Sh
namespace Go.Proofs
open Go.Sh Go.RowKit
set_option maxRecDepth 100000
def jl(l:List Int):List Int:=l.mergeSort λx y=>decide (x≤y)
theorem ZY{l:List Int}:(jl l).length=l.length:=List.length_mergeSort l
variable {w0 w:World} {r:Gh} {L:List Asr} {X:Nat→Prop}
theorem ae0{v:Value}{l:List Int}{K:Value→World→Prop}(S:StX X w0 r w (.row v 3 1 l.length (ints l)::L))(hl:l.length<4611686018427387904)
  (h:∀w',StX X w0 r w' (.row v 3 1 l.length (ints (jl l))::L)→K (.tuple #[]) w'):zd Tryz.prog Tryz.jX #[v] w K:=by
 have hr:w.ownsRow 0 3 1 v l.length (ints l):=S.has _ (List.mem_cons_self ..)
 rcases kp hr with⟨rfl,h1,h2⟩|⟨g,cap,c,rfl,hg,B,hn,hm,hcl,ht⟩
 ·have hl0:l=[]:=List.eq_nil_of_length_eq_zero h1
  subst hl0
  refine Calls.mono (Any.slices_Sort_int_none Tryz.ahz none 0 w) ?_
  rintro e w' ⟨rfl,rfl⟩
  exact⟨_,rfl,h _ (by rw[show jl []=[]by simp[jl]];exact S)⟩
 ·rw[Nat.mul_one]at hcl ht
  have hcell:∀j,j<l.length→w.cell? ⟨g,j,none⟩=some (.int .i64 l[j]!):=λj hj=>by
   have :(c.take l.length)[j]? = some (.int .i64 l[j]!):=by
    rw[ht,ints,List.getElem?_map,gqg hj,getElem!_pos l j hj];rfl
   rw[List.getElem?_take,if_pos hj]at this
   rw[B.cell];exact this
  have hfz:∀j,w.frozen? ⟨g,j,none⟩=false:=λj=>B.unfrozen j
  refine Calls.mono (Any.slices_Sort_int Tryz.ahz g 0 cap l w (λj hj=>⟨?_,hfz _⟩) (Array.getElem?_eq_some_iff.1 B).1 hl) ?_
  ·have hj:j<l.length:=by simpa using hj
   rw[Nat.zero_add,hcell j hj]
   simp[getElem!_pos,hj]
  rintro e w' ⟨rfl,q,os,hw⟩
  obtain⟨hE,hB⟩:=ai1 (d:=(jl l).toArray) B (by simp[ZY];omega) hw
  refine⟨_,rfl,h w' ?_⟩
  refine S.turn (p:=[]) (x:=.row (.slice (some ⟨g,0,none⟩) l.length cap) 3 1 l.length (ints l)) (y:=.row (.slice (some ⟨g,0,none⟩) l.length cap) 3 1 l.length (ints (jl l))) ?_ ?_ λk hk=>.inl hk
  ·exact hE.mono λk _ hk=>by subst hk;rfl
  ·have:=vw (base:=0) (e:=3) (size:=1) (n:=l.length) (cap:=cap) (Nat.zero_le _) hB hn hm (by simp[ZY];omega)
   have e:((jl l).toArray.toList.map (Value.int .i64)++c.drop (jl l).toArray.size).take (l.length*1)=ints (jl l):=by
    rw[Nat.mul_one,List.take_append_of_le_length (by simp[ZY])]
    exact List.take_of_length_le (by simp[ZY])
   rwa[e]at this
theorem Jl:∀{l m:List Int},l.Pairwise (· < ·)→m.Pairwise (· < ·)→(∀x,x∈l↔x∈m)→l=m
 |[],[],_,_,_=>rfl
 |[],y::m,_,_,h=>absurd ((h y).2 (List.mem_cons_self ..)) (by simp)
 |x::l,[],_,_,h=>absurd ((h x).1 (List.mem_cons_self ..)) (by simp)
 |x::l,y::m,hl,hm,h=>by
  have hl':=List.pairwise_cons.1 hl
  have hm':=List.pairwise_cons.1 hm
  have hxy:x=y:=by
   have h1:=(h x).1 (List.mem_cons_self ..)
   have h2:=(h y).2 (List.mem_cons_self ..)
   rcases List.mem_cons.1 h1 with e|h1
   ·exact e
   rcases List.mem_cons.1 h2 with e|h2
   ·exact e.symm
   have:=hl'.1 y h2;have:=hm'.1 x h1;omega
  subst hxy
  rw[Jl hl'.2 hm'.2 λz=>?_]
  constructor
  ·intro hz
   rcases List.mem_cons.1 ((h z).1 (List.mem_cons_of_mem _ hz))with e|hz'
   ·have:=hl'.1 z hz;omega
   ·exact hz'
  ·intro hz
   rcases List.mem_cons.1 ((h z).2 (List.mem_cons_of_mem _ hz))with e|hz'
   ·have:=hm'.1 z hz;omega
   ·exact hz'
end Go.Proofs
end
section
namespace Go.Proofs
def mk'(m:List Bool)(q:Int):Bool:=m.getD q.toNat false
def alT(m:List Bool)(q:Int):List Bool:=m.set q.toNat true
theorem ahA:∀{a b:List Int},a.Nodup→(∀x∈a,x∈b)→a.length≤b.length
 |[],b,_,_=>Nat.zero_le _
 |x::a,b,hn,hs=>by
  have hn':=List.nodup_cons.1 hn
  have hx:=hs x List.mem_cons_self
  have:=ahA (a:=a) (b:=b.erase x) hn'.2 λy hy=>by
   have hne:y≠x:=λe=>hn'.1 (e▸hy)
   exact(List.mem_erase_of_ne hne).2 (hs y (List.mem_cons_of_mem _ hy))
  rw[List.length_erase_of_mem hx]at this
  have hp:0<b.length:=List.length_pos_of_mem hx
  rw[List.length_cons];omega
end Go.Proofs
end
section
namespace Go.Proofs
open Go.Sh
variable {n i:Nat} {a:Int} {t u:TyD} {out:List Int}
abbrev CnD:=Int×Int
def flowN:Bool→Nat→TyD→TyD→List CnD
 |_,0,_,_=>[]
 |both,n+1,t,u=>(if t.k=4 then(t.re,u.re)::(if both=true then [(u.re,t.re)]else [])else [])++(match t.of,u.of with|x::_,y::_=>flowN (both||t.m) n x y|_,_=>[])
def kc(both:Bool)(t u:TyD):List CnD:=flowN both 48 t u
theorem VT{both:Bool}(h:t.of=[])(hk:t.k≠4):flowN both (n+1) t u=[]:=by rw[flowN,h,if_neg hk];rfl
theorem XZ{both:Bool}{x y:TyD}(ht:t.of=[x])(hu:u.of=[y]):flowN both (n+1) t u=(if t.k=4 then(t.re,u.re)::(if both=true then [(u.re,t.re)]else [])else [])++flowN (both||t.m) n x y:=by
 rw[flowN,ht,hu]
theorem VU(h:bare t=bare u):t.k=u.k∧t.m=u.m∧t.st=u.st:=by
 obtain⟨a1,a2,a3⟩:=aiY (t:=t)
 obtain⟨b1,b2,b3⟩:=aiY (t:=u)
 rw[← a1,← a2,← a3,h]
 exact⟨b1,b2,b3⟩
theorem ZZ{s:Int}(ht:zr s (n+1) t=true)(hu:zr s (n+1) u=true)(hb:bare t=bare u):
  (t.of=[]∧u.of=[]∧t.k≠4)∨∃x y,t.of=[x]∧u.of=[y]∧zr s n x=true∧zr s n y=true∧bare x=bare y:=by
 obtain⟨hk,_,_⟩:=VU hb
 rcases zE ht with⟨h1,h2⟩|⟨x,h1,h2,h3⟩
 ·rcases zE hu with⟨h4,h5⟩|⟨y,h4,h5,h6⟩
  ·exact .inl ⟨h1,h4,by omega⟩
  ·omega
 ·rcases zE hu with⟨h4,h5⟩|⟨y,h4,h5,h6⟩
  ·omega
  ·refine .inr ⟨x,y,h1,h4,h2,h5,?_⟩
   have e1:(bare t).of=[bare x]:=by show(t.mapR ji).of=_;rw[Zv h1];rfl
   have e2:(bare u).of=[bare y]:=by show(u.mapR ji).of=_;rw[Zv h4];rfl
   rw[hb,e2]at e1
   exact(List.cons.inj e1).1.symm
theorem Zy:∀(n:Nat){both:Bool}{t u:TyD},(flowN both n t u).length≤2*n:=by
 intro n
 induction n with
 |zero=>intro both t u;exact Nat.zero_le _
 |succ n ih=>
  intro both t u
  rw[flowN,List.length_append]
  have h1:(if t.k=4 then(t.re,u.re)::(if both=true then [(u.re,t.re)]else [])else []).length≤2:=by
   split
   ·split<;>simp
   ·simp
  have h2:(match t.of,u.of with|x::_,y::_=>flowN (both||t.m) n x y|_,_=>[]).length≤2*n:=by
   split
   ·exact ih
   ·exact Nat.zero_le _
  omega
inductive Up(l:List CnD)(a:Int):Int→Prop
 |base:Up l a a
 |step {g s:Int}:Up l a s→(g,s)∈l→Up l a g
def VV(l:List CnD)(n:Int):Bool:=l.all λc=>(decide (0≤c.1)&&decide (0≤c.2))&&(decide (c.1<n)&&decide (c.2<n))
theorem Xr{l:List CnD}{n:Int}:VV l n=true↔∀c∈l,(0≤c.1∧0≤c.2)∧c.1<n∧c.2<n:=by
 rw[VV,List.all_eq_true]
 constructor
 ·intro h c hc
  have:=h c hc
  simpa only[Bool.and_eq_true,decide_eq_true_eq]using this
 ·intro h c hc
  have:=h c hc
  simpa only[Bool.and_eq_true,decide_eq_true_eq]using this
open Classical in
noncomputable def upL(l:List CnD)(n:Nat)(a:Int):List Int:=((List.range n).filter λ(x:Nat)=>decide (Up l a x)).map λ(x:Nat)=>(x:Int)
open Classical in
theorem ahB{l:List CnD}{x:Int}:x∈upL l n a↔(0≤x∧x<n)∧Up l a x:=by
 rw[upL,List.mem_map]
 constructor
 ·rintro⟨i,hi,rfl⟩
  rw[List.mem_filter,List.mem_range,decide_eq_true_eq]at hi
  exact⟨⟨Int.natCast_nonneg _,by omega⟩,hi.2⟩
 ·rintro⟨⟨h1,h2⟩,h3⟩
  refine⟨x.toNat,?_,by omega⟩
  rw[List.mem_filter,List.mem_range,decide_eq_true_eq,show ((x.toNat:Nat):Int)=x by omega]
  exact⟨by omega,h3⟩
theorem acL{l:List CnD}:(upL l n a).Pairwise (· < ·):=by
 rw[upL,List.pairwise_map]
 exact(List.pairwise_lt_range.filter _).imp λh=>by omega
theorem aep:[a].Nodup:=by simp
structure UpS(l:List CnD)(n:Nat)(a:Int)(out:List Int)(i:Nat):Prop where
 nd:out.Nodup
 sound:∀x∈out,(0≤x∧x<n)∧Up l a x
 first:a∈out
 le:i≤out.length
 done:∀c∈l,∀j<i,out[j]? = some c.2→c.1∈out
theorem UpS.start{l:List CnD}(h:0≤a∧a<n):UpS l n a [a] 0:=
 ⟨aep,λx hx=>by rw[List.mem_singleton.1 hx];exact⟨h,.base⟩,List.mem_singleton.2 rfl,Nat.zero_le _,λc _ j hj=>absurd hj (Nat.not_lt_zero _)⟩
theorem UpS.add{l:List CnD}{c:CnD}(hl:VV l n=true)(h:UpS l n a out i)(hc:c∈l)(hs:c.2∈out)(hn:c.1∉out):UpS l n a (out++[c.1]) i:=by
 refine⟨?_,λx hx=>?_,List.mem_append_left _ h.first,by have:=h.le;rw[List.length_append];omega,λd hd j hj hx=>?_⟩
 ·rw[List.nodup_append]
  exact⟨h.nd,aep,λx hx y hy=>by rw[List.mem_singleton.1 hy];rintro rfl;exact hn hx⟩
 ·rw[List.mem_append,List.mem_singleton]at hx
  rcases hx with hx|rfl
  ·exact h.sound x hx
  ·have:=Xr.1 hl _ hc
   exact⟨⟨this.1.1,this.2.1⟩,.step (h.sound _ hs).2 hc⟩
 ·have:=h.le
  rw[List.getElem?_append_left (by omega)]at hx
  exact List.mem_append_left _ (h.done d hd j hj hx)
theorem UpS.next{l:List CnD}(h:UpS l n a out i)(hi:i<out.length)(hd:∀c∈l,out[i]? = some c.2→c.1∈out):UpS l n a out (i+1):=
 ⟨h.nd,h.sound,h.first,hi,λc hc j hj hx=>by
  rcases Nat.lt_or_ge j i with h1|h1
  ·exact h.done c hc j h1 hx
  ·obtain rfl:j=i:=by omega
   exact hd c hc hx⟩
theorem UpS.few{l:List CnD}(h:UpS l n a out i):out.length≤n:=by
 have:=ahA h.nd (b:=(List.range n).map Int.ofNat) λx hx=>by
  have:=(h.sound x hx).1
  exact List.mem_map.2 ⟨x.toNat,List.mem_range.2 (by omega),by show((x.toNat:Nat):Int)=x;omega⟩
 simpa using this
theorem UpS.end{l:List CnD}(hl:VV l n=true)(h:UpS l n a out out.length)(x:Int):x∈out↔x∈upL l n a:=by
 rw[ahB]
 constructor
 ·exact h.sound x
 ·rintro⟨_,hu⟩
  induction hu with
  |base=>exact h.first
  |@step g s hs hm ih=>
   have hlt:=Xr.1 hl _ hm
   have hin:=ih ⟨hlt.1.2,hlt.2.2⟩
   obtain⟨j,hj,he⟩:=List.getElem_of_mem hin
   exact h.done _ hm j hj (by rw[gqg hj,he])
def afh(o:Int×Int):Int:=8*o.1+o.2
theorem agn{lv:Int}(hl:lv≤8):∀{a:Int×Int}{l:List (Int×Int)},Q9 (a::l)=true→(∀o∈a::l,yK lv o=true)→(l.length:Int)+afh a≤63
 |a,[],_,h=>by
  have:=h a List.mem_cons_self
  simp only[yK,Bool.not_eq_true',Bool.or_eq_false_iff,decide_eq_false_iff_not]at this
  simp only[afh,List.length_nil];omega
 |a,b::l,hr,h=>by
  rw[Q9,Bool.and_eq_true]at hr
  have ih:=agn hl hr.2 λo ho=>h o (List.mem_cons_of_mem _ ho)
  have h1:=h a List.mem_cons_self
  have h2:=h b (by simp)
  simp only[yK,Bool.not_eq_true',Bool.or_eq_false_iff,decide_eq_false_iff_not]at h1 h2
  have h3:=hr.1
  simp only[jM,Bool.or_eq_true,Bool.and_eq_true,decide_eq_true_eq]at h3
  simp only[afh,List.length_cons]at ih⊢
  omega
theorem abF{g:GrD}(h:xR g=true)(hl:g.lv≤8):g.outs.length≤64:=by
 simp only[xR,Bool.and_eq_true,List.all_eq_true]at h
 obtain⟨⟨h1,h2⟩,_⟩:=h
 cases ho:g.outs with
 |nil=>simp
 |cons a l=>
  rw[ho]at h1 h2
  have:=agn hl h2 h1
  have h3:=h1 a List.mem_cons_self
  simp only[yK,Bool.not_eq_true',Bool.or_eq_false_iff,decide_eq_false_iff_not]at h3
  simp only[afh,List.length_cons]at this⊢
  omega
end Go.Proofs
end
section
namespace Go.Proofs
def kE(o:OpD):Bool:=decide (o.k=3)||decide (o.k=4)
end Go.Proofs
end
section
namespace Go.Proofs
open Go.Sh
variable {t:TyD} {ss:List StD} {n:Int} {tys:List TyD} {p:PlD} {l:List CnD}
theorem acM(h:zH ss tys p≠none):zH ss [tys.getD p.l.toNat zA] ⟨0,p.ps⟩=zH ss tys p:=by
 unfold zH at h⊢
 by_cases ho:yi ss tys p=true
 ·have ho2:yi ss [tys.getD p.l.toNat zA] ⟨0,p.ps⟩=true:=by
   simp only[yi,Bool.and_eq_true,decide_eq_true_eq,List.all_eq_true]at ho⊢
   obtain⟨⟨⟨h1,h2⟩,h3⟩,h4,h5⟩:=ho
   have hlt:p.l.toNat<tys.length:=by omega
   have he:tys.getD p.l.toNat zA=tys[p.l.toNat]:=by rw[List.getD_eq_getElem?_getD,gqg hlt];rfl
   refine⟨⟨⟨Int.le_refl 0,by simp⟩,h3⟩,h4,λt ht=>?_⟩
   rw[List.mem_singleton.1 ht,he];exact h5 _ (List.getElem_mem hlt)
  rw[if_pos ho,if_pos ho2];rfl
 ·rw[if_neg ho]at h;exact absurd rfl h
noncomputable def yl(ss:List StD)(tys:List TyD)(p:PlD):TyD:=(yE ss [tys.getD p.l.toNat zA] ⟨0,p.ps⟩).1
theorem alV{u:UnD}{n:Int}{g:GrD}{fn:Nat}(hM:MayU u)(hH:HeadU u fn g)(ho:(zm u.ss g.tys p).2.2=true):
  yE u.ss (allD u g).tys p=(yl u.ss (allD u g).tys p,0)∧yE u.ss [(allD u g).tys.getD p.l.toNat zA] ⟨0,p.ps⟩=(yl u.ss (allD u g).tys p,0)∧isB (yl u.ss (allD u g).tys p)=true∧bare (yl u.ss (allD u g).tys p)=bare (zm u.ss g.tys p).1:=by
 obtain⟨x,h1,h2,h3,h4⟩:=ajQ (n:=n) hM hH ho
 have e:yE u.ss [(allD u g).tys.getD p.l.toNat zA] ⟨0,p.ps⟩=(x,0):=by
  rw[← h1,yE,yE,acM h4]
 have e2:yl u.ss (allD u g).tys p=x:=by rw[yl,e]
 rw[e2]
 exact⟨h1,e,h2,h3⟩
noncomputable def flO(ss:List StD)(tys:List TyD)(o:OpD)(t:TyD):List CnD:=if kE o=true then kc false (yl ss tys o.pl) t else []
def xy(f:Nat→TyD)(a:Int):Nat→List CnD
 |0=>[]
 |n+1=>if (f n).k≠4 then xy f a n else((f n).re,a)::(if(f n).m=true then xy f a n else [])
noncomputable def ptCn(u:UnD)(tys:List TyD)(p:PtD)(a:Int):List CnD:=
 if p.op=1 then flO u.ss tys p.a (yl u.ss tys p.to)
 else if p.op=5 then flO u.ss tys p.a ((yl u.ss tys p.to).of.headD zA)
 else if p.op=4 then kc false (.mk 4 p.mu a 0 [yl u.ss tys p.fr]) (yl u.ss tys p.to)++xy (λn=>yl u.ss tys ⟨p.fr.l,p.fr.ps.take n⟩) a p.fr.ps.length
 else if p.op=7 then(match u.fs[p.fn.toNat]? with
  |some f=>((p.args.zip (f.tys.drop 1)).flatMap λx=>flO u.ss tys x.1 (instT (max a 0) x.2))++kc false (instT (max a 0) (f.tys.headD zA)) (yl u.ss tys p.to)++f.outs.map λo=>(a+o.1,a+o.2)
  |none=>[])
 else []
theorem Z0{both:Bool}{u:TyD}:(kc both t u).length≤96:=Zy 48
theorem QS{o:OpD}:(flO ss tys o t).length≤96:=by
 rw[flO];split
 ·exact Z0
 ·exact Nat.zero_le _
theorem Jm{f:Nat→TyD}{a:Int}:∀{n:Nat},(xy f a n).length≤n
 |0=>Nat.le_refl _
 |n+1=>by
  have:=Jm (f:=f) (a:=a) (n:=n)
  rw[xy]
  split
  ·omega
  ·split<;>simp<;>omega
def ddF(acc:List CnD)(c:CnD):List CnD:=if c.1=c.2∨c∈acc then acc else acc++[c]
def ddL(l:List CnD):List CnD:=l.foldl ddF []
theorem Jn{c:CnD}:ddL (l++[c])=ddF (ddL l) c:=by rw[ddL,List.foldl_append];rfl
theorem adN{α:Type}{P:List α→Prop}(h0:P [])(h:∀l x,P l→P (l++[x]))(l:List α):P l:=by
 have key:∀m:List α,P m.reverse:=by
  intro m
  induction m with
  |nil=>exact h0
  |cons x m ih=>rw [List.reverse_cons];exact h _ _ ih
 have:=key l.reverse
 rwa[List.reverse_reverse]at this
theorem akW{c:CnD}:c∈ddL l↔c∈l∧c.1≠c.2:=by
 revert c
 refine adN (P:=λl=>∀{c:CnD},c∈ddL l↔c∈l∧c.1≠c.2) (by simp[ddL]) (λl d ih c=>?_) l
 rw[Jn,ddF]
 by_cases h:d.1=d.2∨d∈ddL l
 ·rw[if_pos h,ih,List.mem_append,List.mem_singleton]
  constructor
  ·rintro⟨h1,h2⟩;exact⟨.inl h1,h2⟩
  ·rintro⟨h1|rfl,h2⟩
   ·exact⟨h1,h2⟩
   ·rcases h with h|h
    ·exact absurd h h2
    ·exact ih.1 h
 ·rw[if_neg h,List.mem_append,ih,List.mem_append,List.mem_singleton]
  rw[not_or]at h
  constructor
  ·rintro(⟨h1,h2⟩|rfl)
   ·exact⟨.inl h1,h2⟩
   ·exact⟨.inr rfl,h.1⟩
  ·rintro⟨h1|rfl,h2⟩
   ·exact .inl ⟨h1,h2⟩
   ·exact .inr rfl
theorem adO:(ddL l).length≤l.length:=by
 refine adN (P:=λl=>(ddL l).length≤l.length) (Nat.le_refl _) (λl d ih=>?_) l
 rw[Jn,ddF,List.length_append,List.length_singleton]
 split
 ·omega
 ·rw[List.length_append,List.length_singleton];omega
def RIn(n:Int)(t:TyD):Prop:=∀x∈t.regs,0≤x∧x<n
theorem RIn.mono{m:Int}(h:RIn n t)(hm:n≤m):RIn m t:=λx hx=>⟨(h x hx).1,by have:=(h x hx).2;omega⟩
theorem RIn.zero:RIn n zA:=λx hx=>by cases hx
theorem aig(h:(zz ss).2=0){k:Int}(ht:t∈ze ss k):t.regs=[]:=by
 obtain⟨_,hb,_⟩:=xj h
 by_cases hk:k.toNat<ss.length
 ·have:=hb k.toNat hk
  have e:ze ss (k.toNat:Int)=ze ss k:=by rw[ze,ze,tnc]
  rw[xa,e,Bool.or_eq_false_iff]at this
  have:=List.any_eq_false.1 this.2 t ht
  simp only[Bool.or_eq_true,Bool.not_eq_true',not_or,decide_eq_true_eq]at this
  exact List.eq_nil_of_length_eq_zero (by omega)
 ·rw[Vo hk]at ht;cases ht
theorem aas{u:TyD}(h:t.of.head? = some u):∀x∈u.regs,x∈t.regs:=λx hx=>by
 rw[TyD.regs_eq]
 refine List.mem_append_right _ ?_
 cases ho:t.of with
 |nil=>rw [ho]at h;cases h
 |cons a l=>rw [ho]at h;cases h;exact hx
theorem ai2(h:(zz ss).2=0){k:Int}{s:TyD×Int}(e:zF ss t k=some s):∀x∈s.1.regs,x∈t.regs:=by
 unfold zF at e
 have ins:∀{n:Int},t.of.head?.map (λu=>(u,n))=some s→∀x∈s.1.regs,x∈t.regs:=by
  intro n e
  cases ho:t.of.head? with
  |none=>rw [ho]at e;cases e
  |some u=>rw [ho]at e;cases e;exact aas ho
 split at e
 ·exact ins e
 split at e
 ·exact ins e
 split at e
 ·cases hu:(ze ss t.st)[k.toNat]? with
  |none=>rw [hu]at e;cases e
  |some u=>
   rw[hu]at e;cases e
   intro x hx
   rw[show (u,(0:Int)).1=u from rfl,aig h (List.mem_of_getElem? hu)]at hx
   cases hx
 ·cases e
theorem aeq{ss:List StD}(h:(zz ss).2=0):∀{l:List Int}{t:TyD}{x:TyD×List Int},zD ss l t=some x→∀y∈x.1.regs,y∈t.regs
 |[],t,x,e=>by cases e;exactλy hy=>hy
 |k::l,t,x,e=>by
  rw[zD]at e
  cases hs:zF ss t k with
  |none=>rw [hs]at e;cases e
  |some s=>
   rw[hs]at e
   have e:(zD ss l s.1).map (λx=>(x.1,s.2::x.2))=some x:=e
   cases hw:zD ss l s.1 with
   |none=>rw [hw]at e;cases e
   |some y=>
    rw[hw]at e;cases e
    exactλz hz=>ai2 h hs z (aeq h hw z hz)
theorem akX(h:∀t∈tys,RIn n t):RIn n (yl ss tys p):=by
 rw[yl,yE]
 split
 ·rename_i x hx
  unfold zH at hx
  split at hx
  ·rename_i ho
   simp only[yi,Bool.and_eq_true,decide_eq_true_eq]at ho
   intro y hy
   have hm:=aeq ho.2.1 hx y hy
   have e:([tys.getD p.l.toNat zA].getD (0:Int).toNat zA)=tys.getD p.l.toNat zA:=rfl
   rw[e]at hm
   by_cases hl:p.l.toNat<tys.length
   ·rw[List.getD_eq_getElem?_getD,gqg hl]at hm
    exact h _ (List.getElem_mem hl) y hm
   ·rw[List.getD_eq_getElem?_getD,List.getElem?_eq_none (by omega)]at hm
    cases hm
  ·cases hx
 ·exact RIn.zero
theorem adP{m s:Int}:∀(n:Nat){both:Bool}{t u:TyD},zr s n t=true→zr s n u=true→bare t=bare u→RIn m t→RIn m u→∀c∈flowN both n t u,(0≤c.1∧c.1<m)∧0≤c.2∧c.2<m:=by
 intro n
 induction n with
 |zero=>intro both t u h;cases h
 |succ n ih=>
  intro both t u ht hu hb rt ru c hc
  obtain⟨hk,_,_⟩:=VU hb
  rcases ZZ ht hu hb with⟨h1,h2,h3⟩|⟨x,y,h1,h2,h3,h4,h5⟩
  ·rw[VT h1 h3]at hc;cases hc
  ·rw[XZ h1 h2,List.mem_append]at hc
   rcases hc with hc|hc
   ·split at hc
    ·rename_i k4
     have a1:=rt t.re (by rw[xw h1,if_pos k4];simp)
     have a2:=ru u.re (by rw[xw h2,if_pos (by omega)];simp)
     rcases List.mem_cons.1 hc with rfl|hc
     ·exact⟨a1,a2⟩
     ·split at hc
      ·rw[List.mem_singleton.1 hc];exact⟨a2,a1⟩
      ·cases hc
    ·cases hc
   ·exact ih h3 h4 h5 (λz hz=>rt z (aas (by rw[h1];rfl) z hz)) (λz hz=>ru z (aas (by rw[h2];rfl) z hz)) c hc
theorem ahC:∀{l:List Int}{i:Nat}(h:i<l.length),l[i]<0→z6 (l.take i)<z6 l
 |[],_,h,_=>absurd h (Nat.not_lt_zero _)
 |a::l,0,h,hn=>by
  have hn:a<0:=hn
  have:=(jj l).1
  rw[List.take_zero,z6,z6,if_pos hn];omega
 |a::l,i+1,h,hn=>by
  have:=ahC (l:=l) (i:=i) (by simpa using h) (by simpa using hn)
  rw[List.take_succ_cons,z6,z6];omega
theorem alW{u:UnD}{g:GrD}{fn:Nat}(hM:MayU u)(hH:HeadU u fn g):∀t∈(allD u g).tys,RIn (g.lv+zI g.tys) t:=by
 intro t ht
 obtain⟨i,hi,rfl⟩:=List.getElem_of_mem ht
 have hi2:i<g.tys.length:=by rwa[(yj (u:=u) (g:=g)).1]at hi
 have e:(allD u g).tys[i]=g.tys[i].lay (yC (regsT g.tys[i]) (g.lv+zI (g.tys.take i))):=aap hi2
 rw[e]
 have hff:=hH.fine hM.ok
 have hB:=(hff.all _ (List.getElem_mem hi2)).is hff.few
 have hr:=hH.regs (List.getElem_mem hi2)
 have hrT:regsT g.tys[i]=g.tys[i].regs:=by rw[regsT,hB];rfl
 rw[hrT]at hr⊢
 have h1:=VA hi2
 have h2:=aiO g.tys (i+1)
 have h3:=xx (g.tys.take i)
 have h0:=hH.lv0
 rw[hrT]at h1
 generalize g.tys[i]=t at *
 intro x hx
 rw[Vz 48 hB (kX _ _)]at hx
 obtain⟨j,hj,rfl⟩:=List.getElem_of_mem hx
 rw[kX]at hj
 rw[aao hj]
 have hrj:=hr _ (List.getElem_mem hj)
 have h4:=(jj (t.regs.take j)).1
 have h5:=(jj t.regs).1
 split
 ·rename_i hn
  have:=ahC hj hn
  omega
 ·omega
end Go.Proofs
end
section
namespace Go.BM
open Go.Sh
variable {ws:List (BitVec 64)} {W:Int}
def bit(ws:List (BitVec 64))(k:Nat):Bool:=(ws.getD (k/64) 0).getLsbD (k%64)
def May(W:Int)(ws:List (BitVec 64)):Prop:=0≤W∧W≤1032∧(ws.length:Int)=(W+63)/64∧∀k:Nat,W≤(k:Int)→k<64*ws.length→bit ws k=false
noncomputable def mayB(W:Int)(ws:List (BitVec 64)):Bool:=@decide (May W ws) (Classical.propDecidable _)
theorem ajX:mayB W ws=true↔May W ws:=by simp[mayB]
theorem mayB_true(h:May W ws):mayB W ws=true:=ajX.2 h
theorem mayB_false(h:¬May W ws):mayB W ws=false:=by simpa [mayB]using h
theorem ajY{i:Nat}(hi:i<ws.length)(j:Nat)(hj:j<64):bit ws (64*i+j)=ws[i].getLsbD j:=by
 have h1:(64*i+j)/64=i:=by omega
 have h2:(64*i+j)%64=j:=by omega
 simp[bit,h1,h2,List.getD_eq_getElem?_getD,hi]
theorem ajZ(h0:0≤W)(h1:W≤1032)(hl:(ws.length:Int)=(W+63)/64)(hm:¬W%64=0)(hlt:ws.length-1<ws.length):
  May W ws↔ws[ws.length-1] >>> (W%64).toNat=0#64:=by
 have hp:ws.length=(W.toNat+63)/64:=by omega
 constructor
 ·rintro⟨_,_,_,hb⟩
  apply BitVec.eq_of_getLsbD_eq
  intro i hi
  rw[BitVec.getLsbD_ushiftRight,BitVec.getLsbD_zero]
  by_cases hi':(W%64).toNat+i<64
  ·have:=hb (64*(ws.length-1)+((W%64).toNat+i)) (by omega) (by omega)
   rwa[ajY hlt _ hi']at this
  ·exact BitVec.getLsbD_of_ge _ _ (by omega)
 ·intro hz
  refine⟨h0,h1,hl,λk hk hk'=>?_⟩
  have h2:k/64=ws.length-1:=by omega
  have h3:k%64=(W%64).toNat+(k%64-(W%64).toNat):=by omega
  have h4:bit ws k=ws[ws.length-1].getLsbD (k%64):=by
   simp[bit,h2,List.getD_eq_getElem?_getD,hlt]
  rw[h4,h3,← BitVec.getLsbD_ushiftRight,hz];simp
theorem aj0(h0:0≤W)(h1:W≤1032)(hl:(ws.length:Int)=(W+63)/64)(hm:W%64=0):May W ws:=
 ⟨h0,h1,hl,λk hk hk'=>by omega⟩
def YM(x:BitVec 64):List Nat:=(List.range 64).filter x.getLsbD
theorem akY(x:BitVec 64)(n m:Nat)(h:2 ^ n=m):(x >>> n).toNat=x.toNat/m:=by
 rw[BitVec.toNat_ushiftRight,Nat.shiftRight_eq_div_pow,h]
theorem aih:YM 0#64=[]:=by decide
theorem akZ{x:BitVec 64}(h:x≠0#64):∃t,t<64∧(x &&& -x).toNat=2 ^ t∧YM x=t::YM (x &&& (x-BitVec.ofInt 64 1)):=by
 have h0:0<x.toNat:=by
  rcases Nat.eq_zero_or_pos x.toNat with h1|h1
  ·exact absurd (BitVec.eq_of_toNat_eq h1) h
  ·exact h1
 obtain⟨m,hm,ht⟩:=Lib.ctzFrom_spec 64 x.toNat h0 x.isLt
 generalize Lib.ctzFrom 64 x.toNat=t at hm ht
 have hand:=Lib.and_neg 64 t m (by rw[← hm];exact x.isLt)
 rw[← hm]at hand
 have hlt:∀j,j<t→x.getLsbD j=false:=λj hj=>by
  show x.toNat.testBit j=false
  rw[hm,Nat.testBit_two_pow_mul];simp;omega
 have hge:∀j,x.getLsbD (t+j)=(2*m+1).testBit j:=λj=>by
  show x.toNat.testBit (t+j)=_
  rw[hm,Nat.testBit_two_pow_mul];simp
 have hpos:0<2 ^ t:=Nat.two_pow_pos t
 have hsub:(x-BitVec.ofInt 64 1).toNat=2 ^ t*(2*m)+(2 ^ t-1):=by
  rw[show BitVec.ofInt 64 1=1#64 from rfl,BitVec.toNat_sub_of_le (by show(1#64).toNat≤x.toNat;exact h0),hm]
  have :2 ^ t*(2*m+1)=2 ^ t*(2*m)+2 ^ t:=by rw[Nat.mul_add,Nat.mul_one]
  show 2 ^ t*(2*m+1)-1=_
  omega
 have hsge:∀j,(x-BitVec.ofInt 64 1).getLsbD (t+j)=(2*m).testBit j:=λj=>by
  show(x-BitVec.ofInt 64 1).toNat.testBit (t+j)=_
  rw[hsub,Nat.testBit_two_pow_mul_add _ (i:=t) (by omega),if_neg (by omega),Nat.add_sub_cancel_left]
 refine⟨t,ht,?_,?_⟩
 ·rw[BitVec.toNat_and,BitVec.toNat_neg]
  have :(2 ^ 64-x.toNat)%2 ^ 64=2 ^ 64-x.toNat:=Nat.mod_eq_of_lt (by have:=x.isLt;omega)
  rw[this];exact hand
 ·unfold YM
  have hr:List.range 64=List.range t++(t::List.range' (t+1) (63-t)):=by
   rw[List.range_eq_range',List.range_eq_range',← List.range'_succ]
   rw[show 63-t+1=64-t by omega]
   have:=List.range'_append (s:=0) (m:=t) (n:=64-t) (step:=1)
   simp only[Nat.one_mul,Nat.zero_add]at this
   rw[this,show t+(64-t)=64 by omega]
  have hxt:x.getLsbD t=true:=by have:=hge 0;simpa [Nat.testBit_zero]using this
  have hst:(x &&& (x-BitVec.ofInt 64 1)).getLsbD t=false:=by
   rw[BitVec.getLsbD_and];have:=hsge 0;rw[Nat.add_zero]at this;rw[this];simp[Nat.testBit_zero]
  have hA:∀z:BitVec 64,(∀j,j<t→z.getLsbD j=false)→(List.range t).filter z.getLsbD=[]:=λz hz=>by
   rw[List.filter_eq_nil_iff];intro j hj;rw[hz j (List.mem_range.1 hj)];simp
  rw[hr,List.filter_append,List.filter_append,hA x hlt,hA _ (λj hj=>by rw[BitVec.getLsbD_and,hlt j hj];rfl),List.nil_append,List.nil_append,
   List.filter_cons,List.filter_cons,hxt,hst]
  simp only[if_true,Bool.false_eq_true,if_false,List.cons.injEq,true_and]
  apply List.filter_congr
  intro j hj
  obtain⟨i,hi⟩:∃i,j=t+(i+1):=⟨j-t-1,by have:=(List.mem_range'_1.1 hj).1;omega⟩
  subst hi
  rw[BitVec.getLsbD_and,hge,hsge,Nat.testBit_succ,Nat.testBit_succ,show (2*m+1)/2=m by omega,show 2*m/2=m by omega]
  cases m.testBit i<;>rfl
theorem aj1{t:Nat}(ht:t<64){x:BitVec 64}(hx:x.toNat=2 ^ t):
  ((x*BitVec.ofNat 64 285870213051353865) >>> 58).toNat<64∧Lib.deBruijn64tab.getD ((x*BitVec.ofNat 64 285870213051353865) >>> 58).toNat 0=t:=by
 have h:=Lib.deBruijn64_at t ht
 have e:((x*BitVec.ofNat 64 285870213051353865) >>> 58).toNat=2 ^ t*285870213051353865%18446744073709551616/288230376151711744:=by
  rw[akY _ 58 288230376151711744 (by decide),BitVec.toNat_mul,hx];rfl
 rw[e];exact h
def qY:Nat→List (BitVec 64)→List Nat
 |_,[]=>[]
 |i,x::ws=>(YM x).map (64*i + ·)++qY (i+1) ws
def Xs(ws:List (BitVec 64)):List Nat:=qY 0 ws
theorem ae1{i:Nat}(hi:i<ws.length)(k:Nat):
  qY k (ws.drop i)=(YM ws[i]).map (64*k + ·)++qY (k+1) (ws.drop (i+1)):=by
 rw[List.drop_eq_getElem_cons hi];rfl
theorem abG(p:Nat→Bool)(a n:Nat):((List.range n).filter λj=>p (a+j)).map (a + ·)=(List.range' a n).filter p:=by
 rw[List.range'_eq_map_range,List.filter_map];rfl
theorem X0:∀(ws:List (BitVec 64))(i:Nat)(p:Nat→Bool),(∀k,k<64*ws.length→p (64*i+k)=bit ws k)→qY i ws=(List.range' (64*i) (64*ws.length)).filter p
 |[],_,_,_=>rfl
 |x::ws,i,p,h=>by
  rw[qY,X0 ws (i+1) p (λk hk=>by
   have:=h (64+k) (by simp;omega)
   rw[show 64*i+(64+k)=64*(i+1)+k by omega]at this
   rw[this,bit,bit,show (64+k)/64=k/64+1 by omega,show (64+k)%64=k%64 by omega];rfl)]
  have h1:(YM x).map (64*i + ·)=(List.range' (64*i) 64).filter p:=by
   rw[← abG]
   congr 1
   apply List.filter_congr
   intro j hj
   have hj:=List.mem_range.1 hj
   rw[h j (by simp;omega),bit,show j/64=0 by omega,show j%64=j by omega];rfl
  rw[h1,← List.filter_append]
  congr 1
theorem ae2(ws:List (BitVec 64)):Xs ws=(List.range (64*ws.length)).filter (bit ws):=by
 rw[Xs,X0 ws 0 (bit ws) (λk _=>by rw[Nat.mul_zero,Nat.zero_add]),List.range_eq_range']
theorem aii(h:May W ws):Xs ws=(List.range W.toNat).filter (bit ws):=by
 obtain⟨h0,h1,h2,h3⟩:=h
 rw[ae2,show 64*ws.length=W.toNat+(64*ws.length-W.toNat)by omega,List.range_add,List.filter_append]
 have :((List.range (64*ws.length-W.toNat)).map (W.toNat + ·)).filter (bit ws)=[]:=by
  rw[List.filter_eq_nil_iff]
  intro k hk
  obtain⟨j,hj,rfl⟩:=List.mem_map.1 hk
  have:=List.mem_range.1 hj
  rw[h3 (W.toNat+j) (by omega) (by omega)];simp
 rw[this,List.append_nil]
theorem ago(g:BitVec 64→BitVec 64→BitVec 64)(hg:g 0 0=0):∀(a b:List (BitVec 64))(i:Nat),a.length=b.length→(List.zipWith g a b).getD i 0=g (a.getD i 0) (b.getD i 0)
 |[],[],i,_=>by simpa using hg.symm
 |[],_::_,_,h=>by simp at h
 |_::_,[],_,h=>by simp at h
 |x::a,y::b,0,_=>rfl
 |x::a,y::b,i+1,h=>by
  have:=ago g hg a b i (by simpa using h)
  simpa [List.zipWith_cons_cons]using this
theorem ahD{g:BitVec 64→BitVec 64→BitVec 64}{h:Bool→Bool→Bool}(hg:∀x y j,j<64→(g x y).getLsbD j=h (x.getLsbD j) (y.getLsbD j))(h0:g 0 0=0)
  {a b:List (BitVec 64)} (hl:a.length=b.length) (k:Nat):bit (List.zipWith g a b) k=h (bit a k) (bit b k):=by
 rw[bit,ago g h0 a b _ hl,hg _ _ _ (by omega)];rfl
theorem ak0{g:BitVec 64→BitVec 64→BitVec 64}{h:Bool→Bool→Bool}(hg:∀x y j,j<64→(g x y).getLsbD j=h (x.getLsbD j) (y.getLsbD j))(h0:g 0 0=0)(hh:h false false=false)
  {W:Int} {a b:List (BitVec 64)} (ha:May W a) (hb:May W b):May W (List.zipWith g a b):=by
 have hl:a.length=b.length:=by have:=ha.2.2.1;have:=hb.2.2.1;omega
 refine⟨ha.1,ha.2.1,?_,λk hk hk'=>?_⟩
 ·rw[List.length_zipWith,hl,Nat.min_self];exact hb.2.2.1
 ·rw[List.length_zipWith,hl,Nat.min_self]at hk'
  rw[ahD hg h0 hl,ha.2.2.2 k hk (by omega),hb.2.2.2 k hk (by omega),hh]
theorem agp(x y:BitVec 64)(j:Nat)(hj:j<64):(x &&& ~~~ y).getLsbD j=(x.getLsbD j && !y.getLsbD j):=by
 rw[BitVec.getLsbD_and,BitVec.getLsbD_not];simp[hj]
end Go.BM
end
section
namespace Go.Proofs
theorem aj2{ss:List StD}{tys:List TyD}{p:PlD}(h:(zm ss tys p).2.2=true):0≤p.l∧p.l<(tys.length:Int):=by
 unfold zm at h
 split at h
 ·rename_i s hs
  by_cases h0:p.l<0
  ·rw[if_pos h0]at hs;cases hs
  ·rw[if_neg h0]at hs
   cases ht:tys[p.l.toNat]? with
   |none=>rw [ht]at hs;cases hs
   |some t=>
    have:=(List.getElem?_eq_some_iff.1 ht).1
    omega
 ·cases h
end Go.Proofs
end
section
namespace Go.Proofs
open Go.Sh Go.BM
end Go.Proofs
end
section
namespace Go.Sh
open Go.RowKit
section
variable {P:Program} {X:Nat→Prop} {w0 w:World} {r:Gh} {L:List Asr} {e:TypeId} {sz m:Nat} {xs:List Value} {g:Asr→List Asr}
theorem StX.rowCellM(S:StX X w0 r w L)(v:Value)[h:kO v L e sz m xs g](hm:m≠0):
  ∃b cap c,v=.slice (some ⟨b,0,none⟩) m cap∧m≤cap∧cap≤maxLen∧c.length=cap*sz∧c.take (m*sz)=xs∧StX X w0 r w (g (.cell b c e)):=by
 obtain⟨pp,qq,h2,h3⟩:=h.h
 have hr:=S.has (.row v e sz m xs) (by rw[h2];simp)
 rcases kp hr with⟨_,h0,_⟩|⟨b,cap,c,rfl,hb,B,hn,hx,hc,ht⟩
 ·exact absurd h0 hm
 ·refine⟨b,cap,c,rfl,hn,hx,hc,ht,?_⟩
  rw[h3]
  rw[h2]at S
  exact S.turn (x:=.row _ e sz m xs) (y:=.cell b c e) (ExtBut.refl _ _) B λk hk=>.inl (by cases hk;rfl)
end
end Go.Sh
end
section
namespace Go.Proofs.Tryz
open Go.Sh
def qL(t0 t1:Value)(w:World)(K:VW):Prop:=
 ca kf #[t0,t1] w λt7 w1=>
 bt .geq 3 t7 (i6 0) λt8=>K t8 w1
theorem Yj{t0 t1:Value}{w:World}{K:VW}(h:qL t0 t1 w K):zd prog xC #[t0,t1] w K:=
 okC false (.s (.r (rz 1 0 0)) (.s (.r (rz 5 0 32)) (.n))) func68 rfl (by kernel_rfl) (by kernel_rfl) h
def jB(t0 t1:Value)(w:World)(K:VW):Prop:=
 pp (Builtin.len_ #[55] 3 #[t0]) λt7=>zp [(i6 0)] w (λs2 _d3 w4 K1=>
 bf .lss 3 (s2.getD 0 u_) t7 λt9=>zc t9 (xl w4 55 t0 (s2.getD 0 u_) 3 λt15=>bf .eql 3 t1 t15 λt16=>zc t16 (K (s2.getD 0 u_) w4) (bt .add 3 (s2.getD 0 u_) (i6 1) λt18=>K1 [t18] w4)) (K (i6 (-1)) w4))
theorem XA{t0 t1:Value}{w:World}{K:VW}(h:jB t0 t1 w K):zd prog kf #[t0,t1] w K:=
 okC false (.s (.r (rz 1 0 0)) (.s (.s (.r (rz 3 0 0)) (.b (.lp [8] (.s (.r (rz 1 0 0)) (.s (.c (.n) (.n)) (.s (.b (.s (.r (rz 2 0 0)) (.s (.r (rz 6 0 256)) (.c (.s (.r (rz 2 0 0)) (.n)) (.n))))) (.r (rz 2 0 0)))))))) (.s (.r (rz 1 0 0)) (.n)))) func130 rfl (by kernel_rfl) (by kernel_rfl) h
end Go.Proofs.Tryz
end
section
namespace Go.Proofs
open Go.Sh Go.RowKit
variable {l:List Int} {r:Gh} {p:Option Addr} {K:Value→World→Prop}
def bls(m:List Bool):List Value:=m.map Value.bool
theorem ak1{m:List Bool}:(bls m).length=m.length:=List.length_map _
theorem Qq:RowOf 1 xD (ints l) l:=⟨by rw[xf,Nat.mul_one],λj hj=>by
 rw[Nat.mul_one,ints,← List.map_drop,← List.map_take,List.drop_eq_getElem_cons hj];rfl⟩
theorem ai3{α:Type}{V:α→Value}{n cap:Nat}{l:List α}(h:SlG 1 r (λc x=>c=[V x]) (.slice p n cap) l){i:Nat}(hi:i<l.length):
  ∃b off,p=some ⟨b,off,none⟩∧n=l.length∧Ob r λw=>w.cell? ⟨b,off+i,none⟩=some (V l[i]):=by
 have hsh:=h.shape
 obtain⟨p',cap',e,_,_⟩:=hsh
 obtain⟨b,off,c,hE,hc,hcc,hcl⟩:=h.get (by decide) hi
 obtain rfl:c=_:=hcc
 cases e
 cases hE
 refine⟨b,off,rfl,rfl,?_⟩
 have:=hcl 0 _ rfl
 rwa[show off+i*1+0=off+i by omega]at this
theorem vi{n cap:Nat}(h:SlG 1 r xD (.slice p n cap) l){i:Nat}(hi:i<l.length):∃b off,p=some ⟨b,off,none⟩∧n=l.length∧Ob r λw=>w.cell? ⟨b,off+i,none⟩=some (.int .i64 l[i]):=ai3 (V:=Value.int .i64) h hi
theorem ag5{x:Int}{v:Value}{w:World}{K:Value→World→Prop}(hr:Holds r w)(hl:SlG 1 r xD v l)(hf:l.length≤maxLen)
  (h:∀i:Int,(0≤i↔x∈l)→K (.int .i64 i) w):zd Tryz.prog Tryz.kf #[v,.int .i64 x] w K:=by
 refine Tryz.XA ?_
 unfold Tryz.jB
 obtain⟨p,cap,rfl,_,_⟩:=hl.shape
 have hf:l.length≤9223372036854775807:=hf
 refine gp_ ?_
 refine zi (ι:=Nat) (λi=>[.int .i64 (i:Nat)]) (λi w'=>w'=w∧i≤l.length∧x∉l.take i) (λi=>l.length-i) 0 rfl ⟨rfl,Nat.zero_le _,by simp⟩ ?_
 rintro i d w' ⟨rfl,hi,hn⟩ K1 hK1
 simp only[gdz]
 refine gp_ ?_
 refine zj (λhlt=>?_) (λhge=>?_)
 ·have hlt:i<l.length:=by omega
  obtain⟨b,off,rfl,_,hc⟩:=vi hl hlt
  refine gp_ ?_
  refine zg (by rw[tnc];exact hc _ hr) ?_
  refine gp_ ?_
  refine zj (λhe=>?_) (λhe=>?_)
  ·exact h _ ⟨λ_=>by rw[he];exact List.getElem_mem hlt,λ_=>Int.natCast_nonneg _⟩
  ·refine gp_ ?_
   refine hK1 (i+1) _ ⟨rfl,hlt,?_⟩ (by omega)
   rw[List.take_succ_eq_append_getElem hlt,List.mem_append,List.mem_singleton]
   exactλh=>h.elim hn he
 ·have :i=l.length:=by omega
  subst this
  rw[List.take_length]at hn
  exact h _ ⟨λh=>by omega,λh=>absurd h hn⟩
theorem adQ{x:Int}{v:Value}{w:World}{K:Value→World→Prop}(hr:Holds r w)(hl:SlG 1 r xD v l)(hf:l.length≤maxLen)
  (h:K (.bool (decide (x∈l))) w):zd Tryz.prog Tryz.xC #[v,.int .i64 x] w K:=by
 refine Tryz.Yj ?_
 unfold Tryz.qL
 refine ag5 hr hl hf λi hi=>?_
 refine gp_ ?_
 have e:decide (0≤i)=decide (x∈l):=by
  rw[decide_eq_decide];exact hi
 rw[e];exact h
end Go.Proofs
end
section
namespace Go.Proofs.Tryz
open Go.Sh
end Go.Proofs.Tryz
end
section
namespace Go.Proofs
open Go.Sh Go.RowKit
variable {m:List Bool}
theorem ak2{q:Int}(h:0≤q):(bls m).set (0+q.toNat) (.bool true)=bls (alT m q):=by
 rw[Nat.zero_add,bls,bls,alT,List.map_set]
theorem alX{q:Int}(h:q.toNat<m.length):(bls m)[0+q.toNat]? = some (.bool (mk' m q)):=by
 rw[Nat.zero_add,bls,List.getElem?_map,mk',List.getD_eq_getElem?_getD,gqg h];rfl
theorem ak3{k:Nat}:List.replicate k (Value.bool false)=bls (List.replicate k false):=by simp[bls]
end Go.Proofs
end
section
namespace Go.Sh
end Go.Sh
namespace Go.Proofs
open Go.Sh Go.RowKit
set_option maxRecDepth 100000
end Go.Proofs
end
section
namespace Go.Proofs
open Go.Sh Go.RowKit
end Go.Proofs
end
section
namespace Go.Proofs.Tryz
open Go.Sh
def xh(t0 t1:Value)(w:World)(K:VW):Prop:=
 ca yH #[t0,t1] w λt7 w1=>
 bt .geq 3 t7 (i6 0) λt8=>K t8 w1
theorem qF{t0 t1:Value}{w:World}{K:VW}(h:xh t0 t1 w K):zd prog yr #[t0,t1] w K:=
 okC false (.s (.r (rz 1 0 0)) (.s (.r (rz 5 0 32)) (.n))) func61 rfl (by kernel_rfl) (by kernel_rfl) h
def xB(t0 t1:Value)(w:World)(K:VW):Prop:=
 pp (Builtin.len_ #[44] 3 #[t0]) λt7=>zp [(i6 0)] w (λs2 _d3 w4 K1=>
 bf .lss 3 (s2.getD 0 u_) t7 λt9=>zc t9 (xl w4 44 t0 (s2.getD 0 u_) 48 λt15=>cv t1 #[t15] w4 λt16 w5=>
 zc t16 (K (s2.getD 0 u_) w5) (bt .add 3 (s2.getD 0 u_) (i6 1) λt18=>K1 [t18] w5)) (K (i6 (-1)) w4))
theorem jm{t0 t1:Value}{w:World}{K:VW}(h:xB t0 t1 w K):zd prog yH #[t0,t1] w K:=
 okC false (.s (.r (rz 1 0 0)) (.s (.s (.r (rz 3 0 0)) (.b (.lp [8] (.s (.r (rz 1 0 0)) (.s (.c (.n) (.n)) (.s (.b (.s (.r (rz 2 0 0)) (.s (.r (rz 6 0 2304)) (.c (.s (.r (rz 2 0 0)) (.n)) (.n))))) (.r (rz 2 0 0)))))))) (.s (.r (rz 1 0 0)) (.n)))) func125 rfl (by kernel_rfl) (by kernel_rfl) h
end Go.Proofs.Tryz
end
section
namespace Go.Proofs
open Go.Sh Go.RowKit
end Go.Proofs
end
section
namespace Go.Sh
open Go.RowKit
section
variable {P:Program} {X:Nat→Prop} {w0 w w':World} {r:Gh} {L:List Asr} {D D2:Nat→Prop} {n:Nat}
end
end Go.Sh
end
section
namespace Go.Proofs
open Go.Sh Go.RowKit
end Go.Proofs
end
section
namespace Go.Proofs.Tryz
open Go.Sh
def acN(t0:Value)(w:World)(K:VW):Prop:=
 pw w (Instr.box 48 t0) λt1 w1=>
 fl w1 t1 48 0 3 λt4=>bt .lss 3 t4 (i6 0) λt5=>za (λK2=>gIf t5 false (fl w1 t1 48 0 3 λt8=>bt .gtr 3 t8 (i6 1032) λt9=>K2 [t9] w1) (K2 [u_] w1)) (λs3 _d4 w5=>
 zb t5 tr_ (s3.getD 0 u_) λt10=>za (λK6=>gIf t10 false (fl w5 t1 48 1 46 λt13=>pp (Builtin.len_ #[46] 3 #[t13]) λt14=>fl w5 t1 48 0 3 λt16=>bt .add 3 t16 (i6 63) λt17=>bt .quo 3 t17 (i6 64) λt18=>bf .neq 3 t14 t18 λt19=>K6 [t19] w5) (K6 [u_] w5)) (λs7 _d8 w9=>
 zb t10 tr_ (s7.getD 0 u_) λt20=>zc t20 (K fa_ w9) (fl w9.drew t1 48 0 3 λt22=>bt .rem 3 t22 (i6 64) λt23=>bt .eql 3 t23 (i6 0) λt24=>za (λK10=>gIf t24 false (fl w9.drew t1 48 1 46 λt27=>fl w9.drew t1 48 1 46 λt29=>pp (Builtin.len_ #[46] 3 #[t29]) λt30=>bt .sub 3 t30 (i6 1) λt31=>xl w9.drew 46 t27 t31 205 λt33=>fl w9.drew t1 48 0 3 λt35=>bt .rem 3 t35 (i6 64) λt36=>bf .shr 205 t33 t36 λt37=>bt .eql 205 t37 (Value.int .u64 0) λt38=>K10 [t38] w9.drew) (K10 [u_] w9.drew)) (λs11 _d12 w13=>
 zb t24 tr_ (s11.getD 0 u_) λt39=>K t39 w13))))
theorem ag6{t0:Value}{w:World}{K:VW}(h:acN t0 w K):zd prog jc #[t0] w K:=
 okC false (.s (.r (rz 2 0 2)) (.s (.s (.r (ra 4 0 4 (.grp 6 false (ri 3 4 4) [9] (ra 2 7 0 (.grp 11 false (ri 8 9 260) [19] (rz 1 17 0)))))) (.c (.s (.r (rz 1 0 0)) (.n)) (.n))) (.s (.r (ra 5 0 4 (.grp 25 false (ri 13 5 278596) [38] (rz 2 18 0)))) (.n)))) func63 rfl (by kernel_rfl) (by kernel_rfl) h
end Go.Proofs.Tryz
end
section
namespace Go.Proofs
open Go.Sh Go.RowKit Go.BM
variable {r:Gh} {c:List Value}
def WdC(c:List Value)(x:BitVec 64):Prop:=c=[u64 x]
def RwbC(r:Gh)(c:List Value)(x:Int×List (BitVec 64)):Prop:=∃p cap,c=[.int .i64 x.1,.slice p x.2.length cap]∧SlB 1 r WdC (.slice p x.2.length cap) x.2
theorem RwbC.up{s:Gh}{x:Int×List (BitVec 64)}(h:RwbC r c x)[le:Le r s]:RwbC s c x:=by
 obtain⟨p,cap,h1,h2⟩:=h;exact⟨p,cap,h1,h2.cells⟩
theorem acO{p:Option Addr}{n cap:Nat}{l:List (BitVec 64)}(h:SlG 1 r WdC (.slice p n cap) l){i:Nat}(hi:i<l.length):∃b off,p=some ⟨b,off,none⟩∧n=l.length∧Ob r λw=>w.cell? ⟨b,off+i,none⟩=some (u64 l[i]):=ai3 (V:=u64) h hi
theorem YN{W:Int}{ws:List (BitVec 64)}{w:World}{K:Value→World→Prop}(hr:Holds r w)(hx:RwbC r c (W,ws))
  (h:∀w',Ext w w'→K (.bool (BM.mayB W ws)) w'):zd Tryz.prog Tryz.jc #[.agg c.toArray] w K:=by
 refine Tryz.ag6 ?_
 unfold Tryz.acN
 obtain⟨p,cap,rfl,hS⟩:=hx
 have hfew:ws.length≤9223372036854775807:=hS.few
 have S:=St.start hr
 refine S.box λb1 w1 S=>?_
 have S:StX noX w r w1 [.cell b1 [.int .i64 W,.slice p ws.length cap] 48]:=S
 refine gg_ ?_
 refine zk (c:=decide (1032<W)) (λ_ K2 hK2=>by refine gg_ ?_;exact hK2) ?_
 refine zk (c:=decide ((ws.length:Int)≠(W+63)/64)) (λhb K2 hK2=>?_) ?_
 ·simp only[Bool.or_eq_false_iff,decide_eq_false_iff_not]at hb
  refine gg_ ?_
  exact hK2
 refine c_b (λhb=>?_) (λhb=>?_)
 ·rw[BM.mayB_false (λhm=>by
   simp only[Bool.or_eq_true,decide_eq_true_eq]at hb
   have:=hm.1;have:=hm.2.1;have:=hm.2.2.1
   omega)]at h
  exact h _ S.ext
 simp only[Bool.or_eq_false_iff,decide_eq_false_iff_not,Decidable.not_not]at hb
 obtain⟨⟨h0,h1⟩,h2⟩:=hb
 have S:=S.go (Ext.drew _)
 refine gg_ ?_
 by_cases h3:W%64=0
 ·rw[decide_eq_true h3]
  refine zk (c:=true) (λhc=>by cases hc) ?_
  rw[BM.mayB_true (aj0 (by omega) (by omega) h2 h3)]at h
  exact h _ S.ext
 rw[decide_eq_false h3]
 have hlt:ws.length-1<ws.length:=by omega
 obtain⟨b2,o2,rfl,_,hc⟩:=acO hS.sl hlt
 have hz:(((ws[ws.length-1] >>> (W%64).toNat).toNat:Int)=0)↔BM.May W ws:=by
  rw[ajZ (by omega) (by omega) h2 h3 hlt]
  constructor
  ·intro hz;apply BitVec.eq_of_toNat_eq;have h9:(ws[ws.length-1] >>> (W%64).toNat).toNat=0:=by omega
   rw[h9];rfl
  ·intro hz;rw[hz];rfl
 have hE:BM.mayB W ws=decide (((ws[ws.length-1] >>> (W%64).toNat).toNat:Int)=0):=by unfold BM.mayB;simp only[← hz]
 rw[hE]at h
 generalize ws[ws.length-1]=x at hc h
 refine zk (c:=decide (((x >>> (W%64).toNat).toNat:Int)=0)) (λ_ K2 hK2=>?_) ?_
 ·refine gg_ ?_
  refine zg (by rw[show ((ws.length:Int)-1).toNat=ws.length-1 by omega];exact S.at hc) ?_
  refine gg_ ?_
  exact hK2
 exact h _ S.ext
end Go.Proofs
end
section
namespace Go.Proofs
open Go.Sh Go.RowKit
end Go.Proofs
end
section
namespace Go.Sh
end Go.Sh
namespace Go.Proofs
open Go.Sh Go.RowKit
set_option maxRecDepth 100000
end Go.Proofs
end
section
namespace Go.Proofs
open Go.Sh Go.RowKit
end Go.Proofs
end
section
namespace Go.Proofs.Tryz
open Go.Sh
end Go.Proofs.Tryz
end
section
namespace Go.Proofs
open Go.Sh Go.RowKit
end Go.Proofs
end
section
namespace Go.Sh
end Go.Sh
namespace Go.Proofs
open Go.Sh Go.RowKit
set_option maxRecDepth 100000
end Go.Proofs
end
section
namespace Go.Proofs
open Go.Sh Go.RowKit
end Go.Proofs
end
section
namespace Go.Proofs
end Go.Proofs
end
section
namespace Go.Proofs
open Go.Sh Go.RowKit
end Go.Proofs
end
section
namespace Go.Proofs.Tryz
open Go.Sh
end Go.Proofs.Tryz
end
section
namespace Go.Proofs
open Go.Sh Go.RowKit
end Go.Proofs
end
section
namespace Go.Proofs
open Go.Sh
end Go.Proofs
end
section
namespace Go.Sh
open Go.RowKit Go.MapKept
class abH(b:Nat)(L:List Asr)(Q:outParam (Obj→Prop))(f:outParam (Asr→List Asr)):Prop where
 h:∃p q,L=p++.obj b Q::q∧∀y,f y=p++y::q
instance {b:Nat} {Q:Obj→Prop} {L:List Asr}:abH b (.obj b Q::L) Q λy=>y::L:=⟨[],L,rfl,λ_=>rfl⟩
instance (priority:=low) {b:Nat} {Q:Obj→Prop} {x:Asr} {L:List Asr} {f:Asr→List Asr} [h:abH b L Q f]:abH b (x::L) Q λy=>x::f y:=⟨by
 obtain⟨p,q,h1,h2⟩:=h.h
 exact⟨x::p,q,by rw[h1];rfl,λc'=>by rw[h2];rfl⟩⟩
section
variable {P:Program} {X:Nat→Prop} {w0 w:World} {r:Gh} {L:List Asr} {t k e:TypeId} {b:Nat} {M:List (Int×Value)} {f:Asr→List Asr}
end
end Go.Sh
end
section
namespace Go.Proofs
open Go.Sh Go.RowKit
end Go.Proofs
end
section
namespace Go.Proofs
open Go.Sh
end Go.Proofs
end
section
namespace Go.Proofs
open Go.Sh Go.RowKit
end Go.Proofs
end
section
namespace Go.Sh
section
variable {P:Program} {t:TypeId} {c:Bool} {a b a' b':Int} {i j:IntKind}
end
end Go.Sh
end
section
namespace Go.Proofs
open Go.Sh
end Go.Proofs
end
section
namespace Go.Proofs
open Go.Sh Go.RowKit
end Go.Proofs
end
section
namespace Go.Sh
open Go.RowKit
theorem agq{α β γ:Type}{f:α→β→γ}:∀{us:List α}{bs:List β}{i:Nat}(h1:i<us.length)(h2:i<bs.length),∃p q,List.zipWith f us bs=p++f us[i] bs[i]::q∧∀a b,List.zipWith f (us.set i a) (bs.set i b)=p++f a b::q
 |[],_,_,h1,_=>absurd h1 (Nat.not_lt_zero _)
 |_::_,[],_,_,h2=>absurd h2 (Nat.not_lt_zero _)
 |a::us,b::bs,0,_,_=>⟨[],List.zipWith f us bs,rfl,λ_ _=>rfl⟩
 |a::us,b::bs,i+1,h1,h2=>by
  obtain⟨p,q,h3,h4⟩:=agq (f:=f) (us:=us) (bs:=bs) (i:=i) (by simpa using h1) (by simpa using h2)
  exact⟨f a b::p,q,by rw[List.zipWith_cons_cons,h3];rfl,λx y=>by rw[List.set_cons_succ,List.set_cons_succ,List.zipWith_cons_cons,h4];rfl⟩
theorem ai4{α β γ:Type}{f:α→β→γ}{us:List α}{bs:List β}{i:Nat}(h1:i<us.length)(h2:i<bs.length):∃p q,List.zipWith f us bs=p++f us[i] bs[i]::q∧∀b,List.zipWith f us (bs.set i b)=p++f us[i] b::q:=by
 obtain⟨p,q,h3,h4⟩:=agq (f:=f) h1 h2
 refine⟨p,q,h3,λb=>?_⟩
 have:=h4 us[i] b
 rwa[List.set_getElem_self]at this
section
variable {P:Program} {X:Nat→Prop} {w0 w w':World} {r:Gh} {L:List Asr}
end
end Go.Sh
end
section
namespace Go.Proofs
open Go.Sh Go.RowKit
end Go.Proofs
end
section
namespace Go.Proofs
open Go.Sh Go.RowKit Go.BM
abbrev wcs(ws:List (BitVec 64)):List Value:=ws.map u64
end Go.Proofs
end
section
namespace Go.Sh
section
variable {w:World} {i f l e x:Bool} {A1:(List Value→World→Prop)→Prop} {A2 A4 A5:(List Value→World→Prop)→World→Prop} {Z:Value→World→Prop}
end
end Go.Sh
end
section
namespace Go.Proofs
open Go.Sh Go.RowKit
end Go.Proofs
end
section
namespace Go.Proofs
open Go.Sh Go.RowKit Go.BM
variable {K:Value→World→Prop}
abbrev ki:=Int×List (BitVec 64)
theorem acP{f:ki→Bool}{fv v:Value}{w:World}{r:Gh}{l:List ki}{K:Value→World→Prop}(hr:Holds r w)(hl:SlG 2 r (RwbC r) v l)(hb:l.length≤1000000000)
  (hf:∀x∈l,∀(c:List Value)(w:World)(K:Value→World→Prop),Holds r w→RwbC r c x→(∀w',Ext w w'→K (.bool (f x)) w')→zC Tryz.prog fv #[.agg c.toArray] w K)
  (h:∀(i:Int) w',Ext w w'→(0≤i↔l.any f=true)→K (.int .i64 i) w'):zd Tryz.prog Tryz.yH #[v,fv] w K:=by
 refine Tryz.jm ?_
 unfold Tryz.xB
 obtain⟨p,cap,rfl,_,_⟩:=hl.shape
 have S:=St.start hr
 refine gP_ ?_
 refine zi (ι:=Nat) (λi=>[.int .i64 i]) (λi w'=>i≤l.length∧(l.take i).any f=false∧StX noX w r w' []) (λi=>l.length-i) 0 rfl ⟨Nat.zero_le _,by simp,S⟩ ?_
 clear S
 rintro i d w' ⟨hi,hn,S⟩ K6 hK6
 simp only[gdz]
 refine gP_ ?_
 refine zj (λhlt=>?_) (λhge=>?_)
 ·have hlt:i<l.length:=by omega
  obtain⟨b,off,c,rfl,hcl,hcR,hcell⟩:=hl.get (by decide) hlt
  have hcR0:=hcR
  obtain⟨pw,cw,rfl,_⟩:=hcR
  refine gP_ ?_
  refine zn (n:=2) rfl (λj v hj=>by rw[tnc];exact S.at (hcell j v hj)) ?_
  refine hf _ (List.getElem_mem hlt) _ _ _ S.holds hcR0 λw2 e2=>?_
  have S:=S.go e2
  have ht:(l.take (i+1)).any f=((l.take i).any f||f l[i]):=by
   rw[List.take_succ_eq_append_getElem hlt,List.any_append];simp only[List.any_cons,List.any_nil,Bool.or_false]
  refine c_b (λhy=>?_) (λhno=>?_)
  ·exact h _ _ S.ext ⟨λ_=>List.any_eq_true.2 ⟨l[i],List.getElem_mem hlt,hy⟩,λ_=>Int.natCast_nonneg _⟩
  ·refine gP_ ?_
   refine hK6 (i+1) _ ⟨hlt,?_,S⟩ (by omega)
   rw[ht,hn,hno];rfl
 ·have :i=l.length:=by omega
  subst this
  rw[List.take_length]at hn
  exact h _ _ S.ext ⟨λh=>by omega,λh=>by rw[hn]at h;cases h⟩
theorem VX{f:ki→Bool}{fv v:Value}{w:World}{r:Gh}{l:List ki}{K:Value→World→Prop}(hr:Holds r w)(hl:SlG 2 r (RwbC r) v l)(hb:l.length≤1000000000)
  (hf:∀x∈l,∀(c:List Value)(w:World)(K:Value→World→Prop),Holds r w→RwbC r c x→(∀w',Ext w w'→K (.bool (f x)) w')→zC Tryz.prog fv #[.agg c.toArray] w K)
  (h:∀w',Ext w w'→K (.bool (l.any f)) w'):zd Tryz.prog Tryz.yr #[v,fv] w K:=by
 refine Tryz.qF ?_
 unfold Tryz.xh
 refine acP hr hl hb hf λi w' e hi=>?_
 refine gP_ ?_
 have e2:decide (i≥0)=l.any f:=by
  by_cases hh:l.any f=true
  ·rw[hh];exact decide_eq_true (hi.2 hh)
  ·rw[Bool.eq_false_iff.2 hh];exact decide_eq_false λh=>hh (hi.1 h)
 rw[e2];exact h _ e
end Go.Proofs
end
section
namespace Go.Proofs.Tryz
open Go.Sh
variable {t0 t1:Value} {w:World} {K:VW}
def acQ(t0:Value)(w:World)(K:VW):Prop:=
 pw w (Instr.box 48 t0) λt1 w1=>
 pw w1 (Instr.alloc 48 true (.tuple #[])) λt2 w2=>
 lo w2 48 t1 λt4=>ca jc #[t4] w2 λt5 w3=>
 pp (Op.unary .not t5) λt6=>zc t6 (pp (Instr.build 48 #[]) λt7=>so w3 48 t2 t7 λw4=>pq w4 (zf 48 t2) λr5=>K (.tuple #[r5,(i6 2)]) w4) (fl w3.drew t1 48 0 3 λt9=>fl w3.drew t1 48 1 46 λt11=>ca xe #[t11] w3.drew λt12 w6=>
 Ext w3.drew w6∧
 pp (Instr.build 48 #[(0,t9),(1,t12)]) λt13=>so w6 48 t2 t13 λw7=>pq w7 (zf 48 t2) λr8=>K (.tuple #[r8,(i6 0)]) w7)
theorem ag7(h:acQ t0 w K):zd prog YB #[t0] w K:=
 okC false (.s (.r (rz 3 0 10)) (.s (.s (.r (rz 3 0 9)) (.c (.s (.r (rz 3 0 8)) (.n)) (.n))) (.s (.r (rz 8 0 9028)) (.n)))) func158 rfl (by kernel_rfl) (by kernel_rfl) h
def aa2(t0:Value)(w:World)(K:VW):Prop:=
 pw w (Instr.box 48 t0) λt1 w1=>
 lo w1 48 t1 λt5=>ca YB #[t5] w1 λt6 w2=>
 pe t6 0 λt7=>pe t6 1 λt8=>pw w2 (Instr.alloc 29 true (.tuple #[])) λt3 w3=>
 so w3 48 t1 t7 λw4=>so w4 29 t3 t8 λw5=>pp (Instr.makeFunc (.func 159) #[] #[t3,t1]) λt9=>K t9 w5
theorem agr(h:aa2 t0 w K):zd prog X9 #[t0] w K:=
 okC false (.s (.r (rz 2 0 2)) (.s (.r (rz 8 0 43017)) (.s (.r (rz 2 0 0)) (.n)))) func103 rfl (by kernel_rfl) (by kernel_rfl) h
def Yk(t0 t1 t2:Value)(w:World)(K:VW):Prop:=
 lo w 29 t1 λt6=>bt .neq 29 t6 (i6 0) λt7=>zc t7 (K (.tuple #[]) w) (fl w t2 48 1 46 λt9=>pp (Builtin.len_ #[46] 3 #[t9]) λt10=>zp [(i6 0)] w (λs2 _d3 w4 K1=>
 bf .lss 3 (s2.getD 0 u_) t10 λt12=>zc t12 (xl w4 46 t9 (s2.getD 0 u_) 205 λt15=>zp [t15] w4 (λs6 _d7 w8 K5=>
 bt .neq 205 (s6.getD 0 u_) (Value.int .u64 0) λt17=>zc t17 (bt .mul 3 (i6 64) (s2.getD 0 u_) λt24=>ca xn #[(s6.getD 0 u_)] w8 λt26 w9=>
 bf .add 3 t24 t26 λt27=>cv t0 #[t27] w9 λt28 w10=>
 pp (Op.unary .not t28) λt29=>zc t29 (K (.tuple #[]) w10) (bt .sub 205 (s6.getD 0 u_) (Value.int .u64 1) λt20=>bf .and 205 (s6.getD 0 u_) t20 λt21=>K5 [t21] w10)) (bt .add 3 (s2.getD 0 u_) (i6 1) λt30=>K1 [t30] w8))) (K (.tuple #[]) w4)))
theorem QT{t2:Value}(h:Yk t0 t1 t2 w K):zd prog Jz #[t0,t1,t2] w K:=
 okC false (.s (.s (.r (rz 2 0 1)) (.c (.n) (.n))) (.s (.r (rz 4 0 4)) (.b (.lp [11] (.s (.r (rz 1 0 0)) (.s (.c (.n) (.n)) (.s (.b (.s (.r (rz 5 0 16)) (.b (.lp [5] (.s (.s (.r (rz 2 0 0)) (.c (.n) (.n))) (.s (.b (.s (.r (rz 8 0 8704)) (.c (.n) (.n)))) (.r (rz 5 0 0)))))))) (.r (rz 2 0 0))))))))) func159 rfl (by kernel_rfl) (by kernel_rfl) h
def aa3(t0 t1 t2:Value)(w:World)(K:VW):Prop:=
 pw w (Instr.box 48 t0) λt3 w1=>
 pw w1 (Instr.box 48 t1) λt4 w2=>
 pw w2 (Instr.alloc 48 true (.tuple #[])) λt6 w3=>
 lo w3 48 t3 λt11=>ca jc #[t11] w3 λt12 w4=>
 pp (Op.unary .not t12) λt13=>za (λK5=>gIf t13 false (lo w4 48 t4 λt15=>ca jc #[t15] w4 λt16 w9=>
 pp (Op.unary .not t16) λt17=>K5 [t17] w9) (K5 [u_] w4)) (λs6 _d7 w8=>
 zb t13 tr_ (s6.getD 0 u_) λt18=>za (λK10=>gIf t18 false (fl w8 t3 48 0 3 λt21=>fl w8 t4 48 0 3 λt23=>bf .neq 3 t21 t23 λt24=>K10 [t24] w8) (K10 [u_] w8)) (λs11 _d12 w13=>
 zb t18 tr_ (s11.getD 0 u_) λt25=>zc t25 (pp (Instr.build 48 #[]) λt26=>so w13 48 t6 t26 λw14=>pq w14 (zf 48 t6) λr15=>K (.tuple #[r15,(i6 2)]) w14) (lo w13 48 t3 λt28=>ca YB #[t28] w13 λt29 w16=>
 pe t29 0 λt30=>pe t29 1 λt31=>pw w16 (Instr.alloc 48 true (.tuple #[])) λt8 w17=>
 so w17 48 t8 t30 λw18=>fl w18 t8 48 1 46 λt33=>pp (Builtin.len_ #[46] 3 #[t33]) λt34=>zp [(i6 0)] w18 (λs20 _d21 w22 K19=>
 bf .lss 3 (s20.getD 0 u_) t34 λt36=>zc t36 (fl w22.drew t8 48 1 46 λt40=>px 46 t40 (s20.getD 0 u_) λt42=>fl w22.drew t4 48 1 46 λt44=>xl w22.drew 46 t44 (s20.getD 0 u_) 205 λt47=>cv t2 #[t42,t47] w22.drew λ_t48 w23=>
 bt .add 3 (s20.getD 0 u_) (i6 1) λt49=>K19 [t49] w23) (lo w22 48 t8 λt50=>so w22 48 t6 t50 λw24=>pq w24 (zf 48 t6) λr25=>K (.tuple #[r25,t31]) w24)))))
theorem ags{t2:Value}(h:aa3 t0 t1 t2 w K):zd prog Qa #[t0,t1,t2] w K:=
 okC false (.s (.r (rz 4 0 42)) (.s (.s (.r (ra 4 0 9 (.grp 14 false (ri 3 4 9) [17] (ra 2 7 0 (.grp 19 false (ri 5 9 68) [24] (rz 1 14 0)))))) (.c (.s (.r (rz 3 0 8)) (.n)) (.n))) (.s (.r (rz 8 0 10249)) (.s (.s (.r (rz 4 0 4)) (.b (.lp [35] (.s (.r (rz 1 0 0)) (.s (.c (.n) (.n)) (.s (.b (.s (.r (rz 2 0 0)) (.r (rz 11 0 2363408)))) (.r (rz 2 0 0)))))))) (.s (.r (rz 4 0 33)) (.n)))))) func171 rfl (by kernel_rfl) (by kernel_rfl) h
def aa4(t0 t1:Value)(w:World)(K:VW):Prop:=
 pw w (Instr.box 48 t0) λt2 w1=>
 pw w1 (Instr.box 48 t1) λt3 w2=>
 pw w2 (Instr.alloc 48 true (.tuple #[])) λt4 w3=>
 lo w3 48 t2 λt6=>lo w3 48 t3 λt7=>ca Qa #[t6,t7,(Value.func (.func 172) #[] #[])] w3 λt8 w4=>
 pe t8 0 λt9=>pe t8 1 λt10=>so w4 48 t4 t9 λw5=>pq w5 (zf 48 t4) λr6=>K (.tuple #[r6,t10]) w5
theorem agt(h:aa4 t0 t1 w K):zd prog Qb #[t0,t1] w K:=
 okC false (.s (.r (rz 4 0 42)) (.s (.r (rz 7 0 2085)) (.n))) func128 rfl (by kernel_rfl) (by kernel_rfl) h
def JQ(t0 t1:Value)(w:World)(K:VW):Prop:=
 vk t0 λt5=>lo w 205 t5 λt6=>bf .andNot 205 t6 t1 λt8=>vk t0 λt9=>so w 205 t9 t8 λw1=>K (.tuple #[]) w1
theorem adR(h:JQ t0 t1 w K):zd prog JA #[t0,t1] w K:=
 okC false (.r (rz 7 0 8208)) func172 rfl (by kernel_rfl) (by kernel_rfl) h
def VY(t0 t1:Value)(w:World)(K:VW):Prop:=
 pw w (Instr.box 48 t0) λt2 w1=>
 NC w w1∧
 pw w1 (Instr.box 48 t1) λt3 w2=>
 NC w1 w2∧
 pw w2 (Instr.alloc 3 true (.tuple #[])) λt4 w3=>
 NC w2 w3∧
 pw w3 (Instr.alloc 4 true (.tuple #[])) λt5 w4=>
 NC w3 w4∧
 pw w4 (Instr.alloc 29 true (.tuple #[])) λt6 w5=>
 NC w4 w5∧
 lo w5 48 t3 λt10=>lo w5 48 t2 λt11=>ca Qb #[t10,t11] w5 λt12 w6=>
 NC w5 w6∧
 pe t12 0 λt13=>pe t12 1 λt14=>pw w6 (Instr.alloc 48 true (.tuple #[])) λt7 w7=>
 NC w6 w7∧
 so w7 48 t7 t13 λw8=>NC w7 w8∧
 so w8 29 t6 t14 λw9=>NC w8 w9∧
 lo w9 29 t6 λt15=>bt .neq 29 t15 (i6 0) λt16=>zc t16 (((pw w9.drew (Instr.loadAt 29 t6) λt17 w10=>
 NC w9.drew w10∧
 so w10 3 t4 (i6 0) λw11=>NC w10 w11∧
 so w11 4 t5 fa_ λw12=>NC w11 w12∧
 so w12 29 t6 t17 λw13=>NC w12 w13∧
 ∀w14,Shuts w.heap.size w13 w14→pq w14 (zf 3 t4) λr15=>pq w14 (zf 4 t5) λr16=>pq w14 (zf 29 t6) λr17=>K (.tuple #[r15,r16,r17]) w14)∧
 (so w9.drew 3 t4 (i6 0) λw18=>NC w9.drew w18∧
 ((pw w18 (Instr.loadAt 29 t6) λt17_20 w19=>
 NC w18 w19∧
 so w19 4 t5 fa_ λw21=>NC w19 w21∧
 so w21 29 t6 t17_20 λw22=>NC w21 w22∧
 ∀w23,Shuts w.heap.size w22 w23→pq w23 (zf 3 t4) λr24=>pq w23 (zf 4 t5) λr25=>pq w23 (zf 29 t6) λr26=>K (.tuple #[r24,r25,r26]) w23)∧
 (so w18 4 t5 fa_ λw27=>NC w18 w27∧
 pw w27 (Instr.loadAt 29 t6) λt17_29 w28=>
 NC w27 w28∧
 so w28 29 t6 t17_29 λw30=>NC w28 w30∧
 ∀w31,Shuts w.heap.size w30 w31→pq w31 (zf 3 t4) λr32=>pq w31 (zf 4 t5) λr33=>pq w31 (zf 29 t6) λr34=>K (.tuple #[r32,r33,r34]) w31))))) (lo w9 48 t7 λt18=>ca X9 #[t18] w9 λt19 w35=>
 NC w9 w35∧
 abV prog 1 t19 w35 (λx36 w37 S38 KR39=>
 (Ext w37 w37∧∀w40,Nl w35.heap.size w37 w40→
 so w40 3 t4 (x36.getD 0 u_) λw41=>NC w40 w41∧
 so w41 4 t5 tr_ λw42=>NC w41 w42∧
 so w42 29 t6 (i6 0) λw43=>NC w42 w43∧
 (ExtBut S38 w40 w43∧KR39 .ret w43))) (λw44=>
 so w44 3 t4 (i6 0) λw45=>NC w44 w45∧
 so w45 4 t5 fa_ λw46=>NC w45 w46∧
 so w46 29 t6 (i6 0) λw47=>NC w46 w47∧
 ∀w48,Shuts w.heap.size w47 w48→pq w48 (zf 3 t4) λr49=>pq w48 (zf 4 t5) λr50=>pq w48 (zf 29 t6) λr51=>K (.tuple #[r49,r50,r51]) w48) (λw52=>
 ∀w53,Shuts w.heap.size w52 w53→pq w53 (zf 3 t4) λr54=>pq w53 (zf 4 t5) λr55=>pq w53 (zf 29 t6) λr56=>K (.tuple #[r54,r55,r56]) w53) [])
theorem ae3(h:VY t0 t1 w K):zd prog Y1 #[t0,t1] w K:=
 okC true (.s (.r (rz 5 0 682)) (.s (.r (rz 9 0 172069)) (.s (.s (.r (rz 2 0 1)) (.c (.s (.r (.alt 0 .l (rz 3 1 42) (ra 1 1 2 (.alt 0 .l (rz 2 2 10) (ra 1 2 2 (ra 1 0 2 (rz 1 3 2))))))) (.n)) (.n))) (.s (.s (.r (rz 2 0 9)) (.b (.rf [] (.r (rz 1 0 0)) (.b (.s (.r (rz 4 0 168)) (.n)))))) (.s (.r (rz 3 0 42)) (.n)))))) func65 rfl (by kernel_rfl) (by kernel_rfl) h
def kF(t0:Value)(w:World)(K:VW):Prop:=
 bt .eql 46 t0 (Value.slice Option.none 0 0) λt4=>zc t4 (K (Value.slice Option.none 0 0) w) (pw w (Instr.buildSlice 46 0 #[]) λt5 w1=>
 pw w1 (Builtin.append_ #[46,46] 46 #[t5,t0]) λt7 w2=>
 K t7 w2)
theorem vX(h:kF t0 w K):zd prog xe #[t0] w K:=
 okC false (.s (.r (rz 1 0 0)) (.s (.s (.r (rz 2 0 0)) (.c (.s (.r (rz 1 0 0)) (.n)) (.n))) (.s (.r (rz 4 0 34)) (.n)))) func201 rfl (by kernel_rfl) (by kernel_rfl) h
def kM(t0:Value)(w:World)(K:VW):Prop:=
 bt .eql 205 t0 (Value.int .u64 0) λt4=>zc t4 (K (i6 64) w) (pp (Op.unary .neg t0) λt7=>bf .and 205 t0 t7 λt8=>bt .mul 205 t8 (Value.int .u64 285870213051353865) λt9=>bt .shr 205 t9 (Value.int .u64 58) λt10=>xl w 275 (Value.pointer (some ⟨0,0,none⟩)) t10 5 λt12=>pp (convert 5 3 t12) λt13=>K t13 w)
theorem Zz(h:kM t0 w K):zd prog xn #[t0] w K:=
 okC false (.s (.r (rz 1 0 0)) (.s (.s (.r (rz 2 0 0)) (.c (.s (.r (rz 1 0 0)) (.n)) (.n))) (.s (.r (rz 10 0 16384)) (.n)))) func160 rfl (by kernel_rfl) (by kernel_rfl) h
end Go.Proofs.Tryz
end
section
namespace Go.Proofs
open Go.Sh Go.RowKit Go.BM
variable {w:World} {r:Gh} {ws:List (BitVec 64)} {K:Value→World→Prop} {x y:ki} {cap i:Nat} {p:Option Addr} {W:Int} {c cx cy:List Value} {α:Type} {L:List Asr}
theorem StX.atRow{X:Nat→Prop}{w0:World}{e:TypeId}{n:Nat}{xs:List Value}(S:StX X w0 r w (.row (.slice p n cap) e 1 n xs::L))(hn:n≠0):
  ∃b c,p=some ⟨b,0,none⟩∧c.take n=xs∧n≤c.length∧StX X w0 r w (.cell b c e::L)∧∀c' w',c'.length=c.length→StX X w0 r w' (.cell b c' e::L)→StX X w0 r w' (.row (.slice p n cap) e 1 n (c'.take n)::L):=by
 have hr:w.ownsRow 0 e 1 (.slice p n cap) n xs:=S.has _ (List.mem_cons_self ..)
 rcases kp hr with⟨h0,h1,_⟩|⟨b,cap',c,hv,hb,B,hle,hm,hc,ht⟩
 ·exact absurd h1 hn
 cases hv
 rw[Nat.mul_one]at hc ht
 refine⟨b,c,rfl,ht,by omega,S.turn (p:=[]) (x:=.row _ e 1 n xs) (y:=.cell b c e) (ExtBut.refl _ _) B λk hk=>.inl (by cases hk;rfl),λc' w' hl S'=>?_⟩
 have B':Blk w' b c' e:=S'.has _ (List.mem_cons_self ..)
 refine S'.turn (p:=[]) (x:=.cell b c' e) (y:=.row _ e 1 n (c'.take n)) (ExtBut.refl _ _) ?_ λk hk=>.inl (by cases hk;rfl)
 have:=vw (base:=0) (size:=1) (Nat.zero_le _) B' hle hm (by rw[hl,hc,Nat.mul_one])
 rwa[Nat.mul_one]at this
theorem QU(h:BM.mayB W ws=true):BM.May W ws:=Classical.byContradiction λhn=>by rw[BM.mayB_false hn]at h;cases h
theorem agu{a m:List α}(ha:i<a.length)(hm:i<m.length):(a.take i++m.drop i).set i a[i]=a.take (i+1)++m.drop (i+1):=by
 rw[List.set_append_right _ _ (by rw[List.length_take];omega),List.length_take,Nat.min_eq_left (by omega),Nat.sub_self,List.drop_eq_getElem_cons hm,List.set_cons_zero,List.take_succ_eq_append_getElem ha,List.append_assoc];rfl
theorem ahE{a m:List α}(ha:i≤a.length)(hm:i<m.length):(a.take i++m.drop i)[i]? = some m[i]:=by
 rw[List.getElem?_append_right (by rw[List.length_take];omega),List.length_take,Nat.min_eq_left ha,Nat.sub_self,List.getElem?_drop,Nat.add_zero,gqg hm]
theorem adS:(wcs ws).length=ws.length:=List.length_map _
theorem aj3(ws:List (BitVec 64)):∀u∈wcs ws,u.oneCell'=true:=λu hu=>by
 obtain⟨x,_,rfl⟩:=List.mem_map.1 hu;rfl
theorem aer:RowOf 1 WdC (wcs ws) ws:=⟨by rw[adS,Nat.mul_one],λj hj=>by
 rw[Nat.mul_one,wcs,← List.map_drop,← List.map_take,List.drop_eq_getElem_cons hj];rfl⟩
theorem ai5{n:Nat}(h:SlG 1 r WdC (.slice p n cap) ws):Ob r λw=>Sl w p (wcs ws):=λw hw i v hi=>by
 have hlt:i<ws.length:=by
  have:=(List.getElem?_eq_some_iff.1 hi).1
  rwa[adS]at this
 obtain⟨b,off,hp,_,hc⟩:=acO h hlt
 have hv:v=u64 ws[i]:=by
  rw[wcs,List.getElem?_map,gqg hlt]at hi
  exact(Option.some.inj hi).symm
 subst hv
 exact⟨b,off,hp,hc w hw⟩
theorem ag8{K:Value→World→Prop}(hr:Holds r w)(hl:SlB 1 r WdC (.slice p ws.length cap) ws)(hb:ws.length≤1000000)
  (h:∀v' w',Ext w w'→w'.ownsRow w.heap.size 205 1 v' ws.length (wcs ws)→K v' w'):zd Tryz.prog Tryz.xe #[.slice p ws.length cap] w K:=by
 refine Tryz.vX ?_
 unfold Tryz.kF
 have S:=St.start hr
 obtain⟨_,_,hE,hp,_⟩:=hl.sl.shape
 cases hE
 refine ajt (e:=205) (n:=1) (by kernel_rfl) ?_
 refine c_b (λhn=>?_) (λhn=>?_)
 ·have hws:ws=[]:=by
   cases ws with
   |nil=>rfl
   |cons a l=>
    obtain⟨b,off,hb,_⟩:=(S.at (ai5 hl.sl)) 0 (u64 a) rfl
    rw[hb]at hn;cases hn
  subst hws
  have S:=S.ownNil 205 1
  exact h _ _ S.ext (S.give (.slice none 0 0))
 refine S.lit (e:=205) (cs:=[]) (by kernel_rfl) λb w1 S=>?_
 have S:=S.toRow 0 1 rfl (by decide)
 refine S.ap (v:=.slice (some ⟨b,0,none⟩) 0 0) (S.at (ai5 hl.sl)) (λv2 w2 S=>?_) (by omega) (by rw[adS,Nat.mul_one]) hp (aj3 _)
 rw[Nat.zero_add,List.nil_append]at S
 exact h _ _ S.ext (S.give v2)
abbrev aj4:Value:=.agg #[.int .i64 0,.slice none 0 0]
theorem acR{K:Value→World→Prop}(hr:Holds r w)(hx:RwbC r c x)
  (h1:BM.mayB x.1 x.2=false→∀w',Ext w w'→K (.tuple #[aj4,.int .i64 2]) w')
  (h2:BM.mayB x.1 x.2=true→∀v' w',Ext w w'→w'.ownsRow w.heap.size 205 1 v' x.2.length (wcs x.2)→K (.tuple #[.agg #[.int .i64 x.1,v'],.int .i64 0]) w'):zd Tryz.prog Tryz.YB #[.agg c.toArray] w K:=by
 refine Tryz.ag7 ?_
 unfold Tryz.acQ
 have hx0:=hx
 obtain⟨W,ws⟩:=x
 simp only at h1 h2
 obtain⟨p,cap,rfl,hS⟩:=hx
 have S:=St.start hr
 refine S.box λb1 w1 S=>?_
 refine S.al λb2 w2 S=>?_
 have S:StX noX w r w2 [.cell b2 [.int .i64 0,.slice none 0 0] 48,.cell b1 [.int .i64 W,.slice p ws.length cap] 48]:=S
 refine S.ldB (b:=b1) ?_ rfl
 refine YN S.holds hx0 λw3 e3=>?_
 have S:=S.go e3
 refine gp_ ?_
 refine c_b (λhm=>?_) (λhm=>?_)
 ·refine zq (cs:=#[.int .i64 0,.slice none 0 0]) (by kernel_rfl) ?_
  refine S.stB (b:=b2) λw4 S=>?_
  refine S.ceB (b:=b2) ?_ rfl
  exact h1 (by simpa using hm) _ S.ext
 have hm:BM.mayB W ws=true:=by simpa using hm
 have hM:BM.May W ws:=QU hm
 have hl:ws.length≤1000000:=by have:=hM.2.1;have:=hM.2.2.1;omega
 have S:=S.go (Ext.drew _)
 refine gg_ ?_
 refine ag8 S.holds hS hl λv4 w4 e4 h4=>⟨e4,?_⟩
 have S:=S.take e4 h4
 obtain⟨p4,cap4,rfl,_⟩:=S.rowS v4
 refine zq (cs:=#[.int .i64 W,.slice p4 ws.length cap4]) (by kernel_rfl) ?_
 refine S.stB (b:=b2) λw5 S=>?_
 refine S.ceB (b:=b2) ?_ rfl
 exact h2 hm _ _ S.ext (S.give (.slice p4 ws.length cap4))
def aky(f:Value)(g:BitVec 64→BitVec 64→BitVec 64):Prop:=
 ∀(X:Nat→Prop)(w0 w:World)(r:Gh)(L:List Asr)(b i:Nat)(c:List Value)(T:TypeId)(x y:BitVec 64)(K:Value→World→Prop),StX X w0 r w (.cell b c T::L)→c[i]? = some (u64 x)→
  (∀v w',StX X w0 r w' (.cell b (c.set i (u64 (g x y))) T::L)→K v w')→zC Tryz.prog f #[.pointer (some ⟨b,i,none⟩),u64 y] w K
theorem alY:aky (.func (.func Tryz.JA) #[] #[]) (λx y=>x &&& ~~~ y):=by
 intro X w0 w r L b i c T x y K S hc h
 refine xV (by kernel_rfl) (Tryz.adR (t0:=.pointer (some ⟨b,i,none⟩)) (t1:=u64 y) ?_)
 unfold Tryz.JQ
 refine n_some (S.ld (b:=b) (v:=u64 x) ?_ hc)
 refine gp_ ?_
 refine n_some (S.st (b:=b) (λw' S=>?_) (List.getElem?_eq_some_iff.1 hc).1)
 exact h _ _ S
theorem ag9{fv:Value}{g:BitVec 64→BitVec 64→BitVec 64}{K:Value→World→Prop}(hr:Holds r w)(hx:RwbC r cx x)(hy:RwbC r cy y)(hf:aky fv g)
  (h1:¬(BM.mayB x.1 x.2=true∧BM.mayB y.1 y.2=true∧x.1=y.1)→∀w',Ext w w'→K (.tuple #[aj4,.int .i64 2]) w')
  (h2:BM.mayB x.1 x.2=true→BM.mayB y.1 y.2=true→x.1=y.1→∀p cap s w',Ext w w'→New w s w'→qP s→SlB 1 s WdC (.slice p (List.zipWith g x.2 y.2).length cap) (List.zipWith g x.2 y.2)→K (.tuple #[.agg #[.int .i64 x.1,.slice p (List.zipWith g x.2 y.2).length cap],.int .i64 0]) w'):
  zd Tryz.prog Tryz.Qa #[.agg cx.toArray,.agg cy.toArray,fv] w K:=by
 refine Tryz.ags ?_
 unfold Tryz.aa3
 have hx0:=hx;have hy0:=hy
 obtain⟨W,ws⟩:=x
 obtain⟨V,vs⟩:=y
 simp only at h1 h2
 obtain⟨p,cap,rfl,hS⟩:=hx
 obtain⟨q,caq,rfl,hQ⟩:=hy
 simp only at hS hQ
 have S:=St.start hr
 refine S.box λb3 w1 S=>?_
 refine S.box λb4 w2 S=>?_
 refine S.al λb6 w3 S=>?_
 have S:StX noX w r w3 [.cell b6 [.int .i64 0,.slice none 0 0] 48,.cell b4 [.int .i64 V,.slice q vs.length caq] 48,.cell b3 [.int .i64 W,.slice p ws.length cap] 48]:=S
 refine S.ldB (b:=b3) ?_ rfl
 refine YN S.holds hx0 λw4 e4=>?_
 have S:=S.go e4
 refine gp_ ?_
 refine yO (c:=!BM.mayB V vs) (λ_ K2 hK2=>?_) λw5 e5=>?_
 ·refine S.ldB (b:=b4) ?_ rfl
  refine YN S.holds hy0 λw9 e9=>?_
  refine gp_ ?_
  exact hK2 _ e9
 have S:=S.go e5
 refine zk (c:=decide (W≠V)) (λ_ K2 hK2=>by refine gg_ ?_;exact hK2) ?_
 refine c_b (λhb=>?_) (λhb=>?_)
 ·refine zq (cs:=#[.int .i64 0,.slice none 0 0]) (by kernel_rfl) ?_
  refine S.stB (b:=b6) λw14 S=>?_
  refine S.ceB (b:=b6) ?_ rfl
  refine h1 ?_ _ S.ext
  rintro⟨h3,h4,h5⟩
  rw[h3,h4,h5]at hb
  simp at hb
 simp only[Bool.or_eq_false_iff,Bool.not_eq_false',decide_eq_false_iff_not,Decidable.not_not]at hb
 obtain⟨⟨hmx,hmy⟩,rfl⟩:=hb
 have hMx:BM.May W ws:=QU hmx
 have hMy:BM.May W vs:=QU hmy
 have hlen:vs.length=ws.length:=by have:=hMx.2.2.1;have:=hMy.2.2.1;omega
 have hl:ws.length≤1000000:=by have:=hMx.2.1;have:=hMx.2.2.1;omega
 refine S.ldB (b:=b3) ?_ rfl
 refine acR S.holds hx0 (λhn=>by rw[hmx]at hn;cases hn) λ_ v5 w16 e16 h16=>?_
 have S:=S.take e16 h16
 simp only at S
 obtain⟨p5,cap5,rfl,_⟩:=S.rowS v5
 refine gS_ ?_
 refine S.al λb8 w17 S=>?_
 refine S.stB (b:=b8) λw18 S=>?_
 have hzl:(List.zipWith g ws vs).length=ws.length:=by rw[List.length_zipWith];omega
 generalize hz:List.zipWith g ws vs=zs at h2 hzl
 have hzi:∀i (h:i<ws.length),zs[i]'(by omega)=g ws[i] (vs[i]'(by omega)):=λi h=>by subst hz;simp
 have S:StX noX w r w18 [.row (.slice p5 ws.length cap5) 205 1 ws.length (wcs (zs.take 0++ws.drop 0)),.cell b8 [.int .i64 W,.slice p5 ws.length cap5] 48,.cell b6 [.int .i64 0,.slice none 0 0] 48,.cell b4 [.int .i64 W,.slice q vs.length caq] 48,.cell b3 [.int .i64 W,.slice p ws.length cap] 48]:=S.swap
 refine gg_ ?_
 refine zi (ι:=Nat) (λi=>[.int .i64 (i:Nat)]) (λi w'=>i≤ws.length∧StX noX w r w' [.row (.slice p5 ws.length cap5) 205 1 ws.length (wcs (zs.take i++ws.drop i)),.cell b8 [.int .i64 W,.slice p5 ws.length cap5] 48,.cell b6 [.int .i64 0,.slice none 0 0] 48,.cell b4 [.int .i64 W,.slice q vs.length caq] 48,.cell b3 [.int .i64 W,.slice p ws.length cap] 48]) (λi=>ws.length-i) 0 rfl ⟨Nat.zero_le _,S⟩ ?_
 repeat clear S
 rintro i d w22 ⟨hi,S⟩ K19 hK19
 rw[gdz]
 refine gp_ ?_
 refine zj (λhlt=>?_) (λhge=>?_)
 ·have hlt:i<ws.length:=by omega
  have S:=S.go (Ext.drew _)
  obtain⟨b5,c,hp5,hct,hcl,S,hback⟩:=StX.atRow S (by omega)
  subst hp5
  obtain⟨by',oy,hpy,_,hyc⟩:=acO hQ.sl (i:=i) (by omega)
  subst hpy
  refine gg_ ?_
  refine zg (by rw[tnc];exact S.at hyc) ?_
  have hci:c[0+((i:Nat):Int).toNat]? = some (u64 ws[i]):=by
   rw[Nat.zero_add,tnc]
   have h3:(c.take ws.length)[i]? = some (u64 ws[i]):=by
    rw[hct,wcs,List.getElem?_map,ahE (by omega) hlt];rfl
   rwa[List.getElem?_take,if_pos hlt]at h3
  refine hf _ _ _ _ _ _ _ _ _ ws[i] (vs[i]'(by omega)) _ S hci λ_ w23 S=>?_
  have S:=hback _ _ (List.length_set ..) S
  have he:(c.set (0+((i:Nat):Int).toNat) (u64 (g ws[i] (vs[i]'(by omega))))).take ws.length=wcs (zs.take (i+1)++ws.drop (i+1)):=by
   rw[Nat.zero_add,tnc,List.take_set,hct,wcs,wcs,← List.map_set,← hzi i hlt,agu (by omega) hlt]
  rw[he]at S
  refine gg_ ?_
  exact hK19 (i+1) _ ⟨hlt,S⟩ (by omega)
 ·have hie:i=ws.length:=by omega
  subst hie
  rw[List.take_of_length_le (by omega),List.drop_length,List.append_nil]at S
  refine S.ldB (b:=b8) ?_ rfl
  refine S.stB (b:=b6) λw24 S=>?_
  refine S.ceB (b:=b6) ?_ rfl
  obtain⟨s,T,hs,hnb,ha⟩:=S.doneRow (l:=zs) aer (by decide) (by omega)
  rw[← hzl]
  rw[← hzl]at hs
  exact h2 hmx hmy rfl _ _ s _ T.ext (StX.newOf (q:=s) T λb o ho=>(ha b o ho).resolve_right id) ⟨λb o ho=>by obtain⟨c,rfl⟩:=hnb b o ho;rfl⟩ ⟨hs,by rw[maxLen];omega⟩
theorem aha{K:Value→World→Prop}(hr:Holds r w)(hx:RwbC r cx x)(hy:RwbC r cy y)
  (h1:¬(BM.mayB x.1 x.2=true∧BM.mayB y.1 y.2=true∧x.1=y.1)→∀w',Ext w w'→K (.tuple #[aj4,.int .i64 2]) w')
  (h2:BM.mayB x.1 x.2=true→BM.mayB y.1 y.2=true→x.1=y.1→∀c' s w',Ext w w'→New w s w'→qP s→RwbC s c' (x.1,List.zipWith (λx y=>x &&& ~~~ y) x.2 y.2)→K (.tuple #[.agg c'.toArray,.int .i64 0]) w'):
  zd Tryz.prog Tryz.Qb #[.agg cx.toArray,.agg cy.toArray] w K:=by
 refine Tryz.agt ?_
 unfold Tryz.aa4
 have hx0:=hx;have hy0:=hy
 obtain⟨p,cap,rfl,hS⟩:=hx
 obtain⟨q,caq,rfl,hQ⟩:=hy
 have S:=St.start hr
 refine S.box λb2 w1 S=>?_
 refine S.box λb3 w2 S=>?_
 refine S.al λb4 w3 S=>?_
 have S:StX noX w r w3 [.cell b4 [.int .i64 0,.slice none 0 0] 48,.cell b3 [.int .i64 y.1,.slice q y.2.length caq] 48,.cell b2 [.int .i64 x.1,.slice p x.2.length cap] 48]:=S
 refine S.ldB (b:=b2) ?_ rfl
 refine S.ldB (b:=b3) ?_ rfl
 refine ag9 S.holds hx0 hy0 alY (λhn w4 e4=>?_) λhmx hmy he p4 cap4 s4 w4 e4 n4 hnb h4=>?_
 ·have S:=S.go e4
  refine gS_ ?_
  refine S.stB (b:=b4) λw5 S=>?_
  refine S.ceB (b:=b4) ?_ rfl
  exact h1 hn _ S.ext
 ·obtain⟨S,_,ha⟩:=S.tell e4 n4
  refine gS_ ?_
  refine S.stB (b:=b4) λw5 S=>?_
  refine S.ceB (b:=b4) ?_ rfl
  exact h2 hmx hmy he [.int .i64 x.1,.slice p4 _ cap4] s4 _ S.ext (StX.newOf (q:=s4) S ha) hnb ⟨p4,cap4,rfl,h4⟩
def Tab(w:World):Prop:=∀j,j<64→w.cell? ⟨0,j,none⟩=some (.int .u8 (Lib.deBruijn64tab.getD j 0:Nat))
def TabG(r:Gh):Prop:=Ob r Tab∧∃o,r 0 o
theorem TabG.up{s:Gh}(h:TabG r)[le:Le r s]:TabG s:=⟨h.1.up,h.2.imp λo=>le.le 0 o⟩
theorem aaE{x:BitVec 64}{t:Nat}(hT:Tab w)(hx:x≠0#64)(ht:t<64)(ha:(x &&& -x).toNat=2 ^ t)(h:K (.int .i64 t) w):
  zd Tryz.prog Tryz.xn #[u64 x] w K:=by
 refine Tryz.Zz ?_
 unfold Tryz.kM
 refine ako ?_
 refine zj (λh0=>absurd (BitVec.eq_of_toNat_eq (by have :(0#64).toNat=0:=rfl;omega)) hx) (λh0=>?_)
 refine akH (ahl ?_)
 rw[aft]
 refine alv 285870213051353865 rfl ?_
 refine alu 58 rfl ?_
 have hta:=aj1 ht ha
 generalize ((x &&& -x)*BitVec.ofNat 64 285870213051353865) >>> 58=z at hta⊢
 refine afz (l:=64) (e:=5) (n:=1) (by kernel_rfl) (by omega) (by omega) ?_
 have hc:=hT _ hta.1
 rw[hta.2]at hc
 refine zg (v:=.int .u8 (t:Int)) (by rw[show 0+Int.toNat (z.toNat:Int)*1=z.toNat by omega];exact hc) ?_
 refine akI (k1:=.u8) (by kernel_rfl) (by kernel_rfl) (by omega) h
abbrev abI(k:Nat):List Value:=[.int .i64 (k:Int)]
noncomputable def Jo(W:Int)(ws:List (BitVec 64)):List Nat:=if BM.mayB W ws then Xs ws else []
theorem aes(h:BM.May W ws):Jo W ws=Xs ws:=by simp[Jo,BM.mayB_true h]
theorem ai6(h:BM.mayB W ws=false):Jo W ws=[]:=by simp[Jo,h]
theorem aj5{l:List α}{k:Nat}{x:α}{r:List α}(h:l.drop k=x::r):l[k]? = some x∧l.drop (k+1)=r:=by
 constructor
 ·have :(l.drop k)[0]? = some x:=by rw[h];rfl
  rwa[List.getElem?_drop,Nat.add_zero]at this
 ·rw[← List.drop_drop,h];rfl
theorem StX.frzNew{w0:World}{M:List Asr}{T:TypeId}(S:StX noX w0 r w L)(b:Nat)[h:Zp b L c T M]:StX noX w0 (r.or (Go.Sh.one b c T)) w M∧Above w0 (Go.Sh.one b c T):=
 ⟨S.frzAt b,λk o ho=>by
  obtain⟨rfl,_⟩:=ho
  exact((S.permO h.h.symm).mine _ List.mem_cons_self k rfl).1.resolve_right id⟩
theorem xP{q:Gh}{b:Nat}{T:TypeId}{v:Value}[Le (Go.Sh.one b c T) q](h:c[i]? = some v):Ob q λw=>w.cell? ⟨b,i,none⟩=some v:=λw hw=>by
 have B:Blk w b c T:=xr w (hw.le (h:=inferInstance))
 show w.cell? ⟨b,i,none⟩=some v
 rw[B.cell];exact h
theorem ai7{q:Gh}{b1 b3:Nat}{D0:Nat→Prop}{w2:World}(B3:Ob q λw=>w.cell? ⟨b3,0,none⟩=some (.int .i64 0))(B1:Ob q λw=>w.cell? ⟨b1,1,none⟩=some (.slice p ws.length cap))
  (hw:SlG 1 q WdC (.slice p ws.length cap) ws) (hl:ws.length≤100000) (hT:TabG q) (hD:∀b,D0 b→∀o,¬q b o) (h2:Holds q w2):
  afd Tryz.prog (.func (.func Tryz.Jz) #[] #[.pointer (some ⟨b3,0,none⟩),.pointer (some ⟨b1,0,none⟩)]) w2 ((Xs ws).map abI) D0:=by
 refine⟨_,_,rfl,by kernel_rfl,λl W J Jx hW hlw hlt hJ hJx hround hJ0=>?_⟩
 generalize hxs:(Xs ws).map abI=xs at hround
 refine Calls.mono (Tryz.QT (t0:=.func (.yield l) #[] #[]) (t1:=.pointer (some ⟨b3,0,none⟩)) (t2:=.pointer (some ⟨b1,0,none⟩)) (K:=λ_ W'=>(∃D,J xs.length D W')∨Jx W') ?_) (λe W' hh=>by obtain⟨v,he,hk⟩:=hh;exact⟨⟨v,he⟩,hk⟩)
 unfold Tryz.Yk
 have hq:=h2.ext hW
 refine zg (B3 _ hq) ?_
 refine gp_ ?_
 refine c_f rfl ?_
 refine gg_ ?_
 refine zg (B1 _ hq) ?_
 refine gg_ ?_
 refine zi (ι:=Nat) (λi=>[.int .i64 i])
  (λi w'=>i≤ws.length∧Holds q w'∧∃k D,xs.drop k=(qY i (ws.drop i)).map abI∧k≤xs.length∧J k D w'∧∀b,D b→∀o,¬q b o)
  (λi=>ws.length-i) 0 rfl ⟨Nat.zero_le _,hq,0,D0,by rw[← hxs];rfl,Nat.zero_le _,hJ0,hD⟩ ?_
 rintro i d w7 ⟨hi,hq7,k,D,hdrop,hkl,hJk,hDk⟩ K8 hK8
 simp only[gdz]
 refine gp_ ?_
 refine zj (λhlt=>?_) (λhge=>?_)
 ·have hlt:i<ws.length:=by omega
  obtain⟨bw,ow,hpw,_,hcw⟩:=acO hw hlt
  subst hpw
  refine gg_ ?_
  refine zg (by rw[tnc];exact hcw _ hq7) ?_
  rw[ae1 hlt,List.map_append,List.map_map]at hdrop
  refine zi (ι:=BitVec 64) (λx=>[u64 x])
   (λx w'=>Holds q w'∧∃k D,xs.drop k=(YM x).map (abI ∘ (64*i + ·))++(qY (i+1) (ws.drop (i+1))).map abI∧k≤xs.length∧J k D w'∧∀b,D b→∀o,¬q b o)
   (λx=>(YM x).length) ws[i] rfl ⟨hq7,k,D,hdrop,hkl,hJk,hDk⟩ ?_
  clear hdrop hkl hJk hDk hq7 k D
  rintro x d w8 ⟨hq8,k,D,hdrop,hkl,hJk,hDk⟩ K9 hK9
  simp only[gdz]
  refine akp ?_
  refine zj (λhx=>?_) (λhx=>?_)
  ·have hx:x≠0#64:=by rintro rfl;exact hx rfl
   obtain⟨t,ht,hlow,hwb⟩:=akZ hx
   refine gp_ ?_
   refine aaE (hT.1 _ hq8) hx ht hlow ?_
   refine gp_ ?_
   refine akF ?_
   rw[hwb,List.map_cons,List.cons_append]at hdrop
   have hd:=aj5 hdrop
   have hkk:k<xs.length:=(List.getElem?_eq_some_iff.1 hd.1).1
   refine YieldC.mono (hround k _ D w8 hd.1 hJk) ?_
   rintro e w9 ⟨bb,rfl,x9,hJb⟩
   refine⟨_,rfl,?_⟩
   refine gp_ ?_
   refine c_b (λhbb=>?_) (λhbb=>?_)
   ·have hbb:bb=false:=by simpa using hbb
    subst hbb
    exact .inr hJb
   ·have hbb:bb=true:=by simpa using hbb
    subst hbb
    obtain⟨D2,hD2,hJ2⟩:=hJb
    refine gp_ ?_
    refine ahl ?_
    rw[aft]
    refine hK9 _ _ ⟨hq8.but x9 ?_,k+1,D2,hd.2,hkk,hJ2,?_⟩ (by rw[hwb];exact Nat.lt_succ_self _)
    ·rintro b o hb (hn|rfl)
     ·exact hDk b hn o hb
     ·have:=h2.lt hb;omega
    ·intro b hb o ho
     rcases hD2 b hb with h|⟨h,_⟩
     ·exact hDk b h o ho
     ·have:=hq8.lt ho;omega
  ·have hx:x=0#64:=BitVec.eq_of_toNat_eq (by have :(0#64).toNat=0:=rfl;omega)
   subst hx
   refine gg_ ?_
   rw[aih,List.map_nil,List.nil_append]at hdrop
   exact hK8 (i+1) w8 ⟨hlt,hq8,k,D,hdrop,hkl,hJk,hDk⟩ (by omega)
 ·have hi':i=ws.length:=by omega
  subst hi'
  rw[List.drop_length]at hdrop
  have :k=xs.length:=by
   have h1:(xs.drop k).length=0:=by rw[hdrop];rfl
   rw[List.length_drop]at h1;omega
  subst this
  exact .inl ⟨D,hJk⟩
theorem ahb{K:Value→World→Prop}(hr:Holds r w)(hx:RwbC r c x)(hT:TabG r)
  (h:∀g s w',Ext w w'→New w s w'→qP s→(∀(D:Nat→Prop)(w2:World),(∀b,D b→∀o,¬(r.or s) b o)→Holds (r.or s) w2→afd Tryz.prog g w2 ((Jo x.1 x.2).map abI) D)→K g w'):zd Tryz.prog Tryz.X9 #[.agg c.toArray] w K:=by
 refine Tryz.agr ?_
 unfold Tryz.aa2
 have hx0:=hx
 obtain⟨W,ws⟩:=x
 simp only at h
 obtain⟨p,cap,rfl,hS⟩:=hx
 have S:=St.start hr
 refine S.box λb1 w1 S=>?_
 have S:StX noX w r w1 [.cell b1 [.int .i64 W,.slice p ws.length cap] 48]:=S
 refine S.ldB (b:=b1) ?_ rfl
 refine acR S.holds hx0 (λhm w2 e2=>?_) (λhm v2 w2 e2 h2=>?_)
 ·have S:=S.go e2
  refine gS_ ?_
  refine S.al λb3 w3 S=>?_
  refine S.stB (b:=b1) λw4 S=>?_
  refine S.st (b:=b3) λw5 S=>?_
  refine gp_ ?_
  have S:StX noX w r w5 [.cell b3 [.int .i64 2] 29,.cell b1 [.int .i64 0,.slice none 0 0] 48]:=S
  obtain⟨S,a3⟩:=StX.frzNew S b3
  rw[ai6 hm]at h
  refine h _ _ _ S.ext (S.newOf a3) inferInstance λD w6 hD h6=>⟨_,_,rfl,by kernel_rfl,λl W1 J Jx hW hl hlt hJ hJx hround hJ0=>?_⟩
  refine Calls.mono (Tryz.QT (t0:=.func (.yield l) #[] #[]) (t1:=.pointer (some ⟨b3,0,none⟩)) (t2:=.pointer (some ⟨b1,0,none⟩)) (K:=λ_ W'=>(∃D,J 0 D W')∨Jx W') ?_) (λe W' hh=>by obtain⟨v,he,hk⟩:=hh;exact⟨⟨v,he⟩,hk⟩)
  unfold Tryz.Yk
  refine zg (xP (q:=r.or (Go.Sh.one b3 [.int .i64 2] 29)) (c:=[.int .i64 2]) (T:=29) (v:=.int .i64 2) rfl _ (h6.ext hW)) ?_
  refine gp_ ?_
  exact c_t rfl (.inl ⟨D,hJ0⟩)
 ·have S:=S.take e2 h2
  simp only at S
  have hM:BM.May W ws:=QU hm
  have hl:ws.length≤100000:=by have:=hM.2.1;have:=hM.2.2.1;omega
  obtain⟨p2,cap2,rfl,_⟩:=S.rowS v2
  refine gS_ ?_
  refine S.al λb3 w3 S=>?_
  refine S.stB (b:=b1) λw4 S=>?_
  refine S.st (b:=b3) λw5 S=>?_
  refine gp_ ?_
  have S:StX noX w r w5 [.cell b3 [.int .i64 0] 29,.row (.slice p2 ws.length cap2) 205 1 ws.length (wcs ws),.cell b1 [.int .i64 W,.slice p2 ws.length cap2] 48]:=S
  obtain⟨S,a3⟩:=StX.frzNew S b3
  obtain⟨s2,S,hw,hnb,a2⟩:=S.doneRow (l:=ws) aer (by decide) rfl
  obtain⟨S,a1⟩:=StX.frzNew S b1
  have a2:Above w s2:=λb o ho=>(a2 b o ho).resolve_right id
  have nb2:qP s2:=⟨λb o ho=>by obtain⟨c,rfl⟩:=hnb b o ho;rfl⟩
  have S:StX noX w (r.or (((Go.Sh.one b3 [.int .i64 0] 29).or s2).or (Go.Sh.one b1 [.int .i64 W,.slice p2 ws.length cap2] 48))) w5 []:=S.less (by
   rintro b o (h|(h|h)|h)
   ·exact .inl (.inl (.inl h))
   ·exact .inl (.inl (.inr h))
   ·exact .inl (.inr h)
   ·exact .inr h) (List.Sublist.refl _)
  rw[aes hM]at h
  refine h _ _ _ S.ext (S.newOf ((a3.or' a2).or' a1)) inferInstance λD w6 hD h6=>?_
  exact ai7 (xP (c:=[.int .i64 0]) (T:=29) rfl) (xP (c:=[.int .i64 W,.slice p2 ws.length cap2]) (T:=48) rfl) hw.cells hl hT.up hD h6
def lackL(W:Int)(ws vs:List (BitVec 64)):List Nat:=(List.range W.toNat).filter λk=>bit vs k && !bit ws k
theorem ai8{vs:List (BitVec 64)}(h:BM.May W ws)(h':BM.May W vs):Jo W (List.zipWith (λx y=>x &&& ~~~ y) vs ws)=lackL W ws vs:=by
 have hl:vs.length=ws.length:=by have:=h.2.2.1;have:=h'.2.2.1;omega
 have hz:(0:BitVec 64) &&& ~~~ 0=0:=by decide
 have hm:=ak0 (g:=λx y=>x &&& ~~~ y) (h:=λa b=>a && !b) agp hz rfl h' h
 rw[aes hm,aii hm,lackL]
 apply List.filter_congr
 intro k _
 exact ahD (h:=λa b=>a && !b) agp hz hl k
def agv(l:List Nat):Value:=.tuple #[.int .i64 ((l.headD 0:Nat):Int),.bool (!l.isEmpty),.int .i64 0]
theorem aj6{P:Program}{s:Sem Value}(h:opQ P w s λv=>K v w):opW P w s λv w'=>NC w w'∧K v w':=w_q (by
 obtain⟨v,h1,h2⟩:=h
 exact⟨v,h1,NC.of_ext (Ext.refl w),h2⟩)
theorem agw{K:Value→World→Prop}(hr:Holds r w)(hx:RwbC r cx x)(hy:RwbC r cy y)(hT:TabG r)
  (h1:¬(BM.mayB x.1 x.2=true∧BM.mayB y.1 y.2=true∧x.1=y.1)→∀w',Ext w w'→K (.tuple #[.int .i64 0,.bool false,.int .i64 2]) w')
  (h2:BM.mayB x.1 x.2=true→BM.mayB y.1 y.2=true→x.1=y.1→∀w',Ext w w'→K (agv (lackL x.1 x.2 y.2)) w'):zd Tryz.prog Tryz.Y1 #[.agg cx.toArray,.agg cy.toArray] w K:=by
 refine Tryz.ae3 ?_
 unfold Tryz.VY
 have hx0:=hx;have hy0:=hy
 obtain⟨p,cap,rfl,hS⟩:=hx
 obtain⟨q,caq,rfl,hQ⟩:=hy
 have S:=St.start hr
 have hlow:=S.low
 refine S.boxN λb2 w1 _ S=>?_
 refine S.boxN λb3 w2 _ S=>?_
 refine S.alN λb4 w3 _ S=>?_
 refine S.alN λb5 w4 _ S=>?_
 refine S.alN λb6 w5 _ S=>?_
 have S:StX noX w r w5 [.cell b6 [.int .i64 0] 29,.cell b5 [.bool false] 4,.cell b4 [.int .i64 0] 3,.cell b3 [.int .i64 y.1,.slice q y.2.length caq] 48,.cell b2 [.int .i64 x.1,.slice p x.2.length cap] 48]:=S
 refine S.ldB (b:=b3) ?_ rfl
 refine S.ldB (b:=b2) ?_ rfl
 refine aha S.holds hy0 hx0 (λhn w6 e6=>⟨NC.of_ext e6,?_⟩) λhmy hmx he c6 s6 w6 e6 n6 nb6 h6=>⟨NC.of_ext e6,?_⟩
 ·have S:=S.go e6
  refine gS_ ?_
  refine S.alN λb7 w7 _ S=>?_
  refine S.stBN (b:=b7) λw8 S=>?_
  refine S.stN' (b:=b6) λw9 S=>?_
  refine S.ld (b:=b6) ?_
  refine gp_ ?_
  refine c_t rfl ?_
  have S:=S.go (Ext.drew _)
  have fin:∀W,StX noX w r W [.cell b7 [.int .i64 0,.slice none 0 0] 48,.cell b6 [.int .i64 2] 29,.cell b5 [.bool false] 4,.cell b4 [.int .i64 0] 3,.cell b3 [.int .i64 y.1,.slice q y.2.length caq] 48,.cell b2 [.int .i64 x.1,.slice p x.2.length cap] 48]→
    ∀W',Shuts w.heap.size W W'→opQ Tryz.prog W' (zf 3 (.pointer (some ⟨b4,0,none⟩))) λr15=>opQ Tryz.prog W' (zf 4 (.pointer (some ⟨b5,0,none⟩))) λr16=>opQ Tryz.prog W' (zf 29 (.pointer (some ⟨b6,0,none⟩))) λr17=>K (.tuple #[r15,r16,r17]) W':=λW S W' e=>by
   have S:=S.shut e
   refine S.ce (b:=b4) ?_
   refine S.ce (b:=b5) ?_
   refine S.ce (b:=b6) ?_
   exact h1 (λhh=>hn ⟨hh.2.1,hh.1,hh.2.2.symm⟩) _ S.ext
  refine⟨?_,?_⟩
  ·refine aj6 (S.ld (b:=b6) ?_)
   refine S.stN' (b:=b4) λw11 S=>?_
   refine S.stN' (b:=b5) λw12 S=>?_
   refine S.stN' (b:=b6) λw13 S=>?_
   exact fin _ S
  ·refine S.stN' (b:=b4) λw18 S=>?_
   refine⟨?_,?_⟩
   ·refine aj6 (S.ld (b:=b6) ?_)
    refine S.stN' (b:=b5) λw12 S=>?_
    refine S.stN' (b:=b6) λw13 S=>?_
    exact fin _ S
   ·refine S.stN' (b:=b5) λw12 S=>?_
    refine aj6 (S.ld (b:=b6) ?_)
    refine S.stN' (b:=b6) λw13 S=>?_
    exact fin _ S
 ·obtain⟨S,_,_⟩:=S.tell e6 n6
  have h6':=h6
  obtain⟨p6,cap6,rfl,h6S⟩:=h6
  refine gS_ ?_
  refine S.alN λb7 w7 _ S=>?_
  refine S.stBN (b:=b7) λw8 S=>?_
  refine S.stN' (b:=b6) λw9 S=>?_
  refine S.ld (b:=b6) ?_
  refine gp_ ?_
  refine c_f rfl ?_
  refine S.ldB (b:=b7) ?_ rfl
  refine ahb S.holds (RwbC.up h6') hT.up λg s w10 e10 n10 nb10 hI=>⟨NC.of_ext e10,?_⟩
  obtain⟨S,_,_⟩:=S.tell e10 n10
  have S:StX noX w ((r.or s6).or s) w10 [.cell b6 [.int .i64 0] 29,.cell b5 [.bool false] 4,.cell b4 [.int .i64 0] 3]:=S.less (λ_ _ h=>h) (.cons _ (.cons_cons _ (.cons_cons _ (.cons_cons _ (List.nil_sublist _)))))
  have hE:Jo y.1 (List.zipWith (λx y=>x &&& ~~~ y) y.2 x.2)=lackL x.1 x.2 y.2:=by
   rw[he];exact ai8 (QU hmx) (he▸QU hmy)
  simp only at hI
  rw[hE]at hI
  have hk:=h2 hmx hmy he.symm
  generalize lackL x.1 x.2 y.2=l at hI hk
  have hw10:=S.x.size
  have hlow':Low w.heap.size ((r.or s6).or s):=inferInstance
  have hlow10:=S.low
  have fin:∀(k:Int)(is:Bool),agv l=.tuple #[.int .i64 k,.bool is,.int .i64 0]→∀W,StX noX w ((r.or s6).or s) W [.cell b6 [.int .i64 0] 29,.cell b5 [.bool is] 4,.cell b4 [.int .i64 k] 3]→
    ∀W',Shuts w.heap.size W W'→opQ Tryz.prog W' (zf 3 (.pointer (some ⟨b4,0,none⟩))) λr15=>opQ Tryz.prog W' (zf 4 (.pointer (some ⟨b5,0,none⟩))) λr16=>opQ Tryz.prog W' (zf 29 (.pointer (some ⟨b6,0,none⟩))) λr17=>K (.tuple #[r15,r16,r17]) W':=λk is hv W S W' e=>by
   have S:=S.shut e
   refine S.ce (b:=b4) ?_
   refine S.ce (b:=b5) ?_
   refine S.ce (b:=b6) ?_
   have:=hk _ S.ext
   rwa[hv]at this
  refine akJ (l.map abI) (Vb [.cell b6 [.int .i64 0] 29,.cell b5 [.bool false] 4,.cell b4 [.int .i64 0] 3])
   (λW=>StX noX w ((r.or s6).or s) W [.cell b6 [.int .i64 0] 29,.cell b5 [.bool false] 4,.cell b4 [.int .i64 0] 3])
   (λW=>StX noX w ((r.or s6).or s) W [.cell b6 [.int .i64 0] 29,.cell b5 [.bool true] 4,.cell b4 [.int .i64 ((l.headD 0:Nat):Int)] 3])
   (ajv S) (hI _ _ (λb hb o ho=>?_) S.holds) ?_ ?_ ?_ S ?_ ?_ ?_
  ·obtain⟨x,hx,hd⟩:=YT.1 hb
   exact(S.mine x hx b hd).2 o ho
  ·intro y hy
   obtain⟨z,_,rfl⟩:=List.mem_map.1 hy
   rfl
  ·intro W W' S e;exact S.nl e hw10
  ·intro W W' S e;exact S.nl e hw10
  ·rintro x36 r36 W hxs S KR hKR
   refine⟨.refl _,λW9 e9=>?_⟩
   have S:=S.nl e9 hw10
   cases l with
   |nil=>cases hxs
   |cons k l=>
    cases hxs
    simp only[gdz]
    have R:=S.part
    refine R.stN' (b:=b4) λw10 R=>?_
    refine R.stN' (b:=b5) λw11 R=>?_
    refine R.stN' (b:=b6) λw12 R=>?_
    have S2:=S.whole R λ_ h=>h
    exact⟨R.x,hKR _ S2⟩
  ·intro hxs W S
   have hl:l=[]:=List.map_eq_nil_iff.1 hxs
   subst hl
   refine S.stN' (b:=b4) λw11 S=>?_
   refine S.stN' (b:=b5) λw12 S=>?_
   refine S.stN' (b:=b6) λw13 S=>?_
   exact fin 0 false rfl _ S
  ·intro x36 r36 hxs W S
   cases l with
   |nil=>cases hxs
   |cons k l=>exact fin k true rfl _ S
end Go.Proofs
end
