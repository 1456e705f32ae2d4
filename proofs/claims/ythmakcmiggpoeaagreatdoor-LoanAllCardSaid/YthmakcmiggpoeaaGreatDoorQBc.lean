/-
  Contracts and plain laws that the last text leans on.
-/
import Derived.Test.YthmakcmiggpoeaaGreatDoorQBb
import Derived.ArgAppend
import Derived.Test.YthmakcmiggpoeaaGreatDoorQBa
import Derived.ChangeSame
import Derived.ChangeStays
import Derived.ReadAgain
import Derived.ProofKit
import Derived.OpenShut
import Derived.Deep.DeepHandedRow
import Derived.Lib.LaidTab
import Derived.Lib.SmallJoins
import Derived.ChangeArms
import Derived.DataReads
set_option maxRecDepth 100000
set_option maxHeartbeats 8000000
set_option linter.unusedVariables false
set_option linter.unusedSimpArgs false
namespace Go.Sh
open Go.RowKit
section
theorem g_TT{A B:Prop}(a:A):gIf (.bool true) true A B:=a
theorem g_FF{A B:Prop}(a:A):gIf (.bool false) false A B:=a
theorem g_TF{A B:Prop}(b:B):gIf (.bool true) false A B:=b
theorem g_FT{A B:Prop}(b:B):gIf (.bool false) true A B:=b
section
variable {w:World} {A:(List Value→World→Prop)→Prop} {Z:Value→World→Prop} {b c:Bool}
theorem anq(R:World→Prop)(h0:b=true→R w)(hA:b=false→∀K:List Value→World→Prop,(∀w',R w'→K [.bool c] w')→A K)(hZ:∀w',R w'→Z (.bool (b||c)) w'):
  za (λK=>gIf (.bool b) false (A K) (K [u_] w)) λs _ w'=>zb (.bool b) (.bool true) (s.getD 0 u_) λt=>Z t w':=by
 intro K hK
 cases b with
 |true=>exact hK _ _ λ_=>⟨true,rfl,by simpa using hZ w (h0 rfl)⟩
 |false=>exact hA rfl K λw' e=>hK _ _ λ_=>⟨false,rfl,by simpa using hZ w' e⟩
end
theorem g_UU{want:Bool}{A B:Prop}(b:B):gIf u_ want A B:=b
section
variable {P:Program} {w:World} {t e:TypeId} {size n m:Nat} {v:Value} {xs news:List Value}
theorem Que.of_row{base:Nat}(h:w.ownsRow base e size v n xs):Que w e size v n xs:=by
 refine⟨h.1,?_⟩
 rcases kK h with⟨rfl,rfl,rfl⟩|⟨g,cap,c,rfl,hb,B,h1,h2,h3,h4⟩
 ·exact .inl ⟨rfl,rfl⟩
 ·exact .inr ⟨g,0,cap,c,rfl,B,h1,h2,by omega,by rw[List.drop_zero];exact h4⟩
theorem Que.shape(h:Que w e size v n xs):∃p cap,v=.slice p n cap∧(p=none→cap=0)∧n≤cap∧xs.length=n*size∧Sl w p xs:=by
 obtain⟨hl,⟨rfl,rfl⟩|⟨g,off,cap,c,rfl,B,h1,h2,h3,h4⟩⟩:=h
 ·have hx:xs=[]:=by simpa using hl
  subst hx
  exact⟨none,0,rfl,λ_=>rfl,Nat.le_refl _,hl,Sl.nil _ _⟩
 ·refine⟨_,cap,rfl,by simp,h1,hl,λi v hv=>⟨g,off,rfl,?_⟩⟩
  rw[B.cell]
  rw[← h4,List.getElem?_take]at hv
  split at hv
  ·rwa[List.getElem?_drop]at hv
  ·cases hv
theorem ake{K:Value→World→Prop}{ty:TypeId}{bytes:Nat}{a:Addr}{c:Nat}
  (hT:apT P t=some (e,size,bytes)) (hown:Que w e size v n xs) (hs:Sl w (some a) news) (hl:news.length=m*size) (h1:∀u∈news,u.oneCell'=true)
  (hb:(n+m)*bytes≤140737488355328)
  (h:∀v' w',Que w' e size v' (n+m) (xs++news)→ExtBut (λk=>v.ownBlock=some k) w w'→(v'.ownBlock=v.ownBlock∨v'.ownBlock=some w.heap.size)→K v' w'):
  opW P w (Builtin.append_ #[t,t] ty #[v,.slice (some a) m c]) K:=by
 rcases hown with⟨hxl,⟨rfl,rfl⟩|⟨g,off,cap,cur,rfl,B,h2,h3,h4,h5⟩⟩
 ·have hx:xs=[]:=by simpa using hxl
  subst hx
  exact ag0 hT (World.ownsRow_nil w 0 e size) hs hl (by simp) h1 hb (gzl _) λv' w' h6 h7 h8 _=>h v' w' (.of_row h6) h7 h8
 unfold apT at hT
 cases hu:P.underlying t with
 |none=>rw [hu]at hT;cases hT
 |some d=>
  rw[hu]at hT
  cases d<;>first|(cases hT;done)|skip
  rename_i e'
  simp only[Option.bind_eq_some_iff]at hT
  obtain⟨i,hi,hT⟩:=hT
  cases hz:i.zero with
  |none=>rw [hz]at hT;cases hT
  |some z=>
   rw[hz]at hT
   simp only at hT
   split at hT
   ·rename_i hc
    obtain⟨hzs,hsz,hbp⟩:=hc
    simp only[Option.some.injEq,Prod.mk.injEq]at hT
    obtain⟨rfl,rfl,rfl⟩:=hT
    have hnews:∀j u,news[j]? = some u→w.cell? (a.add j)=some u:=λj u hj=>by obtain⟨b,off,hp,hc⟩:=hs j u hj;cases hp;rw[k9];exact hc
    have hlen:(xs++news).length=(n+m)*i.size:=by rw[gla,hxl,hl,Nat.add_mul]
    by_cases hroom:n+m≤cap
    ·have hmul:(n+m)*i.size≤cap*i.size:=Nat.mul_le_mul_right _ hroom
     have hfit:off+n*i.size+news.length≤cur.length:=by rw[hl];rw[Nat.add_mul]at hmul;omega
     have hf:=run_firstCells_some (P:=P) w i.size m a m c news hl hnews
     have hst:=run_storeCells_at P g (off+n*i.size) e' news 0 cur.toArray w B (by simpa using hfit) h1
     simp only[Nat.add_zero]at hst
     obtain⟨f1,f2,f3⟩:=V3 B (cur.take (off+n*i.size)++news++cur.drop (off+n*i.size+news.length))
     refine⟨_,_,by simp[Builtin.append_,run_underlying hu,sizeOf,typeInfo,hi,Builtin.lenOf,hroom,hf,Addr.add_lit,hst],h _ _ ⟨hlen,.inr ⟨g,off,cap,_,rfl,f3,hroom,h3,?_,?_⟩⟩ (f1.mono λk _ hk=>by cases hk;rfl) (.inl rfl)⟩
     ·simp only[gla,List.length_take,List.length_drop];omega
     ·rw[← hlen,List.append_assoc,List.drop_append_of_le_length (by rw[List.length_take];omega),List.drop_take,show off+n*i.size-off=n*i.size by omega,h5,← List.append_assoc,List.take_left']
      rfl
    ·have h63:n+m≤maxLen:=by
      have :(n+m)*1≤(n+m)*i.bytes:=Nat.mul_le_mul_left _ hbp
      simp only[maxLen];omega
     obtain⟨v',w',hr,ho,hg⟩:=run_append_arg_grows (P:=P) w t ty e' i z i.size i.bytes hu hi hz rfl rfl hzs hsz ⟨g,off,none⟩ n cap xs hxl (λj u hj=>by
      rw[k9,B.cell]
      rw[← h5,List.getElem?_take]at hj
      split at hj
      ·rwa[List.getElem?_drop]at hj
      ·cases hj) a m c news hl hnews (by omega) h63 hb
     refine⟨v',w',hr,h v' w' (.of_row ho) ⟨hg.os,hg.tape,hg.output,hg.size,λk hk _=>hg.block k hk (by simp)⟩ ?_⟩
     have hr2:=run_append_grow (P:=P) w t ty e' i z hu hi hz ⟨g,off,none⟩ n cap xs hxl (λj u hj=>by
      rw[k9,B.cell]
      rw[← h5,List.getElem?_take]at hj
      split at hj
      ·rwa[List.getElem?_drop]at hj
      ·cases hj) a m c news hl hnews (by omega) (by simp only[maxLen]at h63;omega) (growslice_fits (by omega) hb)
     rw[hr]at hr2
     injection hr2 with e1 e2
     rw[e1];exact .inr rfl
   ·cases hT
theorem Que.drop{g off cap i:Nat}(h:Que w e size (.slice (some ⟨g,off,none⟩) n cap) n xs)(hi:i≤n):
  Que w e size (.slice (if cap=i then some ⟨g,off,none⟩else(some (⟨g,off,none⟩:Addr)).map (·.add (i*size))) (n-i) (cap-i)) (n-i) (xs.drop (i*size)):=by
 obtain⟨hl,⟨h0,_⟩|⟨g',off',cap',c,hv,B,h1,h2,h3,h4⟩⟩:=h
 ·cases h0
 cases hv
 refine⟨by rw[List.length_drop,hl,Nat.sub_mul],.inr ?_⟩
 by_cases hc:cap=i
 ·rw[if_pos hc]
  have :n-i=0:=by omega
  refine⟨g,off,cap-i,c,rfl,B,by omega,by omega,?_,?_⟩
  ·have :(cap-i)*size=0:=by rw[show cap-i=0 by omega,Nat.zero_mul]
   omega
  ·rw[this,Nat.zero_mul,List.take_zero,eq_comm,List.drop_eq_nil_iff,hl]
   exact Nat.mul_le_mul_right _ (by omega)
 ·rw[if_neg hc]
  refine⟨g,off+i*size,cap-i,c,by simp only[Option.map_some,k9],B,by omega,by omega,?_,?_⟩
  ·have :i*size≤cap*size:=Nat.mul_le_mul_right _ (by omega)
   rw[Nat.sub_mul];omega
  ·rw[← h4,List.drop_take,List.drop_drop,Nat.sub_mul]
end
theorem aol{P:Program}{w:World}{f:FuncId}{K:Value→World→Prop}{x0:Value}(he:xN P f=true)(h:zd P f #[x0] w K):zD P (.func (.func f) #[] #[]) #[x0] w K:=kk he h
theorem aa8{P:Program}{w:World}{f:FuncId}{K:Value→World→Prop}{x0 c0:Value}(he:xN P f=true)(h:zd P f #[x0,c0] w K):zD P (.func (.func f) #[] #[c0]) #[x0] w K:=kk he h
theorem adg{P:Program}{w:World}{f:FuncId}{K:Value→World→Prop}{x0 c0 c1:Value}(he:xN P f=true)(h:zd P f #[x0,c0,c1] w K):zD P (.func (.func f) #[] #[c0,c1]) #[x0] w K:=kk he h
theorem aml{P:Program}{w:World}{f:FuncId}{K:Value→World→Prop}{x0 c0 c1 c2 c3:Value}(he:xN P f=true)(h:zd P f #[x0,c0,c1,c2,c3] w K):zD P (.func (.func f) #[] #[c0,c1,c2,c3]) #[x0] w K:=kk he h
theorem aom{P:Program}{w:World}{f:FuncId}{K:Value→World→Prop}{x0 x1:Value}(he:xN P f=true)(h:zd P f #[x0,x1] w K):zD P (.func (.func f) #[] #[]) #[x0,x1] w K:=kk he h
theorem aon{P:Program}{w:World}{f:FuncId}{K:Value→World→Prop}{x0 x1 c0:Value}(he:xN P f=true)(h:zd P f #[x0,x1,c0] w K):zD P (.func (.func f) #[] #[c0]) #[x0,x1] w K:=kk he h
theorem aoo{P:Program}{w:World}{f:FuncId}{K:Value→World→Prop}{x0 x1 x2 c0:Value}(he:xN P f=true)(h:zd P f #[x0,x1,x2,c0] w K):zD P (.func (.func f) #[] #[c0]) #[x0,x1,x2] w K:=kk he h
class J0(v:Value)(L:List Asr)(e:outParam TypeId)(sz n:outParam Nat)(xs:outParam (List Value))(f:outParam (Asr→List Asr)):Prop where
 h:∃p q,L=p++.que v e sz n xs::q∧∀y,f y=p++y::q
instance {v:Value} {e:TypeId} {sz n:Nat} {xs:List Value} {L:List Asr}:J0 v (.que v e sz n xs::L) e sz n xs λy=>y::L:=⟨[],L,rfl,λ_=>rfl⟩
instance (priority:=low) {v:Value} {e:TypeId} {sz n:Nat} {xs:List Value} {x:Asr} {L:List Asr} {f:Asr→List Asr} [h:J0 v L e sz n xs f]:J0 v (x::L) e sz n xs λy=>x::f y:=⟨by
 obtain⟨p,q,h1,h2⟩:=h.h
 exact⟨x::p,q,by rw[h1];rfl,λc'=>by rw[h2];rfl⟩⟩
section
variable {P:Program} {X:Nat→Prop} {w0 w:World} {r:Gh} {L:List Asr} {t e:TypeId} {sz n m:Nat} {v:Value} {xs news:List Value} {g:Asr→List Asr}
theorem StX.que(S:StX X w0 r w L)(v:Value)[h:J0 v L e sz n xs g]:Que w e sz v n xs:=by
 obtain⟨pp,qq,h2,h3⟩:=h.h
 exact S.has (.que v e sz n xs) (by rw[h2];simp)
theorem StX.queS(S:StX X w0 r w L)(v:Value)[h:J0 v L e sz n xs g]:∃p cap,v=.slice p n cap∧(p=none→cap=0)∧n≤cap∧xs.length=n*sz∧Sl w p xs:=
 (S.que v (h:=h)).shape
theorem StX.toQue(S:StX X w0 r w L)(v:Value)[h:qc v L e sz n xs g]:StX X w0 r w (g (.que v e sz n xs)):=by
 obtain⟨pp,qq,h2,h3⟩:=h.h
 have hr:=S.has (.row v e sz n xs) (by rw[h2];simp)
 rw[h3]
 rw[h2]at S
 exact S.turn (x:=.row v e sz n xs) (y:=.que v e sz n xs) (ExtBut.refl _ _) (Que.of_row hr) λk hk=>.inl hk
theorem StX.apQ(S:StX X w0 r w L){ty:TypeId}{by' cap:Nat}{a:Addr}[h:J0 v L e sz n xs g][z:ApT P t e sz by']{K:Value→World→Prop}
  (hs:Sl w (some a) news) (k:∀v' w',StX X w0 r w' (g (.que v' e sz (n+m) (xs++news)))→K v' w')
  (hb:(n+m)*by'≤140737488355328) (hl:news.length=m*sz:=by simp) (h1:∀u∈news,u.oneCell'=true:=by simp[Value.oneCell']):opW P w (Builtin.append_ #[t,t] ty #[v,.slice (some a) m cap]) K:=by
 obtain⟨pp,qq,h2,h3⟩:=h.h
 have hr:=S.has (.que v e sz n xs) (by rw[h2];simp)
 refine ake z.h hr hs hl h1 hb λv' w' h4 h5 h6=>k v' w' ?_
 rw[h3]
 rw[h2]at S
 refine S.turn (x:=.que v e sz n xs) (y:=.que v' e sz (n+m) (xs++news)) h5 h4 λj hj=>?_
 rw[Asr.dom]at hj
 rcases h6 with h6|h6
 ·rw[h6]at hj;exact .inl hj
 ·rw[h6]at hj;cases hj;exact .inr (Nat.le_refl _)
theorem StX.loQ(S:StX X w0 r w L){e':TypeId}{kd:IntKind}{i:Int}[h:J0 v L e sz n xs g][z:SlT P t e' sz]{K:Value→Prop}
  (h0:0≤i) (hi:i≤n) (hn:0<n) (k:∀v',StX X w0 r w (g (.que v' e sz (n-i.toNat) (xs.drop (i.toNat*sz))))→K v'):opP P (Instr.sliceAt t v (some (.int kd i)) none none) K:=by
 obtain⟨pp,qq,h2,h3⟩:=h.h
 have hr:=S.has (.que v e sz n xs) (by rw[h2];simp)
 have hr0:=hr
 rcases hr.2 with⟨rfl,h4⟩|⟨gb,off,cap,c,rfl,_⟩
 ·omega
 refine afo z.h h0 hi (k _ ?_)
 rw[h3]
 rw[h2]at S
 refine S.turn (x:=.que (.slice (some ⟨gb,off,none⟩) n cap) e sz n xs) (y:=.que _ e sz _ _) (ExtBut.refl _ _) (Que.drop hr0 (by omega)) λj hj=>.inl ?_
 simp only[Asr.dom]at hj⊢
 split at hj
 ·exact hj
 ·simp only[Option.map_some,k9]at hj;exact hj
end
theorem StX.mkS{P:Program}{X:Nat→Prop}{w0 w:World}{r:Gh}{L:List Asr}{t e:TypeId}{bytes:Nat}{kl:IntKind}{n:Int}{z:Value}(S:StX X w0 r w L)[hT:ApT P t e 1 bytes][hz:ZrT P e [z]]{K:Value→World→Prop}(h0:0≤n)(hb:(bytes:Int)*n≤281474976710656)
  (h:∀b w',StX X w0 r w' (.cell b (List.replicate n.toNat z) e::L)→K (.slice (some ⟨b,0,none⟩) n.toNat n.toNat) w'):opW P w (Instr.makeSlice t (.int kl n) (.int kl n)) K:=
 aka hT.h hz.h h0 hb λb w' hb e _ B=>h b w' (S.add e (by omega) B)
class ZT(b:Nat)(L:List Asr)(c:outParam (List Value))(T:outParam TypeId)(M:outParam (List Asr)):Prop where
 h:L.Perm (.cell b c T::M)
instance {b:Nat} {c:List Value} {T:TypeId} {L:List Asr}:ZT b (.cell b c T::L) c T L:=⟨.refl _⟩
instance (priority:=low) {b:Nat} {c:List Value} {T:TypeId} {x:Asr} {L M:List Asr} [h:ZT b L c T M]:ZT b (x::L) c T (x::M):=⟨(h.h.cons x).trans (.swap _ _ _)⟩
theorem StX.permO{X:Nat→Prop}{w0 w:World}{r:Gh}{L M:List Asr}(S:StX X w0 r w L)(h:M.Perm L):StX X w0 r w M:=
 ⟨S.x,S.holds,λx hx=>S.has x (h.subset hx),λx hx=>S.mine x (h.subset hx),h.symm.pairwise S.apart λhab k hb ha=>hab k ha hb⟩
theorem StX.frzAt{X:Nat→Prop}{w0 w:World}{r:Gh}{L M:List Asr}(S:StX X w0 r w L)(b:Nat){c:List Value}{T:TypeId}[h:ZT b L c T M]:StX X w0 (r.or (Go.Sh.one b c T)) w M:=
 (S.permO h.h.symm).frz
theorem StX.drop{X:Nat→Prop}{w0 w:World}{r:Gh}{L M:List Asr}(S:StX X w0 r w L)(b:Nat){c:List Value}{T:TypeId}[h:ZT b L c T M]:StX X w0 r w M:=
 (S.permO h.h.symm).tl
end
theorem zg{w:World}{A:(List Value→World→Prop)→Prop}{Z:Value→World→Prop}{b c:Bool}(hA:b=true→∀K:List Value→World→Prop,K [.bool c] w→A K)(hZ:Z (.bool (b&&c)) w):
  za (λK=>gIf (.bool b) true (A K) (K [u_] w)) λs _ w'=>zb (.bool b) (s.getD 0 u_) (.bool false) λt=>Z t w':=by
 intro K hK
 cases b with
 |true=>exact hA rfl K (hK _ _ λ_=>⟨true,rfl,by simpa using hZ⟩)
 |false=>exact hK _ _ λ_=>⟨false,rfl,by simpa using hZ⟩
theorem zn{w:World}{A:(List Value→World→Prop)→Prop}{Z:Value→World→Prop}{b c:Bool}(hA:b=false→∀K:List Value→World→Prop,K [.bool c] w→A K)(hZ:Z (.bool (b||c)) w):
  za (λK=>gIf (.bool b) false (A K) (K [u_] w)) λs _ w'=>zb (.bool b) (.bool true) (s.getD 0 u_) λt=>Z t w':=by
 intro K hK
 cases b with
 |true=>exact hK _ _ λ_=>⟨true,rfl,by simpa using hZ⟩
 |false=>exact hA rfl K (hK _ _ λ_=>⟨false,rfl,by simpa using hZ⟩)
end Go.Sh
namespace Go.Proofs
open Go.Sh
section
namespace Gr
variable {α β:Type}
end Gr
end
section
inductive XL:Gh→Value→TyD→Prop
 |nil {sn:Gh} {v:Value} {k re st:Int} {m:Bool}:XL sn v (.mk k m re st [])
 |one {sn:Gh} {b:Nat} {c:List Value} {k re st:Int} {m:Bool} {u:TyD} (no:∀o,¬sn b o) (hc:c.length=5) (ht:TyG sn (.agg c.toArray) u) (h:XL sn (.agg c.toArray) u):
  XL (sn.or (Go.Sh.one b c 43)) (.agg #[.int .u8 k,.bool m,.int .i64 re,.int .i64 st,.slice (some ⟨b,0,none⟩) 1 1]) (.mk k m re st [u])
theorem adh{r:Gh}{v:Value}{u:TyD}{b:Nat}{k re st:Int}{m:Bool}(h:TyG r v u):
  TyG (r.or (Go.Sh.one b v.cells.toList 43)) (.agg #[.int .u8 k,.bool m,.int .i64 re,.int .i64 st,.slice (some ⟨b,0,none⟩) 1 1]) (.mk k m re st [u]):=by
 obtain⟨c,rfl,hc,hr⟩:=h.rep
 refine⟨_,1,rfl,by simp,Nat.le_refl _,?_⟩
 refine⟨⟨c,hc,λj x hj=>⟨b,0,rfl,λw hw=>?_⟩,hr.up⟩,trivial⟩
 have B:=xj (b:=b) (c:=(Value.agg c.toArray).cells.toList) (T:=43) w (hw.le (h:=inferInstance))
 show w.cell? ⟨b,0+0*5+j,none⟩=some x
 rw[show 0+0*5+j=j by omega,B.cell]
 exact hj
theorem yH{r:Gh}{k re st:Int}{m:Bool}:TyG r (.agg #[.int .u8 k,.bool m,.int .i64 re,.int .i64 st,.slice none 0 0]) (.mk k m re st []):=
 ⟨none,0,rfl,λ_=>rfl,Nat.le_refl _,trivial⟩
def zI:TyD:=.mk 0 false 0 0 []
theorem _root_.Go.Sh.StX.perm{X:Nat→Prop}{w0 w:World}{r:Gh}{L M:List Asr}(S:StX X w0 r w L)(hp:L.Perm M):StX X w0 r w M:=
 ⟨S.x,S.holds,λz hz=>S.has z (hp.mem_iff.2 hz),λz hz=>S.mine z (hp.mem_iff.2 hz),(List.Perm.pairwise_iff (λh k h1 h2=>h k h2 h1) hp).1 S.apart⟩
inductive ChnL:List Value→TyD→List Asr→Prop
 |nil {k re st:Int} {m:Bool}:ChnL [.int .u8 k,.bool m,.int .i64 re,.int .i64 st,.slice none 0 0] (.mk k m re st []) []
 |one {b:Nat} {c:List Value} {k re st:Int} {m:Bool} {u:TyD} {L:List Asr} (h:ChnL c u L):
  ChnL [.int .u8 k,.bool m,.int .i64 re,.int .i64 st,.slice (some ⟨b,0,none⟩) 1 1] (.mk k m re st [u]) (.cell b c 43::L)
theorem ChnL.len{c:List Value}{t:TyD}{L:List Asr}(h:ChnL c t L):c.length=5:=by cases h<;>rfl
theorem ChnL.ones{c:List Value}{t:TyD}{L:List Asr}(h:ChnL c t L):∀u∈c,u.oneCell'=true:=by
 cases h<;>simp [Value.oneCell']
theorem ChnL.frz{X:Nat→Prop}{w0 w:World}{c:List Value}{t:TyD}{N:List Asr}(h:ChnL c t N):∀{r:Gh}{L:List Asr},StX X w0 r w (N++L)→
  ∃sn,StX X w0 (r.or sn) w L∧TyG sn (.agg c.toArray) t∧XL sn (.agg c.toArray) t∧(∀b o,sn b o→w0.heap.size≤b∨X b):=by
 induction h with
 |nil=>
  intro r L S
  exact⟨nothing,S.to _,yH,.nil,λ_ _ h=>h.elim⟩
 |@one b c k re st m u N hu ih=>
  intro r L S
  have S:StX X w0 r w (N++(.cell b c 43::L)):=S.perm List.perm_middle.symm
  obtain⟨sn,S,ht,hg,hf⟩:=ih S
  have hm:=S.mine (.cell b c 43) (by simp) b rfl
  have S:=S.frz
  refine⟨sn.or (Go.Sh.one b c 43),S.to _,adh ht,.one (λo ho=>hm.2 o (.inr ho)) hu.len ht hg,λb' o ho=>?_⟩
  rcases ho with ho|⟨rfl,_⟩
  ·exact hf b' o ho
  ·exact hm.1
section
variable {X:Nat→Prop} {w0 w:World} {r:Gh} {L:List Asr}
theorem QW{s:Int}:∀(n:Nat){t:TyD}{w:World}{r:Gh}{L:List Asr}{v:Value}{K:Value→World→Prop},n≤1000→zt s n t=true→StX X w0 r w L→TyG r v t→
  (∀c N w',ChnL c t N→StX X w0 r w' (N++L)→K (.agg c.toArray) w')→zd Tryz.prog Tryz.qJ #[v] w K:=by
 intro n
 induction n with
 |zero=>intro t w r L v K _ h;cases h
 |succ n ih=>
  intro t w r L v K hn hl S hv h
  refine Tryz.ahc ?_
  unfold Tryz.abC
  obtain⟨p,cap,rfl,_,_,hof⟩:=hv
  refine S.box λb1 w1 S=>?_
  have S:StX X w0 r w1 (.cell b1 [.int .u8 t.k,.bool t.m,.int .i64 t.re,.int .i64 t.st,.slice p t.of.length cap] 43::L):=S
  refine S.al λb2 w2 S=>?_
  refine zk (λ_ w'=>∃q m N,ChnL [.int .u8 t.k,.bool t.m,.int .i64 t.re,.int .i64 t.st,.slice q m m] t N∧StX X w0 r w' (N++(.cell b2 [.int .u8 0,.bool false,.int .i64 0,.int .i64 0,.slice none 0 0] 43::.cell b1 [.int .u8 t.k,.bool t.m,.int .i64 t.re,.int .i64 t.st,.slice q m m] 43::L))) (λK2 hK2=>?_) ?_
  ·have he:t=.mk t.k t.m t.re t.st t.of:=by cases t;rfl
   refine gG_ ?_
   rcases zB hl with⟨ho,_⟩|⟨u,ho,hu,_⟩
   ·refine c_f (by rw[ho];rfl) ?_
    refine gG_ ?_
    refine S.st λw3 S=>?_
    refine hK2 [] _ ⟨none,0,[],?_,S⟩
    have :ChnL [.int .u8 t.k,.bool t.m,.int .i64 t.re,.int .i64 t.st,.slice none 0 0] (.mk t.k t.m t.re t.st []) []:=.nil
    rw[ho]at he
    rw[← he]at this
    exact this
   ·have hlen:t.of.length=1:=by rw[ho];rfl
    obtain⟨ba,oa,rfl,c,hc,hcell,ht⟩:=NdG.of hof (i:=0) (by omega)
    have ht:TyG r (.agg c.toArray) u:=by simpa [ho]using ht
    refine c_t (by rw[hlen];rfl) ?_
    refine gG_ ?_
    refine zo (n:=5) hc (λj v hj=>by simpa using S.at (hcell j v hj)) ?_
    refine ih (by omega) hu S ht λc' N w3 hch S=>?_
    refine S.lit (e:=43) (cs:=c') (by
     cases hch<;>kernel_rfl) λb9 w4 S=>?_
    have S:StX X w0 r w4 (.cell b1 [.int .u8 t.k,.bool t.m,.int .i64 t.re,.int .i64 t.st,.slice (some ⟨ba,oa,none⟩) t.of.length cap] 43::(.cell b9 c' 43::N++(.cell b2 [.int .u8 0,.bool false,.int .i64 0,.int .i64 0,.slice none 0 0] 43::L))):=S.perm (by
     refine(List.Perm.cons _ ?_).trans (.swap _ _ _)
     refine(List.perm_append_comm_assoc N [_] _).trans ?_
     refine(List.Perm.append_left [_] ((List.perm_append_comm_assoc N [_] _))).trans ?_
     refine(List.Perm.swap _ _ _).trans ?_
     refine List.Perm.cons _ ?_
     exact(List.perm_append_comm_assoc [_] N L))
    refine gG_ ?_
    refine S.st λw5 S=>?_
    have hch':ChnL [.int .u8 t.k,.bool t.m,.int .i64 t.re,.int .i64 t.st,.slice (some ⟨b9,0,none⟩) 1 1] (.mk t.k t.m t.re t.st [u]) (.cell b9 c' 43::N):=.one hch
    rw[ho]at he
    rw[← he]at hch'
    refine hK2 [] _ ⟨_,_,_,hch',S.perm ?_⟩
    have:=List.perm_middle (a:=Asr.cell b1 [.int .u8 t.k,.bool t.m,.int .i64 t.re,.int .i64 t.st,.slice (some ⟨b9,0,none⟩) 1 1] 43) (l₁:=.cell b9 c' 43::N++[.cell b2 [.int .u8 0,.bool false,.int .i64 0,.int .i64 0,.slice none 0 0] 43]) (l₂:=L)
    simpa using this.symm
  rintro _ w6 ⟨q,m,N,hch,S⟩ d6
  have S:StX X w0 r w6 (.cell b2 [.int .u8 0,.bool false,.int .i64 0,.int .i64 0,.slice none 0 0] 43::.cell b1 [.int .u8 t.k,.bool t.m,.int .i64 t.re,.int .i64 t.st,.slice q m m] 43::(N++L)):=S.perm (by
   refine(List.perm_append_comm_assoc N [_] _).trans ?_
   exact List.Perm.cons _ (List.perm_append_comm_assoc N [_] _))
  refine gG_ ?_
  refine S.stB λw7 S=>?_
  refine gG_ ?_
  exact h _ N _ hch S.tl.tl
theorem ail{t:TyD}{w:World}{r:Gh}{v:Value}{K:Value→World→Prop}(hr:Holds r w)(hv:TyG r v t)
  (h:∀v' sn w',Ext w w'→New w sn w'→TyG sn v' (if isB t then t else zI)→XL sn v' (if isB t then t else zI)→K (.tuple #[v',.int .i64 (if isB t then 0 else 2)]) w'):zd Tryz.prog Tryz.QL #[v] w K:=by
 refine Tryz.aha ?_
 unfold Tryz.abA
 have hv0:=hv
 obtain⟨p,cap,rfl,_⟩:=hv
 have S:=St.start hr
 refine S.box λb1 w1 S=>?_
 refine S.al λb2 w2 S=>?_
 refine gG_ ?_
 refine qM S.holds hv0 λw3 e3=>?_
 have S:=S.go e3
 refine gG_ ?_
 refine c_b (λhn=>?_) (λhn=>?_)
 ·have hn:isB t=false:=by simpa using hn
  rw[hn]at h
  refine zq (cs:=#[.int .u8 0,.bool false,.int .i64 0,.int .i64 0,.slice none 0 0]) (by kernel_rfl) ?_
  refine S.stB λw4 S=>?_
  refine gG_ ?_
  exact h _ nothing _ S.ext New.nothing yH .nil
 ·have hn:isB t=true:=by simpa using hn
  rw[hn]at h
  refine gG_ ?_
  refine QW 48 (by decide) hn S hv0 λc N w4 hch S=>?_
  obtain⟨sn,S,ht,hg,hf⟩:=hch.frz S
  have hl:=hch.len
  have hone:=hch.ones
  refine S.stB (cs:=c.toArray) (λw5 S=>?_) rfl (by simpa using hl) (by simpa using hone)
  refine S.ceB ?_ hl
  exact h _ sn _ S.ext ⟨S.holds.le (h:=inferInstance),λb o hb=>(hf b o hb).elim id λh=>h.elim⟩ ht hg
end
end
mutual
def TyD.lay:List Int→TyD→TyD
 |l,.mk k m re st of=>.mk k m (if k=4 then l.headD 0 else re) st (TyD.lays (if k=4 then l.tail else l) of)
def TyD.lays:List Int→List TyD→List TyD
 |_,[]=>[]
 |l,t::r=>TyD.lay l t::TyD.lays l r
end
theorem afs{c:List Value}{t:TyD}{N:List Asr}(h:ChnL c t N):
  (t.of=[]∧N=[]∧c=[.int .u8 t.k,.bool t.m,.int .i64 t.re,.int .i64 t.st,.slice none 0 0])∨
  ∃b cu u N',t.of=[u]∧N=.cell b cu 43::N'∧c=[.int .u8 t.k,.bool t.m,.int .i64 t.re,.int .i64 t.st,.slice (some ⟨b,0,none⟩) 1 1]∧ChnL cu u N':=by
 cases h with
 |nil=>exact .inl ⟨rfl,rfl,rfl⟩
 |one h=>exact .inr ⟨_,_,_,_,rfl,rfl,rfl,h⟩
theorem Jp{t:TyD}{l:List Int}(h:t.of=[]):t.lay l=.mk t.k t.m (if t.k=4 then l.headD 0 else t.re) t.st []:=by
 cases t with|mk k m re st of=>cases h;rfl
theorem vS{t u:TyD}{l:List Int}(h:t.of=[u]):t.lay l=.mk t.k t.m (if t.k=4 then l.headD 0 else t.re) t.st [u.lay (if t.k=4 then l.tail else l)]:=by
 cases t with|mk k m re st of=>cases h;rfl
theorem XM{t:TyD}(h:t.of=[]):t.regs=if t.k=4 then [t.re]else []:=by
 rw[TyD.regs_eq,h];simp[TyD.chains,TyD.regsL]
theorem ZU{t u:TyD}(h:t.of=[u]):t.regs=(if t.k=4 then [t.re]else [])++u.regs:=by
 rw[TyD.regs_eq,h];rfl
theorem aiV{α:Type}(a b:α)(C D M:List α):(a::(C++((b::D)++M))).Perm (b::(C++(D++(a::M)))):=by
 have h1:(C++((b::D)++M)).Perm (b::(C++(D++M))):=List.perm_middle
 have h2:(a::(C++(D++M))).Perm (C++(D++(a::M))):=by
  rw[← List.append_assoc,← List.append_assoc];exact List.perm_middle.symm
 exact((h1.cons a).trans (.swap _ _ _)).trans (h2.cons b)
theorem ahi{s:Int}{fv:Value}{l:List Int}{Lc:Nat→List Asr}{X:Nat→Prop}{w0:World}{r:Gh}
  (hf:∀(i:Nat)(hi:i<l.length){b:Nat}{k re st:Int}{m:Bool}{v:Value}{M:List Asr}{w:World}{K:Value→World→Prop},StX X w0 r w (.cell b [.int .u8 k,.bool m,.int .i64 re,.int .i64 st,v] 43::(Lc i++M))→
   (∀w',StX X w0 r w' (.cell b [.int .u8 k,.bool m,.int .i64 l[i],.int .i64 st,v] 43::(Lc (i+1)++M))→K (.tuple #[]) w')→zD Tryz.prog fv #[.pointer (some ⟨b,0,none⟩)] w K):
  ∀(n:Nat){t:TyD}{c:List Value}{N:List Asr}{b i:Nat}{M:List Asr}{w:World}{K:Value→World→Prop},zt s n t=true→ChnL c t N→i+t.regs.length≤l.length→
   StX X w0 r w (.cell b c 43::(Lc i++(N++M)))→
   (∀c' N' w',ChnL c' (t.lay (l.drop i)) N'→StX X w0 r w' (.cell b c' 43::(Lc (i+t.regs.length)++(N'++M)))→K (.tuple #[]) w')→
   zd Tryz.prog Tryz.kM #[.pointer (some ⟨b,0,none⟩),fv] w K:=by
 intro n
 induction n with
 |zero=>intro t c N b i M w K h;cases h
 |succ n ih=>
  intro t c N b i M w K hl hch hi S h
  refine Tryz.Vo ?_
  unfold Tryz.XE
  obtain⟨q,len,hce⟩:∃q len,c=[.int .u8 t.k,.bool t.m,.int .i64 t.re,.int .i64 t.st,.slice q len len]:=by
   rcases afs hch with⟨_,_,hc⟩|⟨_,_,_,_,_,_,hc,_⟩
   ·exact⟨_,_,hc⟩
   ·exact⟨_,_,hc⟩
  subst hce
  have hhead:∀j,i=j→j<l.length→(l.drop i).headD 0=l.getD j 0:=by
   intro j hj hlt
   subst hj
   rw[List.drop_eq_getElem_cons hlt,List.headD_cons,ggd,gqg hlt];rfl
  refine zk (λ_ w'=>StX X w0 r w' (.cell b [.int .u8 t.k,.bool t.m,.int .i64 (if t.k=4 then(l.drop i).headD 0 else t.re),.int .i64 t.st,.slice q len len] 43::(Lc (if t.k=4 then i+1 else i)++(N++M)))) (λK2 hK2=>?_) ?_
  ·refine gG_ ?_
   refine zh (λh4=>?_) (λh4=>?_)
   ·have h4:t.k=4:=by omega
    have hlt:i<l.length:=by
     have :0<t.regs.length:=by
      rw[TyD.regs_eq,if_pos h4];simp
     omega
    refine hf i hlt S λw1 S=>?_
    refine hK2 [] _ ?_
    rw[if_pos h4,if_pos h4,hhead i rfl hlt,ggd,gqg hlt]
    exact S
   ·have h4:¬t.k=4:=by omega
    refine hK2 [] _ ?_
    rw[if_neg h4,if_neg h4]
    exact S
  clear S
  rintro _ w1 S d1
  refine gG_ ?_
  rcases afs hch with⟨ho,rfl,hc⟩|⟨b',cu,u,N',ho,rfl,hc,hu⟩
  ·injection hc with _ hc;injection hc with _ hc;injection hc with _ hc;injection hc with _ hc;injection hc with hc _
   cases hc
   refine gG_ ?_
   have e1:i+t.regs.length=if t.k=4 then i+1 else i:=by
    rw[XM ho];split<;>rfl
   refine h _ [] w1 ?_ (by rw[e1];exact S)
   rw[Jp ho]
   exact .nil
  ·injection hc with _ hc;injection hc with _ hc;injection hc with _ hc;injection hc with _ hc;injection hc with hc _
   cases hc
   refine gG_ ?_
   have hlu:zt s n u=true:=by
    rcases zB hl with⟨hx,_⟩|⟨y,hy,hly,_⟩
    ·rw[ho]at hx;cases hx
    ·rw[ho]at hy;cases hy;exact hly
   have hreg:=congrArg List.length (ZU ho)
   rw[gla]at hreg
   have hk4:(if t.k=4 then [t.re]else([]:List Int)).length=if t.k=4 then 1 else 0:=by split<;>rfl
   rw[hk4]at hreg
   have e1:i+t.regs.length=(if t.k=4 then i+1 else i)+u.regs.length:=by
    rw[hreg];split<;>omega
   have e2:l.drop (if t.k=4 then i+1 else i)=if t.k=4 then(l.drop i).tail else l.drop i:=by
    split
    ·rw[List.tail_drop]
    ·rfl
   have S':StX X w0 r w1 (.cell b' cu 43::(Lc (if t.k=4 then i+1 else i)++(N'++(.cell b [.int .u8 t.k,.bool t.m,.int .i64 (if t.k=4 then(l.drop i).headD 0 else t.re),.int .i64 t.st,.slice (some ⟨b',0,none⟩) 1 1] 43::M)))):=S.perm (aiV _ _ _ _ _)
   refine c_t (by simp) ?_
   refine gG_ ?_
   refine ih (i:=if t.k=4 then i+1 else i) hlu hu (by omega) S' λc' N'' w2 hch' S=>?_
   rw[e2]at hch'
   have hone:=ChnL.one (b:=b') (k:=t.k) (re:=if t.k=4 then(l.drop i).headD 0 else t.re) (st:=t.st) (m:=t.m) hch'
   rw[← vS ho]at hone
   refine h _ _ w2 hone ?_
   rw[e1]
   exact S.perm (aiV _ _ _ _ _).symm
theorem jo{t:TyD}(h:isB t=true):t.regs.length≤48:=by
 have h1:=afq 48 (aa7 h)
 rw[TyD.regs,TyD.regsL,List.length_map]
 exact Nat.le_trans (List.length_filter_le _ _) h1
section
def Qv(t:TyD)(l:List Int):Bool:=(isB t&&decide (t.regs.length=l.length)) && !(l.any λx=>decide (x < -1))
def Y9(t:TyD)(l:List Int):TyD×Int:=if Qv t l then(t.lay l,0)else(zI,2)
theorem amD(x:Int)(w:World)(K:Value→World→Prop)(hk:K (.bool (decide (x < -1))) w):zD Tryz.prog (.func (.func Tryz.Ja) #[] #[]) #[.int .i64 x] w K:=by
 refine kk (by kernel_rfl) ?_
 refine Tryz.ac6 (t0:=.int .i64 x) ?_
 unfold Tryz.Je
 refine gP_ ?_
 exact hk
theorem vT{w:World}{p:Option Addr}{l:List Int}(h:Sl w p (ints l)){i:Nat}(hi:i<l.length):∃b off,p=some ⟨b,off,none⟩∧w.cell? ⟨b,off+i,none⟩=some (.int .i64 l[i]):=by
 obtain⟨b,off,hp,hc⟩:=h.at (i:=i) (by rw[yh];exact hi)
 refine⟨b,off,hp,?_⟩
 rw[hc];simp[ints]
theorem ahj{t:TyD}{l:List Int}{p:Option Addr}{cap:Nat}{w:World}{r:Gh}{v:Value}{K:Value→World→Prop}(hr:Holds r w)(hv:TyG r v t)(hl:Ob r λw=>Sl w p (ints l))(hb:l.length≤1000)
  (h:∀v' sn w',Ext w w'→New w sn w'→TyG sn v' (Y9 t l).1→XL sn v' (Y9 t l).1→K (.tuple #[v',.int .i64 (Y9 t l).2]) w'):zd Tryz.prog Tryz.Xq #[v,.slice p l.length cap] w K:=by
 refine Tryz.afV ?_
 unfold Tryz.V9
 have hv0:=hv
 obtain⟨p1,cap1,rfl,_⟩:=hv
 have S:=St.start hr
 refine S.box λb2 w1 S=>?_
 refine S.box λb3 w2 S=>?_
 refine S.al λb4 w3 S=>?_
 have S:=S.go (Ext.drew _)
 refine gG_ ?_
 refine qM S.holds hv0 λw4 e4=>?_
 have S:=S.go e4
 refine gG_ ?_
 refine yZ (c:=decide (t.regs.length≠l.length)) (λhB K2 hK2=>?_) λw9 e9=>?_
 ·have hB:isB t=true:=by simpa using hB
  refine gG_ ?_
  refine kA S.holds hv0 λv5 w5 e5 o5=>⟨e5,?_⟩
  obtain⟨p5,cap5,rfl,_⟩:=Qe o5
  refine gG_ ?_
  have:=hK2 _ e5
  rw[regsT,if_pos hB]
  have e1:decide (((t.regs.length:Nat):Int)≠((l.length:Nat):Int))=decide (t.regs.length≠l.length):=decide_eq_decide.2 (by omega)
  rw[e1];exact this
 have S:=S.go e9
 refine zn (c:=l.any λx=>decide (x < -1)) (λ_ K2 hK2=>?_) ?_
 ·refine gG_ ?_
  refine aaf (f:=λx=>decide (x < -1)) amD (S.at hl) (by omega) ?_
  exact hK2
 have hnb:((!isB t||decide (t.regs.length≠l.length))||l.any λx=>decide (x < -1)) = !Qv t l:=by
  rw[Qv]
  cases isB t<;>cases l.any (λx=>decide (x < -1))<;>simp
 rw[hnb]
 refine c_b (λhn=>?_) (λhn=>?_)
 ·have hn:Qv t l=false:=by simpa using hn
  have hT:Y9 t l=(zI,2):=by rw[Y9,hn];rfl
  rw[hT]at h
  refine zq (cs:=#[.int .u8 0,.bool false,.int .i64 0,.int .i64 0,.slice none 0 0]) (by kernel_rfl) ?_
  refine S.stB λw5 S=>?_
  refine gG_ ?_
  exact h _ nothing _ S.ext New.nothing yH .nil
 ·have hn:Qv t l=true:=by simpa using hn
  have hT:Y9 t l=(t.lay l,0):=by rw[Y9,if_pos hn]
  rw[hT]at h
  rw[Qv,gba,gba,gdt]at hn
  obtain⟨⟨hB,hlen⟩,_⟩:=hn
  refine gG_ ?_
  refine QW 48 (by decide) hB S hv0 λc N w5 hch S=>?_
  have S:StX noX w r w5 (.cell b2 [.int .u8 t.k,.bool t.m,.int .i64 t.re,.int .i64 t.st,.slice p1 t.of.length cap1] 43::([.cell b3 [.slice p l.length cap] 55]++(N++[.cell b4 [.int .u8 0,.bool false,.int .i64 0,.int .i64 0,.slice none 0 0] 43]))):=S.perm (by
   refine(List.Perm.append_left N (List.Perm.swap _ _ _ |>.trans (List.Perm.cons _ (List.Perm.swap _ _ _)))).trans ?_
   refine(List.Perm.append_left N (List.Perm.swap _ _ _)).trans ?_
   refine List.perm_middle.trans (List.Perm.cons _ ?_)
   refine List.perm_middle.trans ?_
   exact List.Perm.refl _)
  have hcl:=hch.len
  have hone:=hch.ones
  refine S.stB (b:=b2) (cs:=c.toArray) (λw6 S=>?_) rfl (by simpa using hcl) (by simpa using hone)
  refine S.al λb6 w7 S=>?_
  refine S.st (b:=b6) λw8 S=>?_
  refine gP_ ?_
  have S:StX noX w r w8 (.cell b2 c 43::([.cell b6 [.int .i64 ((0:Nat):Int)] 3,.cell b3 [.slice p l.length cap] 55]++(N++[.cell b4 [.int .u8 0,.bool false,.int .i64 0,.int .i64 0,.slice none 0 0] 43]))):=S.perm (List.Perm.swap _ _ _)
  refine ahi (s:=32) (l:=l) (Lc:=λi=>[.cell b6 [.int .i64 (i:Nat)] 3,.cell b3 [.slice p l.length cap] 55]) ?_ 48 (i:=0) hB hch (by omega) (M:=[.cell b4 [.int .u8 0,.bool false,.int .i64 0,.int .i64 0,.slice none 0 0] 43]) S λc' N' w9 hch' S=>?_
  ·intro i hi b k re st m v M w K S h
   refine kk (by kernel_rfl) ?_
   refine Tryz.ac7 (t0:=.pointer (some ⟨b,0,none⟩)) (t1:=.pointer (some ⟨b3,0,none⟩)) (t2:=.pointer (some ⟨b6,0,none⟩)) ?_
   unfold Tryz.Jf
   have S:StX noX _ r _ (.cell b [.int .u8 k,.bool m,.int .i64 re,.int .i64 st,v] 43::.cell b6 [.int .i64 (i:Nat)] 3::.cell b3 [.slice p l.length cap] 55::M):=S
   obtain⟨bp,op,rfl,hcell⟩:=vT (S.at hl) hi
   refine gG_ ?_
   refine zf (by simpa using hcell) ?_
   refine gG_ ?_
   refine S.st λw1 S=>?_
   refine gG_ ?_
   refine S.st (b:=b6) λw2 S=>?_
   refine h _ ?_
   rw[show ((i:Nat):Int)+1=((i+1:Nat):Int)by omega]at S
   exact S
  rw[List.drop_zero]at hch'
  have S:StX noX w r w9 (.cell b2 c' 43::.cell b4 [.int .u8 0,.bool false,.int .i64 0,.int .i64 0,.slice none 0 0] 43::N'):=(S.less (λ_ _ h=>h) (.cons_cons _ (List.sublist_append_right _ _))).perm (by
   refine List.Perm.cons _ ?_
   show(N'++[_]).Perm ([_]++N')
   exact List.perm_append_comm)
  have hl':=hch'.len
  have hone':=hch'.ones
  refine S.ldB (b:=b2) ?_ hl'
  refine S.stB (b:=b4) (cs:=c'.toArray) (λw8 S=>?_) rfl (by simpa using hl') (by simpa using hone')
  refine S.ceB (b:=b4) ?_ hl'
  have S:StX noX w r w8 (N'++[]):=by rw[List.append_nil];exact S.tl.tl
  obtain⟨sn,S,ht,hg,hf⟩:=hch'.frz S
  exact h _ sn _ S.ext ⟨S.holds.le (h:=inferInstance),λb o hb=>(hf b o hb).elim id λh=>h.elim⟩ ht hg
structure StD where
 name:ByteArray
 fs:List (ByteArray×TyD)
def ahk(f:ByteArray×TyD):Dat:=.agg [.str f.1,f.2.dat]
def StD.dat(s:StD):Dat:=.agg [.str s.name,.sl 6 (s.fs.map ahk)]
def FlG(r:Gh)(p:Option Addr)(fs:List (ByteArray×TyD)):Prop:=RepS r 6 p 0 (fs.map ahk)
def StG(r:Gh)(p:Option Addr)(ss:List StD):Prop:=RepS r 2 p 0 (ss.map StD.dat)
theorem StG.up{r s:Gh}{p:Option Addr}{ss:List StD}(h:StG r p ss)[l:Le r s]:StG s p ss:=RepS.up' l h
theorem qm{r:Gh}{p:Option Addr}{fs:List (ByteArray×TyD)}(h:FlG r p fs){k:Nat}(hk:k<fs.length):∃b off c,p=some ⟨b,off,none⟩∧c.length=5∧
  (∀j v,(Value.string fs[k].1::c)[j]? = some v→Ob r λw=>w.cell? ⟨b,off+k*6+j,none⟩=some v)∧TyG r (.agg c.toArray) fs[k].2:=by
 obtain⟨c,h1,h2,h3⟩:=RepS.get h (i:=k) (d:=ahk fs[k]) (by rw[List.getElem?_map,gqg hk];rfl)
 obtain⟨a1,b1,rfl,e1,a2,b2,rfl,e2,e3⟩:=h3
 obtain rfl:a1=_:=e1
 obtain rfl:b2=[]:=e3
 rw[List.append_nil]at h1 h2
 obtain⟨b,off,rfl,_⟩:=h2 0 _ rfl
 refine⟨b,off,a2,rfl,by simpa using h1,λj v hj=>?_,TyG.of_rep e2⟩
 obtain⟨b',off',hp,ho⟩:=h2 j v hj
 cases hp
 rwa[Nat.zero_add]at ho
theorem xI{r:Gh}{p:Option Addr}{ss:List StD}(h:StG r p ss){i:Nat}(hi:i<ss.length):∃b off q cap,p=some ⟨b,off,none⟩∧
  (Ob r λw=>w.cell? ⟨b,off+i*2+1,none⟩=some (.slice q ss[i].fs.length cap))∧(q=none→cap=0)∧ss[i].fs.length≤cap∧FlG r q ss[i].fs:=by
 obtain⟨c,h1,h2,h3⟩:=RepS.get h (i:=i) (d:=StD.dat ss[i]) (by rw[List.getElem?_map,gqg hi];rfl)
 obtain⟨a1,b1,rfl,e1,a2,b2,rfl,e2,e3⟩:=h3
 obtain rfl:a1=_:=e1
 obtain rfl:b2=[]:=e3
 obtain⟨q,cap,rfl,hq,hc,hf⟩:=e2
 rw[List.length_map]at hc h2
 obtain⟨b,off,rfl,_⟩:=h2 0 _ rfl
 obtain⟨b',off',hp,ho⟩:=h2 1 (.slice q ss[i].fs.length cap) (by rfl)
 cases hp
 rw[Nat.zero_add]at ho
 exact⟨b,off,q,cap,rfl,ho,hq,hc,hf⟩
def ze(ss:List StD)(k:Int):List TyD:=match ss[k.toNat]? with|some s=>s.fs.map (·.2)|none=>[]
def Kid(ss:List StD)(k j:Int):Prop:=∃t∈ze ss k,t.k=5∧t.st=j
inductive Rch(ss:List StD):Int→Int→Prop
 |one {k j:Int}:Kid ss k j→Rch ss k j
 |more {k j i:Int}:Rch ss k j→Kid ss j i→Rch ss k i
theorem Rch.trans{ss:List StD}{a b c:Int}(h:Rch ss a b)(k:Rch ss b c):Rch ss a c:=by
 induction k with
 |one e=>exact .more h e
 |more _ e ih=>exact .more ih e
def x8(ss:List StD):Prop:=∀k,∀t∈ze ss k,zt ss.length 48 t=true
theorem jB{n:Int}{m:Nat}{t:TyD}(h:zt n (m+1) t=true)(hk:t.k=5):0≤t.st∧t.st<n∧t.of=[]:=by
 rw[yv]at h
 rw[if_neg (by omega),if_pos hk]at h
 simp only[gba,gdt]at h
 exact⟨h.1.2,h.2,List.eq_nil_of_length_eq_zero h.1.1.2⟩
theorem Zo{ss:List StD}(hg:x8 ss){k j:Int}(h:Kid ss k j):0≤j∧j<ss.length:=by
 obtain⟨t,ht,h5,rfl⟩:=h
 have:=jB (hg k t ht) h5
 exact⟨this.1,this.2.1⟩
theorem adi{ss:List StD}(hg:x8 ss){k j:Int}(h:Rch ss k j):0≤j∧j<ss.length:=by
 cases h with
 |one h=>exact Zo hg h
 |more _ h=>exact Zo hg h
open Classical in
noncomputable def rkS(ss:List StD)(k:Int):Nat:=(List.range ss.length).countP λj:Nat=>decide (Rch ss k (j:Int))
noncomputable def rkT(ss:List StD)(t:TyD):Nat:=if t.k=5 then rkS ss t.st+1 else 0
open Classical in
theorem adj(ss:List StD)(t:TyD):rkT ss t≤ss.length+1:=by
 unfold rkT rkS
 split
 ·have:=List.countP_le_length (p:=λj:Nat=>decide (Rch ss t.st (j:Int))) (l:=List.range ss.length)
  rw[List.length_range]at this
  omega
 ·omega
theorem aft{p q:Nat→Bool}:∀{l:List Nat},(∀x∈l,p x=true→q x=true)→(∃x∈l,p x=false∧q x=true)→l.countP p<l.countP q
 |[],_,h=>by obtain⟨x,hx,_⟩:=h;cases hx
 |a::l,h1,h2=>by
  rw[List.countP_cons,List.countP_cons]
  have hle:l.countP p≤l.countP q:=List.countP_mono_left λx hx=>h1 x (List.mem_cons_of_mem _ hx)
  have ha:=h1 a List.mem_cons_self
  by_cases hex:∃x∈l,p x=false∧q x=true
  ·have:=aft (λx hx=>h1 x (List.mem_cons_of_mem _ hx)) hex
   cases hp:p a<;>cases hq:q a<;>simp_all<;>omega
  ·obtain⟨x,hx,hx1,hx2⟩:=h2
   rcases List.mem_cons.1 hx with rfl|hx
   ·rw[hx1,hx2];simp;omega
   ·exact absurd ⟨x,hx,hx1,hx2⟩ hex
open Classical in
theorem adk{ss:List StD}(hg:x8 ss)(hac:∀k,¬Rch ss k k){t u:TyD}(h5:t.k=5)(hu:u∈ze ss t.st):rkT ss u<rkT ss t:=by
 unfold rkT
 rw[if_pos h5]
 split
 ·rename_i hu5
  have hk:Kid ss t.st u.st:=⟨u,hu,hu5,rfl⟩
  have hin:=Zo hg hk
  have:=aft (p:=λj:Nat=>decide (Rch ss u.st (j:Int))) (q:=λj:Nat=>decide (Rch ss t.st (j:Int))) (l:=List.range ss.length)
   (λx _ hx=>gde (Rch.trans (.one hk) (of_decide_eq_true hx)))
   ⟨u.st.toNat,List.mem_range.2 (by omega),decide_eq_false (by rw[Int.toNat_of_nonneg hin.1];exact hac _),gde (by rw[Int.toNat_of_nonneg hin.1];exact .one hk)⟩
  unfold rkS
  omega
 ·omega
def yi:List Nat→Nat
 |[]=>0
 |x::l=>x+yi l
theorem QX:∀(a b:List Nat),yi (a++b)=yi a+yi b
 |[],b=>by simp[yi]
 |x::a,b=>by simp only[List.cons_append,yi,QX a b];omega
def wF(ss:List StD):Nat→TyD→Nat
 |0,_=>1
 |m+1,t=>if t.k=5 then yi ((ze ss t.st).map (wF ss m))else 1
def dF(ss:List StD):Nat→TyD→Bool
 |0,t=>decide (t.k=3)
 |m+1,t=>if t.k=5 then(ze ss t.st).any (dF ss m)else decide (t.k=3)
def xF(n:Nat)(p:Nat→Bool):Nat:=((List.range n).find? p).getD n
theorem jp{n:Nat}{p:Nat→Bool}(h:∀j,j<n→p j=false):xF n p=n:=by
 rw[xF,List.find?_eq_none.2 (by intro x hx;rw[h x (List.mem_range.1 hx)];decide)];rfl
theorem jq{n i:Nat}{p:Nat→Bool}(hi:i<n)(hp:p i=true)(h:∀j,j<i→p j=false):xF n p=i:=by
 have :(List.range n).find? p=some i:=by
  rw[List.find?_range_eq_some]
  exact⟨hp,List.mem_range.2 hi,λj hj=>by rw[h j hj];rfl⟩
 rw[xF,this];rfl
theorem jC{n:Nat}{p:Nat→Bool}(h:¬xF n p<n):∀j,j<n→p j=false:=by
 intro j hj
 by_cases hp:∀j,j<n→p j=false
 ·exact hp j hj
 ·exfalso
  apply h
  unfold xF
  cases hf:(List.range n).find? p with
  |none=>
   exfalso;apply hp
   intro j hj
   have:=List.find?_eq_none.1 hf j (List.mem_range.2 hj)
   simpa using this
  |some x=>exact List.mem_range.1 (List.mem_of_find?_eq_some hf)
def xw(ss:List StD)(k:Nat):Bool:=
 (decide ((ze ss k).length<1)||decide (8<(ze ss k).length))||(ze ss k).any λt=>!zt ss.length 48 t||decide (0<t.regs.length)
open Classical in
noncomputable def qS(ss:List StD)(k:Nat):Bool:=decide (Rch ss k k)
def ZV(ss:List StD)(k:Nat):Bool:=decide (16<wF ss 40 (.mk 5 false 0 k []))
noncomputable def zx(ss:List StD):Int×Int:=
 if 32<ss.length then(32,2)
 else if xF ss.length (xw ss)<ss.length then(xF ss.length (xw ss),2)
 else if xF ss.length (qS ss)<ss.length then(xF ss.length (qS ss),2)
 else if xF ss.length (ZV ss)<ss.length then(xF ss.length (ZV ss),2)
 else(0,0)
theorem yD{ss:List StD}{i:Nat}(hi:i<ss.length):ze ss i=ss[i].fs.map (·.2):=by
 rw[ze,tnc,gqg hi]
theorem vU{ss:List StD}{i:Nat}(hi:i<ss.length):(ze ss i).length=ss[i].fs.length:=by
 rw[yD hi,List.length_map]
theorem afu{ss:List StD}{k:Int}(h:¬k.toNat<ss.length):ze ss k=[]:=by
 rw[ze,List.getElem?_eq_none (by omega)]
theorem Jq{ss:List StD}(h:∀k,k<ss.length→xw ss k=false):x8 ss:=by
 intro k t ht
 by_cases hk:k.toNat<ss.length
 ·have:=h k.toNat hk
  have e:ze ss (k.toNat:Int)=ze ss k:=by rw[ze,ze,tnc]
  rw[xw,e,Bool.or_eq_false_iff]at this
  have:=List.any_eq_false.1 this.2 t ht
  simp only[Bool.or_eq_true,Bool.not_eq_true',not_or]at this
  simpa using this.1
 ·rw[afu hk]at ht;cases ht
theorem aa9{ss:List StD}(hg:x8 ss)(h:∀k,k<ss.length→qS ss k=false):∀k,¬Rch ss k k:=by
 intro k hk
 have hin:=adi hg hk
 have:=h k.toNat (by omega)
 rw[qS,decide_eq_false_iff_not,Int.toNat_of_nonneg hin.1]at this
 exact this hk
theorem yU{ss:List StD}(h:(zx ss).2=0):ss.length≤32∧(∀k,k<ss.length→xw ss k=false)∧x8 ss∧(∀k,¬Rch ss k k)∧(∀k,k<ss.length→ZV ss k=false)∧zx ss=(0,0):=by
 unfold zx at h⊢
 split at h
 ·cases h
 split at h
 ·cases h
 split at h
 ·cases h
 split at h
 ·cases h
 rename_i h1 h2 h3 h4
 have g:=Jq (jC h2)
 refine⟨by omega,jC h2,g,aa9 g (jC h3),jC h4,?_⟩
 rw[if_neg h1,if_neg h2,if_neg h3,if_neg h4]
theorem aag{α:Type}(f:α→Nat){l:List α}{i:Nat}(hi:i<l.length):yi ((l.take (i+1)).map f)=yi ((l.take i).map f)+f l[i]:=by
 rw[List.take_succ_eq_append_getElem hi,List.map_append,QX];simp[yi]
theorem aex{α:Type}(f:α→Nat)(l:List α)(i:Nat):yi ((l.take i).map f)≤yi (l.map f):=by
 have:=congrArg (λl=>yi (l.map f)) (List.take_append_drop i l)
 simp only[List.map_append,QX]at this
 rw[← this]
 exact Nat.le_add_right _ _
theorem acj{r:Gh}{c:List Value}{s:ByteArray}{t:TyD}(h:TyG r (.agg c.toArray) t):∀u∈(Value.string s::c).toArray.toList,u.oneCell'=true:=by
 intro u hu
 rcases List.mem_cons.1 (by simpa using hu)with rfl|hu
 ·rfl
 ·exact aiU h u (by simpa using hu)
theorem _root_.Go.Sh.StX.fty{X:Nat→Prop}{w0 w:World}{r:Gh}{L:List Asr}{f:List Value→List Asr}{T:TypeId}{b:Nat}{s:ByteArray}{c:List Value}(S:StX X w0 r w L)[h:At b L (.string s::c) T f](hc:c.length=5){K:Value→Prop}(k:K (.agg c.toArray)):
  opQ Tryz.prog w (Instr.loadAt 43 (.pointer (some ⟨b,0+1,none⟩))) K:=
 S.ldN (h:=h) (n:=5) (vs:=c) k (by rw[List.drop_succ_cons,List.drop_zero,List.take_of_length_le (by omega)]) hc
theorem afX{ss:List StD}{p:Option Addr}{cap:Nat}(hg:x8 ss)(hac:∀k,¬Rch ss k k):∀(m:Nat){t:TyD}{w:World}{r:Gh}{v:Value}{K:Value→World→Prop},m≤100→rkT ss t≤m→zt ss.length 48 t=true→ss.length≤32→(∀k,(ze ss k).length≤8)→
  Holds r w→StG r p ss→TyG r v t→(∀w',Ext w w'→K (.int .i64 (min (wF ss m t) 17:Nat)) w')→zd Tryz.prog Tryz.j3 #[.slice p ss.length cap,v] w K:=by
 intro m
 induction m with
 |zero=>
  intro t w r v K _ hrk hl h32 h8 hr hs hv h
  have h5:¬t.k=5:=λh=>by unfold rkT at hrk;rw[if_pos h]at hrk;omega
  refine Tryz.Jg ?_
  unfold Tryz.YF
  obtain⟨p1,cap1,rfl,_⟩:=hv
  have S:=St.start hr
  refine S.box λb3 w1 S=>?_
  refine gG_ ?_
  refine zh (λ_=>h _ S.ext) (λhn=>absurd (by omega) h5)
 |succ m ih=>
  intro t w r v K hm hrk hl h32 h8 hr hs hv h
  refine Tryz.Jg ?_
  unfold Tryz.YF
  obtain⟨p1,cap1,rfl,_⟩:=hv
  have S:=St.start hr
  refine S.box λb3 w1 S=>?_
  refine gG_ ?_
  refine zh (λhn=>?_) (λh5=>?_)
  ·rw[wF,if_neg (by omega)]at h
   exact h _ S.ext
  have h5:t.k=5:=by omega
  obtain⟨hst0,hst1,_⟩:=jB hl h5
  have hlt:t.st.toNat<ss.length:=by omega
  obtain⟨b,off,q,capq,rfl,hcell,_,_,hf⟩:=xI hs hlt
  refine gG_ ?_
  refine zf (S.at hcell) ?_
  have htl:ze ss t.st=ss[t.st.toNat].fs.map (·.2):=by
   rw[← yD hlt];simp only[ze,tnc]
  have hlen:(ze ss t.st).length=ss[t.st.toNat].fs.length:=by rw[htl,List.length_map]
  have h88:=h8 t.st
  refine gG_ ?_
  refine zj (ι:=Nat) (λi=>[.int .i64 (yi (((ze ss t.st).take i).map (wF ss m)):Nat),.int .i64 i]) (λi w'=>i≤(ze ss t.st).length∧yi (((ze ss t.st).take i).map (wF ss m))≤16∧St w r w' _)
   (λi=>(ze ss t.st).length-i) 0 rfl ⟨gzl _,by simp[yi],S⟩ ?_
  clear S
  rintro i d w2 ⟨hi,hsum,S⟩ K6 hK6
  rw[gdz,gds,gdz]
  refine gG_ ?_
  refine c_b (λhlt2=>?_) (λhge=>?_)
  ·have hlt2:i<ss[t.st.toNat].fs.length:=by simpa using hlt2
   have hlt3:i<(ze ss t.st).length:=by omega
   obtain⟨b2,off2,c,rfl,hcl,hcc,hty⟩:=qm hf hlt2
   refine gG_ ?_
   refine zo (n:=6) (c:=.string ss[t.st.toNat].fs[i].1::c) (by simp[hcl]) (λj v hj=>by rw[tnc];exact S.at (hcc j v hj)) ?_
   refine S.al λb7 w3 S=>?_
   refine S.stB (cs:=(Value.string ss[t.st.toNat].fs[i].1::c).toArray) (λw4 S=>?_) rfl (by simp[hcl]) (acj hty)
   refine gP_ ?_
   refine S.fty hcl ?_
   have hel:(ze ss t.st)[i]=ss[t.st.toNat].fs[i].2:=by simp only[htl,List.getElem_map]
   have hmem:ss[t.st.toNat].fs[i].2∈ze ss t.st:=by rw[← hel];exact gem hlt3
   have hrk2:=adk hg hac h5 hmem
   refine ih (by omega) (by omega) (hg _ _ hmem) h32 h8 S.holds hs hty λw5 e5=>?_
   have S:=(S.go e5).tl
   have hst:=aag (wF ss m) hlt3
   rw[hel]at hst
   refine gP_ ?_
   refine gP_ ?_
   have htot:yi (((ze ss t.st).take (i+1)).map (wF ss m))≤wF ss (m+1) t:=by
    rw[wF,if_pos h5];exact aex _ _ _
   refine c_b (λhbig=>?_) (λhsm=>?_)
   ·have hbig:16<yi (((ze ss t.st).take i).map (wF ss m))+min (wF ss m ss[t.st.toNat].fs[i].2) 17:=by
     have:=of_decide_eq_true hbig;omega
    have e:min (wF ss (m+1) t) 17=17:=by omega
    rw[e]at h
    exact h _ S.ext
   ·have hsm:¬16<yi (((ze ss t.st).take i).map (wF ss m))+min (wF ss m ss[t.st.toNat].fs[i].2) 17:=by
     have:=of_decide_eq_false hsm;omega
    refine gP_ ?_
    have e:(yi (((ze ss t.st).take i).map (wF ss m)):Int)+((min (wF ss m ss[t.st.toNat].fs[i].2) 17:Nat):Int)=(yi (((ze ss t.st).take (i+1)).map (wF ss m)):Nat):=by omega
    rw[e,show ((i:Int)+1)=((i+1:Nat):Int)by omega]
    exact hK6 (i+1) _ ⟨hlt3,by omega,S⟩ (by omega)
  ·have hie:i=(ze ss t.st).length:=by
    have :¬i<ss[t.st.toNat].fs.length:=by simpa using hge
    omega
   rw[hie,List.take_length]at hsum⊢
   have e:min (wF ss (m+1) t) 17=yi ((ze ss t.st).map (wF ss m)):=by
    rw[wF,if_pos h5];omega
   rw[e]at h
   exact h _ S.ext
def mt(met:List Bool)(j:Int):Bool:=met.getD j.toNat false
def cf:List Bool→Nat
 |[]=>0
 |b::l=>(if b then 0 else 1)+cf l
theorem aah:∀{l:List Bool}{i:Nat},l[i]? = some false→cf (l.set i true)+1=cf l
 |[],i,h=>by simp at h
 |b::l,0,h=>by
  simp only[List.getElem?_cons_zero,Option.some.injEq]at h
  subst h
  simp[cf];omega
 |b::l,i+1,h=>by
  have:=aah (l:=l) (i:=i) (by simpa using h)
  simp only[List.set_cons_succ,cf];omega
theorem ahl{met:List Bool}{i j:Int}(hi:0≤i)(hj:0≤j)(hlt:i.toNat<met.length):mt (met.set i.toNat true) j=(decide (j=i)||mt met j):=by
 unfold mt
 rw[ggd,ggd,List.getElem?_set]
 by_cases h:i.toNat=j.toNat
 ·have :j=i:=by omega
  subst this
  simp[hlt]
 ·have :¬j=i:=λe=>h (by rw[e])
  rw[if_neg h];simp[this]
structure QI(ss:List StD)(k:Int)(N:Nat)(W:List Int)(met:List Bool)(x:Option (Int×Nat)):Prop where
 len:met.length=N
 dom:ss.length≤N
 rng:∀y∈W,0≤y∧y<ss.length
 s1:∀j,0≤j→mt met j=true→Rch ss k j
 s2:∀y∈W,y=k∨mt met y=true
 s3:∀y,0≤y→(y=k∨mt met y=true)→y∉W→(∀q,x=some q→y≠q.1)→∀j,Kid ss y j→mt met j=true
 s4:∀q,x=some q→(q.1=k∨Rch ss k q.1)∧∀t∈(ze ss q.1).take q.2,t.k=5→mt met t.st=true
theorem QI.start{ss:List StD}{k:Int}{N:Nat}(hd:ss.length≤N)(h0:0≤k)(h1:k<ss.length):QI ss k N [k] (List.replicate N false) none:=by
 have hm:∀j,mt (List.replicate N false) j=false:=λj=>by
  unfold mt;rw[ggd,List.getElem?_replicate];split<;>rfl
 refine⟨List.length_replicate,hd,by simp;omega,λj _ h=>?_,by simp,λy _ h hn=>?_,λq h=>by cases h⟩
 ·rw[hm]at h;cases h
 ·rcases h with rfl|h
  ·simp at hn
  ·rw[hm]at h;cases h
theorem QI.pop{ss:List StD}{k x:Int}{N:Nat}{W:List Int}{met:List Bool}(h:QI ss k N (x::W) met none):QI ss k N W met (some (x,0)):=by
 have hx:=h.rng x List.mem_cons_self
 refine⟨h.len,h.dom,λy hy=>h.rng y (List.mem_cons_of_mem _ hy),h.s1,λy hy=>h.s2 y (List.mem_cons_of_mem _ hy),λy hy hk hn hx j hj=>?_,λq hq=>?_⟩
 ·refine h.s3 y hy hk ?_ (λq hq=>by cases hq) j hj
  intro hm
  rcases List.mem_cons.1 hm with rfl|hm
  ·exact hx _ rfl rfl
  ·exact hn hm
 ·cases hq
  refine⟨(h.s2 x List.mem_cons_self).imp id (h.s1 x hx.1),by simp⟩
theorem QI.skip{ss:List StD}{k x:Int}{N i:Nat}{W:List Int}{met:List Bool}(h:QI ss k N W met (some (x,i)))(hi:i<(ze ss x).length)(hs:(ze ss x)[i].k=5→mt met (ze ss x)[i].st=true):QI ss k N W met (some (x,i+1)):=by
 refine⟨h.len,h.dom,h.rng,h.s1,h.s2,λy hy hk hn hx j hj=>h.s3 y hy hk hn (λq hq=>by cases hq;exact hx (x,i+1) rfl) j hj,λq hq=>?_⟩
 cases hq
 have:=h.s4 _ rfl
 refine⟨this.1,λt ht h5=>?_⟩
 simp only at ht
 rw[List.take_succ_eq_append_getElem hi,List.mem_append,List.mem_singleton]at ht
 rcases ht with ht|rfl
 ·exact this.2 t ht h5
 ·exact hs h5
theorem QI.push{ss:List StD}{k x:Int}{N i:Nat}{W:List Int}{met:List Bool}(hg:x8 ss)(h:QI ss k N W met (some (x,i)))(hi:i<(ze ss x).length)(h5:(ze ss x)[i].k=5):
  QI ss k N (W++[(ze ss x)[i].st]) (met.set (ze ss x)[i].st.toNat true) (some (x,i+1)):=by
 have hk:Kid ss x (ze ss x)[i].st:=⟨_,gem hi,h5,rfl⟩
 have hin:=Zo hg hk
 have hd:=h.dom
 have hlen:=h.len
 have hms:∀j,0≤j→mt (met.set (ze ss x)[i].st.toNat true) j=(decide (j=(ze ss x)[i].st)||mt met j):=λj hj=>ahl hin.1 hj (by omega)
 refine⟨by rw[List.length_set];exact h.len,h.dom,λy hy=>?_,λj hj hm=>?_,λy hy=>?_,λy hy hyk hn hx j hj=>?_,λq hq=>?_⟩
 ·rcases List.mem_append.1 hy with hy|hy
  ·exact h.rng y hy
  ·rw[List.mem_singleton.1 hy];exact hin
 ·rw[hms j hj,Bool.or_eq_true,gdt]at hm
  rcases hm with rfl|hm
  ·rcases(h.s4 _ rfl).1 with hx|hx
   ·have hx:x=k:=hx
    rw[← hx];exact .one hk
   ·exact .more hx hk
  ·exact h.s1 j hj hm
 ·rcases List.mem_append.1 hy with hy|hy
  ·refine(h.s2 y hy).imp id λhm=>?_
   rw[hms y (h.rng y hy).1,hm,Bool.or_true]
  ·rw[List.mem_singleton.1 hy,hms _ hin.1];simp
 ·have hj0:=(Zo hg hj).1
  rw[hms j hj0]
  rw[hms y hy,Bool.or_eq_true,gdt]at hyk
  have hnw:y∉W:=λhm=>hn (List.mem_append_left _ hm)
  have hne:y≠(ze ss x)[i].st:=λe=>hn (by rw[e];exact List.mem_append_right _ List.mem_cons_self)
  rw[h.s3 y hy (hyk.imp id λhh=>hh.resolve_left hne) hnw (λq hq=>by cases hq;exact hx (x,i+1) rfl) j hj,Bool.or_true]
 ·cases hq
  have:=h.s4 _ rfl
  refine⟨this.1,λt ht h5'=>?_⟩
  simp only at ht
  rw[List.take_succ_eq_append_getElem hi,List.mem_append,List.mem_singleton]at ht
  rcases ht with ht|rfl
  ·have ht0:=(Zo hg (k:=x) ⟨t,List.mem_of_mem_take ht,h5',rfl⟩).1
   rw[hms _ ht0,this.2 t ht h5',Bool.or_true]
  ·rw[hms _ hin.1];simp
theorem QI.done{ss:List StD}{k x:Int}{N i:Nat}{W:List Int}{met:List Bool}(h:QI ss k N W met (some (x,i)))(hi:(ze ss x).length≤i):QI ss k N W met none:=by
 refine⟨h.len,h.dom,h.rng,h.s1,h.s2,λy hy hk hn _ j hj=>?_,λq hq=>by cases hq⟩
 by_cases hyx:y=x
 ·subst hyx
  obtain⟨t,ht,h5,rfl⟩:=hj
  have:=(h.s4 _ rfl).2 t (by simp only;rw[List.take_of_length_le hi];exact ht) h5
  exact this
 ·exact h.s3 y hy hk hn (λq hq=>by cases hq;exact hyx) j hj
theorem QI.all{ss:List StD}{k:Int}{N:Nat}{met:List Bool}(hg:x8 ss)(h0:0≤k)(h:QI ss k N [] met none){j:Int}(hr:Rch ss k j):mt met j=true:=by
 induction hr with
 |one e=>exact h.s3 k h0 (.inl rfl) (by simp) (λq hq=>by cases hq) _ e
 |more hr e ih=>exact h.s3 _ (adi hg hr).1 (.inr ih) (by simp) (λq hq=>by cases hq) _ e
open Classical in
theorem aba{ss:List StD}{k:Nat}{b:Bool}(h1:b=true→Rch ss k k)(h2:Rch ss k k→b=true):b=qS ss k:=by
 rw[qS]
 by_cases hr:Rch ss k k
 ·rw[gde hr];exact h2 hr
 ·rw[decide_eq_false hr]
  cases b
  ·rfl
  ·exact absurd (h1 rfl) hr
def yb(l:List Bool):List Value:=l.map .bool
theorem aai(l:List Bool):(yb l).length=l.length:=List.length_map ..
theorem XN{l:List Bool}{j:Int}(h:j.toNat<l.length):(yb l)[j.toNat]? = some (.bool (mt l j)):=by
 unfold yb mt
 rw[List.getElem?_map,ggd,gqg h];rfl
theorem adl{ss:List StD}{p:Option Addr}{cap k:Nat}(hg:x8 ss)(h32:ss.length≤32)(hk:k<ss.length)(h8:∀k,(ze ss k).length≤8){w:World}{r:Gh}{K:Value→World→Prop}(hr:Holds r w)(hs:StG r p ss)
  (h:∀w',Ext w w'→K (.bool (qS ss k)) w'):zd Tryz.prog Tryz.Zg #[.slice p ss.length cap,.int .i64 k] w K:=by
 refine Tryz.acd ?_
 unfold Tryz.Qn
 have S:=St.start hr
 refine S.al λb5 w1 S=>?_
 refine S.lit (e:=3) (cs:=[.int .i64 k]) (by kernel_rfl) λb11 w2 S=>?_
 have S:=S.toRow 1 1 rfl (by decide)
 have S:=S.toQue (.slice (some ⟨b11,0,none⟩) 1 1)
 have S:StX noX w r w2 [.que (.slice (some ⟨b11,0,none⟩) 1 1) 3 1 [(k:Int)].length (ints [(k:Int)]),.cell b5 (yb (List.replicate 32 false)) 292]:=S
 refine zj (ι:=List Int×List Bool×Value) (λi=>[i.2.2]) (λi w'=>QI ss k 32 i.1 i.2.1 none∧2*cf i.2.1+i.1.length≤65∧StX noX w r w' [.que i.2.2 3 1 i.1.length (ints i.1),.cell b5 (yb i.2.1) 292])
  (λi=>2*cf i.2.1+i.1.length) ([(k:Int)],List.replicate 32 false,_) rfl ⟨QI.start h32 (by omega) (by omega),(show 2*cf (List.replicate 32 false)+1≤65 by decide),S⟩ ?_
 clear S
 rintro⟨W,met,vq⟩ d w3 ⟨hq,h65,S⟩ K3 hK3
 simp only at hq h65 S⊢
 rw[gdz]
 obtain⟨pq,capq,rfl,hp0,hcq,_,hsl⟩:=S.queS vq
 refine gP_ ?_
 refine gP_ ?_
 refine c_b (λhpos=>?_) (λhz=>?_)
 ·have hpos:0<W.length:=by simpa using hpos
  cases W with
  |nil=>simp at hpos
  |cons x W=>
   obtain⟨bq,oq,rfl,hcell⟩:=vT hsl hpos
   have hx:=hq.rng x List.mem_cons_self
   refine gP_ ?_
   refine zf (by simpa using hcell) ?_
   refine S.loQ (by omega) (by omega) hpos λv' S=>?_
   have S:StX noX w r w3 [.que v' 3 1 W.length (ints W),.cell b5 (yb met) 292]:=S
   have hxn:x.toNat<ss.length:=by omega
   obtain⟨bs',os',q,capf,rfl,hcs,_,_,hf⟩:=xI hs hxn
   refine gP_ ?_
   refine gP_ ?_
   refine zf (S.at hcs) ?_
   refine gP_ ?_
   have htl:ze ss x=ss[x.toNat].fs.map (·.2):=by
    rw[← yD hxn];simp only[ze,tnc]
   have hlen:(ze ss x).length=ss[x.toNat].fs.length:=by rw[htl,List.length_map]
   have h88:=h8 x
   refine zj (ι:=Nat×List Int×List Bool×Value) (λi=>[i.2.2.2,.int .i64 i.1]) (λi w'=>i.1≤(ze ss x).length∧QI ss k 32 i.2.1 i.2.2.1 (some (x,i.1))∧2*cf i.2.2.1+i.2.1.length≤2*cf met+W.length∧
    StX noX w r w' [.que i.2.2.2 3 1 i.2.1.length (ints i.2.1),.cell b5 (yb i.2.2.1) 292]) (λi=>(ze ss x).length-i.1) (0,W,met,v') rfl ⟨gzl _,hq.pop,Nat.le_refl _,S⟩ ?_
   clear S
   rintro⟨i,W',met',vq'⟩ d w4 ⟨hi,hq',hme,S⟩ K7 hK7
   simp only at hi hq' hme S⊢
   rw[gdz,gds,gdz]
   refine gP_ ?_
   refine c_b (λhlt2=>?_) (λhge=>?_)
   ·have hlt2:i<ss[x.toNat].fs.length:=by simpa using hlt2
    have hlt3:i<(ze ss x).length:=by omega
    have hel:(ze ss x)[i]=ss[x.toNat].fs[i].2:=by simp only[htl,List.getElem_map]
    refine zk (λs w'=>∃W2 met2 v2,s=[v2]∧QI ss k 32 W2 met2 (some (x,i+1))∧2*cf met2+W2.length≤2*cf met'+W'.length∧StX noX w r w' [.que v2 3 1 W2.length (ints W2),.cell b5 (yb met2) 292]) (λK11 hK11=>?_) ?_
    ·obtain⟨b2,off2,c,rfl,hcl,hcc,hty⟩:=qm hf hlt2
     refine gP_ ?_
     refine zo (n:=6) (c:=.string ss[x.toNat].fs[i].1::c) (by simp[hcl]) (λj v hj=>by rw[tnc];exact S.at (hcc j v hj)) ?_
     refine S.al λb9 w5 S=>?_
     refine S.stB (cs:=(Value.string ss[x.toNat].fs[i].1::c).toArray) (λw6 S=>?_) rfl (by simp[hcl]) (acj hty)
     obtain⟨pt,capt,rfl,_⟩:=XK hty
     have S:StX noX w r w6 [.cell b9 [.string ss[x.toNat].fs[i].1,.int .u8 ss[x.toNat].fs[i].2.k,.bool ss[x.toNat].fs[i].2.m,.int .i64 ss[x.toNat].fs[i].2.re,.int .i64 ss[x.toNat].fs[i].2.st,.slice pt ss[x.toNat].fs[i].2.of.length capt] 233,.que vq' 3 1 W'.length (ints W'),.cell b5 (yb met') 292]:=S
     refine gG_ ?_
     rw[← hel]
     by_cases h5:(ze ss x)[i].k=5
     ·have hkid:Kid ss x (ze ss x)[i].st:=⟨_,gem hlt3,h5,rfl⟩
      have hin:=Zo hg hkid
      have hml:=hq'.len
      refine zn (c:=mt met' (ze ss x)[i].st) (λ_ K2 hK2=>?_) ?_
      ·refine gG_ ?_
       rw[← hel]
       refine gP_ ?_
       refine S.ld (b:=b5) ?_ (by rw[Nat.zero_add,Nat.mul_one];exact XN (by omega))
       exact hK2
      rw[show decide ((ze ss x)[i].k≠5)=false by simp[h5],Bool.false_or]
      refine c_b (λhm=>?_) (λhm=>?_)
      ·exact hK11 _ _ ⟨W',met',vq',rfl,hq'.skip hlt3 λ_=>hm,Nat.le_refl _,S.tl⟩
      ·refine gG_ ?_
       rw[← hel]
       refine gP_ ?_
       refine S.st (b:=b5) (λw7 S=>?_) (by rw[aai];omega)
       refine gG_ ?_
       rw[← hel]
       refine S.lit (e:=3) (cs:=[.int .i64 (ze ss x)[i].st]) (by kernel_rfl) λb49 w8 S=>?_
       simp only[List.length_cons]at h65
       refine S.apQ (m:=1) (Sl.blk (S.blk b49)) (λv50 w9 S=>?_) (by omega)
       have hset:mt met' (ze ss x)[i].st=false:=hm
       have hcf:=aah (l:=met') (i:=(ze ss x)[i].st.toNat) (by
        unfold mt at hset
        rw[ggd,gqg (by omega)]at hset
        rw[gqg (by omega)]
        simpa using hset)
       refine hK11 _ _ ⟨W'++[(ze ss x)[i].st],met'.set (ze ss x)[i].st.toNat true,v50,rfl,hq'.push hg hlt3 h5,by rw[gla,gls];omega,?_⟩
       have e1:(yb met').set (0+(ze ss x)[i].st.toNat*1) (.bool true)=yb (met'.set (ze ss x)[i].st.toNat true):=by
        rw[Nat.zero_add,Nat.mul_one,yb,yb,List.map_set]
       rw[e1]at S
       rw[gla,abG]
       exact S.tl.tl
     ·refine zn (c:=true) (λhn=>absurd hn (by simp[h5])) ?_
      rw[Bool.or_true]
      refine c_t rfl ?_
      exact hK11 _ _ ⟨W',met',vq',rfl,hq'.skip hlt3 λe=>absurd e h5,Nat.le_refl _,S.tl⟩
    ·rintro _ w5 ⟨W2,met2,v2,rfl,hq2,hme2,S⟩ d5
     rw[gdz]
     refine gP_ ?_
     rw[show ((i:Int)+1)=((i+1:Nat):Int)by omega]
     exact hK7 (i+1,W2,met2,v2) _ ⟨hlt3,hq2,by simp only;omega,S⟩ (by simp only;omega)
   ·have hge:(ze ss x).length≤i:=by
     have :¬i<ss[x.toNat].fs.length:=by simpa using hge
     omega
    exact hK3 (W',met',vq') _ ⟨hq'.done hge,by simp only[List.length_cons]at h65⊢;omega,S⟩ (by simp only[List.length_cons];omega)
 ·have hz:W=[]:=List.eq_nil_of_length_eq_zero (by
   have :¬0<W.length:=by simpa using hz
   omega)
  subst hz
  have hml:=hq.len
  refine gP_ ?_
  refine S.ld (b:=b5) ?_ (by rw[Nat.zero_add,Nat.mul_one];exact XN (by omega))
  have e:mt met (k:Int)=qS ss k:=aba (hq.s1 _ (by omega)) (hq.all hg (by omega))
  rw[e]
  exact h _ S.ext
theorem YJ{X:Nat→Prop}{w0:World}{r:Gh}{L:List Asr}{n:Nat}{q:Nat→Bool}{fv:Value}(hn:n≤1000)
  (hf:∀(i:Nat),i<n→∀{w:World}{K:Value→World→Prop},StX X w0 r w L→(∀w',StX X w0 r w' L→K (.bool (q i)) w')→zD Tryz.prog fv #[.int .i64 i] w K) {w:World} {K:Value→World→Prop} (S:StX X w0 r w L)
  (h:∀w',StX X w0 r w' L→K (.int .i64 (xF n q)) w'):zd Tryz.prog Tryz.Ys #[.int .i64 n,fv] w K:=by
 refine Tryz.aer ?_
 unfold Tryz.Vq
 refine zj (ι:=Nat) (λi=>[.int .i64 i]) (λi w'=>i≤n∧(∀j,j<i→q j=false)∧StX X w0 r w' L) (λi=>n-i) 0 rfl ⟨gzl _,λj hj=>by omega,S⟩ ?_
 clear S
 rintro i d w1 ⟨hi,hq,S⟩ K6 hK6
 rw[gdz]
 refine gP_ ?_
 refine c_b (λhlt=>?_) (λhge=>?_)
 ·have hlt:i<n:=by simpa using hlt
  refine hf i hlt S λw2 S=>?_
  refine c_b (λhy=>?_) (λhno=>?_)
  ·have:=h _ S
   rwa[jq hlt hy hq]at this
  ·refine gP_ ?_
   rw[show ((i:Int)+1)=((i+1:Nat):Int)by omega]
   refine hK6 (i+1) _ ⟨hlt,λj hj=>?_,S⟩ (by omega)
   by_cases hji:j=i
   ·rw[hji];exact hno
   ·exact hq j (by omega)
 ·have hge:i=n:=by
   have :¬i<n:=by simpa using hge
   omega
  have:=h _ S
  rwa[jp (λj hj=>hq j (by omega))]at this
theorem Yl{X:Nat→Prop}{w0:World}{r s:Gh}{L:List Asr}{p:Option Addr}{cap:Nat}{fs:List (ByteArray×TyD)}{g:TyD→Bool}{fv:Value}(hfl:FlG s p fs)[Le s r](hb:fs.length≤1000000000)
  (hf:∀f∈fs,∀{c:List Value}{w:World}{K:Value→World→Prop},c.length=5→TyG s (.agg c.toArray) f.2→StX X w0 r w L→(∀w',StX X w0 r w' L→K (.bool (g f.2)) w')→zD Tryz.prog fv #[.agg (.string f.1::c).toArray] w K)
  {w:World} {K:Value→World→Prop} (S:StX X w0 r w L) (h:∀w',StX X w0 r w' L→K (.bool ((fs.map (·.2)).any g)) w'):zd Tryz.prog Tryz.zQ #[.slice p fs.length cap,fv] w K:=by
 refine Tryz.kQ ?_
 unfold Tryz.xa
 refine Tryz.qE ?_
 unfold Tryz.xt
 refine gP_ ?_
 refine zj (ι:=Nat) (λi=>[.int .i64 i]) (λi w'=>i≤fs.length∧((fs.take i).map (·.2)).any g=false∧StX X w0 r w' L) (λi=>fs.length-i) 0 rfl ⟨gzl _,by simp,S⟩ ?_
 clear S
 rintro i d w1 ⟨hi,hq,S⟩ K6 hK6
 rw[gdz]
 refine gP_ ?_
 refine c_b (λhlt=>?_) (λhge=>?_)
 ·have hlt:i<fs.length:=by simpa using hlt
  obtain⟨b2,off2,c,rfl,hcl,hcc,hty⟩:=qm hfl hlt
  refine gP_ ?_
  refine zo (n:=6) (c:=.string fs[i].1::c) (by simp[hcl]) (λj v hj=>by rw[tnc];exact S.at (hcc j v hj)) ?_
  refine hf fs[i] (gem hlt) hcl hty S λw2 S=>?_
  refine c_b (λhy=>?_) (λhno=>?_)
  ·refine gP_ ?_
   have:=h _ S
   have e:(fs.map (·.2)).any g=true:=List.any_eq_true.2 ⟨fs[i].2,List.mem_map.2 ⟨_,gem hlt,rfl⟩,hy⟩
   rw[e]at this
   rw[show decide ((i:Int)≥0)=true by simp]
   exact this
  ·refine gP_ ?_
   rw[show ((i:Int)+1)=((i+1:Nat):Int)by omega]
   refine hK6 (i+1) _ ⟨hlt,?_,S⟩ (by omega)
   rw[List.take_succ_eq_append_getElem hlt,List.map_append,List.any_append,hq]
   simp[hno]
 ·have hge:i=fs.length:=by
   have :¬i<fs.length:=by simpa using hge
   omega
  rw[hge,List.take_length]at hq
  refine gP_ ?_
  have:=h _ S
  rw[hq]at this
  exact this
theorem xV{ss:List StD}(h:∀k,k<ss.length→xw ss k=false)(k:Int):(ze ss k).length≤8:=by
 by_cases hk:k.toNat<ss.length
 ·have:=h k.toNat hk
  have e:ze ss (k.toNat:Int)=ze ss k:=by rw[ze,ze,tnc]
  rw[xw,e,Bool.or_eq_false_iff,Bool.or_eq_false_iff]at this
  simp only[decide_eq_false_iff_not]at this
  omega
 ·rw[afu hk];simp
section
variable {X:Nat→Prop} {w0 w:World} {r:Gh} {L:List Asr} {ss:List StD} {p:Option Addr} {cap b1 b4:Nat} {f1 f4:List Value→List Asr} {K:Value→World→Prop}
theorem abk{k:Nat}(hk:k<ss.length)(hs:StG r p ss)(S:StX X w0 r w L)[At b1 L [.slice p ss.length cap] 22 f1][At b4 L [.int .i64 (ss.length:Nat)] 3 f4](h:∀w',StX X w0 r w' L→K (.bool (xw ss k)) w'):
  zD Tryz.prog (.func (.func Tryz.kF) #[] #[.pointer (some ⟨b1,0,none⟩),.pointer (some ⟨b4,0,none⟩)]) #[.int .i64 k] w K:=by
 refine kk (by kernel_rfl) ?_
 refine Tryz.aab (t0:=.int .i64 k) (t1:=.pointer (some ⟨b1,0,none⟩)) (t2:=.pointer (some ⟨b4,0,none⟩)) ?_
 unfold Tryz.YT
 refine gL_ ?_
 obtain⟨b,off,q,capq,rfl,hcell,hq0,hqc,hf⟩:=xI hs hk
 refine gP_ ?_
 refine gP_ ?_
 refine zf (by rw[tnc];exact S.at hcell) ?_
 refine gP_ ?_
 refine gP_ ?_
 have hlen:=vU hk
 refine zn (c:=decide (8<(ze ss k).length)) (λ_ K2 hK2=>?_) ?_
 ·refine gP_ ?_
  refine gP_ ?_
  rw[show decide ((8:Int)<(ss[k].fs.length:Int))=decide (8<(ze ss k).length)from decide_eq_decide.2 (by omega)]
  exact hK2
 refine anq (λw'=>StX X w0 r w' L) (c:=(ze ss k).any λt=>!zt ss.length 48 t||decide (0<t.regs.length)) (λ_=>S) (λhsm2 K2 hK2=>?_) λw9 S=>?_
 ·have hsm2:ss[k].fs.length≤8:=by
   simp only[Bool.or_eq_false_iff,decide_eq_false_iff_not]at hsm2;omega
  refine gP_ ?_
  refine Yl (g:=λt=>!zt ss.length 48 t||decide (0<t.regs.length)) hf (by omega) (λf hfm {c} {w7} {K} hcl hty S hK=>?_) S λw8 S=>?_
  ·refine aa8 (by kernel_rfl) ?_
   refine Tryz.JY ?_
   unfold Tryz.ZE
   refine S.box λb2 w8 S=>?_
   have S:StX X w0 r w8 (.cell b2 (.string f.1::c) 233::L):=S
   refine gP_ ?_
   refine S.fty hcl ?_
   refine S.ld (b:=b4) ?_ rfl
   refine XH 48 (by decide) S.holds hty λw9 e9=>?_
   have S:=S.go e9
   refine gP_ ?_
   refine yZ (c:=decide (0<f.2.regs.length)) (λhl K2 hK2=>?_) λw10 e10=>?_
   ·have hl:zt ss.length 48 f.2=true:=by simpa using hl
    refine gP_ ?_
    refine S.fty hcl ?_
    refine Qt S.holds hty (by have:=aa7 hl;omega) λv11 w11 e11 o11=>?_
    obtain⟨p11,cap11,rfl,_⟩:=Qe o11
    refine gP_ ?_
    refine gP_ ?_
    rw[show decide ((f.2.regs.length:Int)>0)=decide (0<f.2.regs.length)from decide_eq_decide.2 (by omega)]
    exact hK2 _ e11
   exact hK _ (S.go e10).tl
  ·rw[← yD hk]
   exact hK2 _ S
 ·have:=h _ S
  rw[xw]at this
  rw[show decide ((ss[k].fs.length:Int)<1)=decide ((ze ss k).length<1)from decide_eq_decide.2 (by omega)]
  exact this
theorem abl{k:Nat}(hk:k<ss.length)(h32:ss.length≤32)(h1:¬xF ss.length (xw ss)<ss.length)(hs:StG r p ss)(S:StX X w0 r w L)[At b1 L [.slice p ss.length cap] 22 f1](h:∀w',StX X w0 r w' L→K (.bool (qS ss k)) w'):
  zD Tryz.prog (.func (.func Tryz.kG) #[] #[.pointer (some ⟨b1,0,none⟩)]) #[.int .i64 k] w K:=by
 refine kk (by kernel_rfl) ?_
 refine Tryz.aac (t0:=.int .i64 k) (t1:=.pointer (some ⟨b1,0,none⟩)) ?_
 unfold Tryz.YU
 refine gL_ ?_
 exact adl (Jq (jC h1)) h32 hk (λk=>xV (jC h1) k) S.holds hs λw9 e9=>h _ (S.go e9)
theorem abm{k:Nat}(hk:k<ss.length)(h32:ss.length≤32)(h1:¬xF ss.length (xw ss)<ss.length)(h2:¬xF ss.length (qS ss)<ss.length)(hs:StG r p ss)(S:StX X w0 r w L)[At b1 L [.slice p ss.length cap] 22 f1](h:∀w',StX X w0 r w' L→K (.bool (ZV ss k)) w'):
  zD Tryz.prog (.func (.func Tryz.kH) #[] #[.pointer (some ⟨b1,0,none⟩)]) #[.int .i64 k] w K:=by
 refine kk (by kernel_rfl) ?_
 refine Tryz.aad (t0:=.int .i64 k) (t1:=.pointer (some ⟨b1,0,none⟩)) ?_
 unfold Tryz.YV
 refine gL_ ?_
 refine zq (cs:=#[.int .u8 5,.bool false,.int .i64 0,.int .i64 k,.slice none 0 0]) (by kernel_rfl) ?_
 have hg:=Jq (jC h1)
 refine afX hg (aa9 hg (jC h2)) 40 (t:=.mk 5 false 0 k []) (by decide) (by have:=adj ss (.mk 5 false 0 k []);omega) ?_ (by omega) (λk=>xV (jC h1) k) S.holds hs (yH (r:=r)) λw9 e9=>?_
 ·rw[yv]
  simp[TyD.k,TyD.m,TyD.re,TyD.of,TyD.st]
  omega
 ·refine gP_ ?_
  have:=h _ (S.go e9)
  rw[ZV]at this
  rw[show decide ((((min (wF ss 40 (.mk 5 false 0 k [])) 17:Nat):Int))>16)=decide (16<wF ss 40 (.mk 5 false 0 k []))from decide_eq_decide.2 (by omega)]
  exact this
end
theorem Zp{ss:List StD}{p:Option Addr}{cap:Nat}{w:World}{r:Gh}{K:Value→World→Prop}(hr:Holds r w)(hs:StG r p ss)
  (h:∀w',Ext w w'→K (.tuple #[.int .i64 (zx ss).1,.int .i64 (zx ss).2]) w'):zd Tryz.prog Tryz.kp #[.slice p ss.length cap] w K:=by
 refine Tryz.acb ?_
 unfold Tryz.Qm
 have S:=St.start hr
 refine S.box λb1 w1 S=>?_
 refine gL_ ?_
 refine gP_ ?_
 refine S.al λb4 w2 S=>?_
 refine S.st λw3 S=>?_
 refine gL_ ?_
 refine gP_ ?_
 refine c_b (λhbig=>?_) (λhsm=>?_)
 ·have hbig:32<ss.length:=by have:=of_decide_eq_true hbig;omega
  rw[zx,if_pos hbig]at h
  exact h _ S.ext
 have hsm:¬32<ss.length:=by have:=of_decide_eq_false hsm;omega
 rw[zx,if_neg hsm]at h
 refine gP_ ?_
 refine gP_ ?_
 refine gP_ ?_
 refine S.lit (e:=157) (cs:=[.func (.func Tryz.kF) #[] #[.pointer (some ⟨b1,0,none⟩),.pointer (some ⟨b4,0,none⟩)],.func (.func Tryz.kG) #[] #[.pointer (some ⟨b1,0,none⟩)],.func (.func Tryz.kH) #[] #[.pointer (some ⟨b1,0,none⟩)]]) (by kernel_rfl) λb16 w4 S=>?_
 refine gP_ ?_
 have S:StX noX w r w4 [.cell b16 [.func (.func Tryz.kF) #[] #[.pointer (some ⟨b1,0,none⟩),.pointer (some ⟨b4,0,none⟩)],.func (.func Tryz.kG) #[] #[.pointer (some ⟨b1,0,none⟩)],.func (.func Tryz.kH) #[] #[.pointer (some ⟨b1,0,none⟩)]] 157,
  .cell b4 [.int .i64 (ss.length:Nat)] 3,.cell b1 [.slice p ss.length cap] 22]:=S
 refine zj (ι:=Nat) (λi=>[.int .i64 i]) (λi w'=>i≤3∧(0<i→¬xF ss.length (xw ss)<ss.length)∧(1<i→¬xF ss.length (qS ss)<ss.length)∧(2<i→¬xF ss.length (ZV ss)<ss.length)∧StX noX w r w' _) (λi=>3-i) 0 rfl
  ⟨by decide,λh=>by omega,λh=>by omega,λh=>by omega,S⟩ ?_
 clear S
 rintro i d w5 ⟨hi,h1,h2,h3,S⟩ K6 hK6
 rw[gdz]
 refine gP_ ?_
 match i,hi,h1,h2,h3 with
 |0,_,_,_,_=>
  refine c_t (by decide) ?_
  refine gP_ ?_
  refine S.ld (b:=b16) ?_ rfl
  refine S.ld (b:=b4) ?_ rfl
  refine YJ (q:=xw ss) (by omega) (λi hi {w} {K} S k=>abk hi hs S k) S λw9 S=>?_
  refine S.ld (b:=b4) ?_ rfl
  refine gP_ ?_
  refine c_b (λhl=>?_) (λhl=>?_)
  ·rw[if_pos (by have:=of_decide_eq_true hl;omega)]at h
   exact h _ S.ext
  ·refine gP_ ?_
   exact hK6 1 _ ⟨by decide,λ_=>by have:=of_decide_eq_false hl;omega,λh=>by omega,λh=>by omega,S⟩ (by decide)
 |1,_,h1,_,_=>
  have h1:=h1 (by decide)
  rw[if_neg h1]at h
  refine c_t (by decide) ?_
  refine gP_ ?_
  refine S.ld (b:=b16) ?_ rfl
  refine S.ld (b:=b4) ?_ rfl
  refine YJ (q:=qS ss) (by omega) (λi hi {w} {K} S k=>abl hi (by omega) h1 hs S k) S λw9 S=>?_
  refine S.ld (b:=b4) ?_ rfl
  refine gP_ ?_
  refine c_b (λhl=>?_) (λhl=>?_)
  ·rw[if_pos (by have:=of_decide_eq_true hl;omega)]at h
   exact h _ S.ext
  ·refine gP_ ?_
   exact hK6 2 _ ⟨by decide,λ_=>h1,λ_=>by have:=of_decide_eq_false hl;omega,λh=>by omega,S⟩ (by decide)
 |2,_,h1,h2,_=>
  have h1:=h1 (by decide)
  have h2:=h2 (by decide)
  rw[if_neg h1,if_neg h2]at h
  refine c_t (by decide) ?_
  refine gP_ ?_
  refine S.ld (b:=b16) ?_ rfl
  refine S.ld (b:=b4) ?_ rfl
  refine YJ (q:=ZV ss) (by omega) (λi hi {w} {K} S k=>abm hi (by omega) h1 h2 hs S k) S λw9 S=>?_
  refine S.ld (b:=b4) ?_ rfl
  refine gP_ ?_
  refine c_b (λhl=>?_) (λhl=>?_)
  ·rw[if_pos (by have:=of_decide_eq_true hl;omega)]at h
   exact h _ S.ext
  ·refine gP_ ?_
   exact hK6 3 _ ⟨by decide,λ_=>h1,λ_=>h2,λ_=>by have:=of_decide_eq_false hl;omega,S⟩ (by decide)
 |3,_,h1,h2,h3=>
  have h1:=h1 (by decide)
  have h2:=h2 (by decide)
  have h3:=h3 (by decide)
  rw[if_neg h1,if_neg h2,if_neg h3]at h
  refine c_f (by decide) ?_
  exact h _ S.ext
noncomputable def mayB(ss:List StD)(t:TyD):Bool:=decide ((zx ss).2=0)&&zt ss.length 48 t
theorem Zq{ss:List StD}{t:TyD}(h:mayB ss t=true):(zx ss).2=0∧zt ss.length 48 t=true:=by
 simpa [mayB]using h
theorem Z9{ss:List StD}{t:TyD}{p:Option Addr}{cap:Nat}{w:World}{r:Gh}{v:Value}{K:Value→World→Prop}(hr:Holds r w)(hs:StG r p ss)(hv:TyG r v t)
  (h:∀w',Ext w w'→K (.bool (mayB ss t)) w'):zd Tryz.prog Tryz.qK #[.slice p ss.length cap,v] w K:=by
 refine Tryz.ahd ?_
 unfold Tryz.abD
 have hv0:=hv
 obtain⟨p1,cap1,rfl,_⟩:=hv
 have S:=St.start hr
 refine S.box λb3 w1 S=>?_
 refine Zp S.holds hs λw2 e2=>?_
 have S:=S.go e2
 refine gP_ ?_
 refine gP_ ?_
 refine gP_ ?_
 refine zr (c:=zt ss.length 48 t) (λ_ K2 hK2=>?_) λw3 e3=>h _ (S.go e3).ext
 refine gL_ ?_
 refine gP_ ?_
 exact XH 48 (by decide) S.holds hv0 λw3 e3=>hK2 _ e3
theorem afY{ss:List StD}{p:Option Addr}{cap:Nat}(hg:x8 ss)(hac:∀k,¬Rch ss k k):∀(m:Nat){t:TyD}{w:World}{r:Gh}{v:Value}{K:Value→World→Prop},m≤100→rkT ss t≤m→zt ss.length 48 t=true→ss.length≤32→(∀k,(ze ss k).length≤8)→
  Holds r w→StG r p ss→TyG r v t→(∀w',Ext w w'→K (.bool (dF ss m t)) w')→zd Tryz.prog Tryz.j6 #[.slice p ss.length cap,v] w K:=by
 intro m
 induction m with
 |zero=>
  intro t w r v K _ hrk hl h32 h8 hr hs hv h
  have h5:¬t.k=5:=λh=>by unfold rkT at hrk;rw[if_pos h]at hrk;omega
  refine Tryz.Jj ?_
  unfold Tryz.YG
  obtain⟨p1,cap1,rfl,_⟩:=hv
  have S:=St.start hr
  refine S.box λb2 w1 S=>?_
  refine S.box λb3 w2 S=>?_
  refine gG_ ?_
  refine c_b (λh3=>?_) (λh3=>?_)
  ·have:=h _ S.ext
   rwa[dF,h3]at this
  ·refine gG_ ?_
   refine c_b (λh5'=>absurd (of_decide_eq_true h5') h5) (λ_=>?_)
   have:=h _ S.ext
   rwa[dF,h3]at this
 |succ m ih=>
  intro t w r v K hm hrk hl h32 h8 hr hs hv h
  refine Tryz.Jj ?_
  unfold Tryz.YG
  obtain⟨p1,cap1,rfl,_⟩:=hv
  have S:=St.start hr
  refine S.box λb2 w1 S=>?_
  refine S.box λb3 w2 S=>?_
  refine gG_ ?_
  refine c_b (λh3=>?_) (λh3=>?_)
  ·have:=h _ S.ext
   have h3':=of_decide_eq_true h3
   rwa[dF,if_neg (by omega),h3]at this
  refine gG_ ?_
  refine c_b (λh5=>?_) (λh5=>?_)
  ·have h5:t.k=5:=of_decide_eq_true h5
   obtain⟨hst0,hst1,_⟩:=jB hl h5
   have hlt:t.st.toNat<ss.length:=by omega
   obtain⟨b,off,q,capq,rfl,hcell,_,_,hf⟩:=xI hs hlt
   refine gG_ ?_
   refine zf (S.at hcell) ?_
   have htl:ze ss t.st=ss[t.st.toNat].fs.map (·.2):=by
    rw[← yD hlt];simp only[ze,tnc]
   have hlen:(ze ss t.st).length=ss[t.st.toNat].fs.length:=by rw[htl,List.length_map]
   have h88:=h8 t.st
   refine gP_ ?_
   refine Yl (g:=dF ss m) hf (by omega) (λf hfm {c} {w7} {K} hcl hty S hK=>?_) S λw8 S=>?_
   ·refine aa8 (by kernel_rfl) ?_
    refine Tryz.acf ?_
    unfold Tryz.Qp
    refine S.box λb4 w8 S=>?_
    have S:StX noX w r w8 (.cell b4 (.string f.1::c) 233::_):=S
    refine S.ld (b:=b2) ?_ rfl
    refine gP_ ?_
    refine S.fty hcl ?_
    have hmem:f.2∈ze ss t.st:=by rw[htl];exact List.mem_map.2 ⟨f,hfm,rfl⟩
    have hrk2:=adk hg hac h5 hmem
    exact ih (by omega) (by omega) (hg _ _ hmem) h32 h8 S.holds hs hty λw5 e5=>hK _ (S.go e5).tl
   ·rw[dF,if_pos h5,htl]at h
    exact h _ S.ext
  ·have:=h _ S.ext
   rwa[dF,if_neg (of_decide_eq_false h5),h3]at this
noncomputable def yw(ss:List StD)(t:TyD):Bool×Int:=if mayB ss t then(dF ss 40 t,0)else(false,2)
theorem Vx{ss:List StD}{t:TyD}{p:Option Addr}{cap:Nat}{w:World}{r:Gh}{v:Value}{K:Value→World→Prop}(hr:Holds r w)(hs:StG r p ss)(hv:TyG r v t)
  (h:∀w',Ext w w'→K (.tuple #[.bool (yw ss t).1,.int .i64 (yw ss t).2]) w'):zd Tryz.prog Tryz.j4 #[.slice p ss.length cap,v] w K:=by
 refine Tryz.aet ?_
 unfold Tryz.Vs
 have hv0:=hv
 obtain⟨p1,cap1,rfl,_⟩:=hv
 have S:=St.start hr
 refine S.box λb3 w1 S=>?_
 refine gL_ ?_
 refine Z9 S.holds hs hv0 λw2 e2=>?_
 have S:=S.go e2
 refine gP_ ?_
 refine c_b (λhn=>?_) (λhn=>?_)
 ·have hn:mayB ss t=false:=by simpa using hn
  rw[yw,hn]at h
  exact h _ S.ext
 have hn:mayB ss t=true:=by simpa using hn
 rw[yw,if_pos hn]at h
 obtain⟨hok,hl⟩:=Zq hn
 obtain⟨h32,hb1,hg,hac,_,_⟩:=yU hok
 refine gL_ ?_
 refine afY hg hac 40 (by decide) (by have:=adj ss t;omega) hl h32 (xV hb1) S.holds hs hv0 λw3 e3=>h _ (S.go e3).ext
theorem aln{s:Int}{n:Nat}{t:TyD}(h:zt s (n+1) t=true):(decide (t.regs.length=0))=(decide (t.k≠4)&&(decide (t.k≠3)||(match t.of with|u::_=>decide (u.regs.length=0)|[]=>false))):=by
 rcases zB h with⟨ho,hk⟩|⟨u,ho,_,hk⟩
 ·rw[XM ho,if_neg (by omega)]
  have h3:t.k≠3:=by omega
  have h4:t.k≠4:=by omega
  simp[h3,h4]
 ·rw[ZU ho,ho]
  by_cases h4:t.k=4
  ·simp[h4]
  ·have h3:t.k=3:=by omega
   simp[h3]
theorem afZ{s:Int}:∀(n:Nat){t:TyD}{w:World}{r:Gh}{v:Value}{K:Value→World→Prop},n≤1000→zt s n t=true→Holds r w→TyG r v t→
  (∀w',Ext w w'→K (.bool (decide (t.regs.length=0))) w')→zd Tryz.prog Tryz.j9 #[v] w K:=by
 intro n
 induction n with
 |zero=>intro t w r v K _ h;cases h
 |succ n ih=>
  intro t w r v K hn hl hr hv h
  refine Tryz.aew ?_
  unfold Tryz.Vw
  obtain⟨p1,cap1,rfl,_,_,hof⟩:=hv
  have S:=St.start hr
  refine S.box λb1 w1 S=>?_
  refine gG_ ?_
  have hpl:=aln hl
  refine zk (λs w'=>s=(if t.k≠4 then [.bool (decide (t.k≠3))]else [u_])∧w'=w1) (λK2 hK2=>?_) ?_
  ·by_cases h4:t.k=4
   ·rw[decide_eq_false (by simpa using h4)]
    refine gD_ ?_
    exact hK2 _ _ ⟨by rw[if_neg (by simpa using h4)],rfl⟩
   ·rw[gde (by simpa using h4)]
    refine g_TT ?_
    refine gG_ ?_
    exact hK2 _ _ ⟨by rw[if_pos h4],rfl⟩
  rintro _ w1 ⟨rfl,rfl⟩ d
  by_cases h4:t.k=4
  ·rw[if_neg (by simpa using h4)]
   rw[show decide (t.k≠4)=false by simp[h4]]
   refine zk (λs w'=>s=[u_]∧w'=w1) (λK2 hK2=>?_) ?_
   ·refine gD_ ?_
    exact hK2 _ _ ⟨rfl,rfl⟩
   rintro _ w1 ⟨rfl,rfl⟩ d
   refine zk (λs w'=>s=[u_]∧w'=w1) (λK2 hK2=>?_) ?_
   ·refine gD_ ?_
    exact hK2 _ _ ⟨rfl,rfl⟩
   rintro _ w1 ⟨rfl,rfl⟩ d
   refine k_pickF ?_
   have:=h _ S.ext
   rw[hpl]at this
   simpa [h4]using this
  ·rw[if_pos h4,show decide (t.k≠4)=true by simp[h4],gdz]
   refine zk (λs w'=>s=[if t.k≠3 then u_ else .bool (decide (t.regs.length=0))]∧Ext w1 w') (λK2 hK2=>?_) ?_
   ·by_cases h3:t.k=3
    ·rw[decide_eq_false (by simpa using h3)]
     refine g_FF ?_
     refine gG_ ?_
     rcases zB hl with⟨_,hk⟩|⟨u,ho,hu,_⟩
     ·omega
     have hlen:t.of.length=1:=by rw[ho];rfl
     obtain⟨ba,oa,rfl,c,hc,hcell,ht⟩:=NdG.of hof (i:=0) (by omega)
     have ht:TyG r (.agg c.toArray) u:=by simpa [ho]using ht
     refine gG_ ?_
     refine zo (n:=5) hc (λj v hj=>by simpa using S.at (hcell j v hj)) ?_
     refine ih (by omega) hu S.holds ht λw2 e2=>hK2 _ _ ⟨?_,e2⟩
     rw[if_neg (by simpa using h3),hpl,ho]
     simp[h3]
    ·rw[gde (by simpa using h3)]
     refine g_TF ?_
     exact hK2 _ _ ⟨by rw[if_pos h3],.refl _⟩
   rintro _ w2 ⟨rfl,e2⟩ d
   have S:=S.go e2
   refine zk (λs w'=>s=[.bool (decide (t.regs.length=0))]∧w'=w2) (λK2 hK2=>?_) ?_
   ·refine g_TT ?_
    refine⟨_,rfl,?_⟩
    refine hK2 _ _ ⟨?_,rfl⟩
    by_cases h3:t.k=3
    ·simp[h3]
    ·rw[show decide (t.k≠3)=true by simp[h3],hpl];simp[h3,h4]
   rintro _ w3 ⟨rfl,rfl⟩ d
   refine k_pickT ?_
   exact h _ S.ext
theorem af0{ss:List StD}{p:Option Addr}{cap:Nat}(hg:x8 ss)(hac:∀k,¬Rch ss k k):∀(m:Nat){t:TyD}{most:Nat}{w:World}{r:Gh}{v:Value}{K:Value→World→Prop},m≤100→most≤100→rkT ss t≤m→zt ss.length 48 t=true→ss.length≤32→(∀k,(ze ss k).length≤8)→
  Holds r w→StG r p ss→TyG r v t→(∀w',Ext w w'→K (.int .i64 (min (wF ss m t) (most+1):Nat)) w')→zd Tryz.prog Tryz.vc #[.slice p ss.length cap,v,.int .i64 (most:Nat)] w K:=by
 intro m
 induction m with
 |zero=>
  intro t most w r v K _ hmost hrk hl h32 h8 hr hs hv h
  have h5:¬t.k=5:=λh=>by unfold rkT at hrk;rw[if_pos h]at hrk;omega
  refine Tryz.Jn ?_
  unfold Tryz.YI
  obtain⟨p1,cap1,rfl,_⟩:=hv
  have S:=St.start hr
  refine S.box λb3 w1 S=>?_
  refine gG_ ?_
  refine zh (λ_=>?_) (λhn=>absurd (by omega) h5)
  have:=h _ S.ext
  rw[wF,show min 1 (most+1)=1 by omega]at this
  exact this
 |succ m ih=>
  intro t most w r v K hm hmost hrk hl h32 h8 hr hs hv h
  refine Tryz.Jn ?_
  unfold Tryz.YI
  obtain⟨p1,cap1,rfl,_⟩:=hv
  have S:=St.start hr
  refine S.box λb3 w1 S=>?_
  refine gG_ ?_
  refine zh (λhn=>?_) (λh5=>?_)
  ·have:=h _ S.ext
   rw[wF,if_neg (by omega),show min 1 (most+1)=1 by omega]at this
   exact this
  have h5:t.k=5:=by omega
  obtain⟨hst0,hst1,_⟩:=jB hl h5
  have hlt:t.st.toNat<ss.length:=by omega
  obtain⟨b,off,q,capq,rfl,hcell,_,_,hf⟩:=xI hs hlt
  refine gG_ ?_
  refine zf (S.at hcell) ?_
  have htl:ze ss t.st=ss[t.st.toNat].fs.map (·.2):=by
   rw[← yD hlt];simp only[ze,tnc]
  have hlen:(ze ss t.st).length=ss[t.st.toNat].fs.length:=by rw[htl,List.length_map]
  have h88:=h8 t.st
  refine zj (ι:=Nat) (λi=>[.int .i64 (min (yi (((ze ss t.st).take i).map (wF ss m))) (most+1):Nat),.int .i64 i]) (λi w'=>i≤(ze ss t.st).length∧St w r w' _)
   (λi=>(ze ss t.st).length-i) 0 (by simp[yi]) ⟨gzl _,S⟩ ?_
  clear S
  rintro i d w2 ⟨hi,S⟩ K6 hK6
  rw[gdz,gds,gdz]
  refine gP_ ?_
  refine gP_ ?_
  have hle:yi (((ze ss t.st).take i).map (wF ss m))≤wF ss (m+1) t:=by
   rw[wF,if_pos h5];exact aex _ _ _
  refine zg (c:=decide (yi (((ze ss t.st).take i).map (wF ss m))≤most)) (λ_ K2 hK2=>?_) ?_
  ·refine gP_ ?_
   rw[show decide (((min (yi (((ze ss t.st).take i).map (wF ss m))) (most+1):Nat):Int)≤(most:Int))=decide (yi (((ze ss t.st).take i).map (wF ss m))≤most)from decide_eq_decide.2 (by omega)]
   exact hK2
  refine c_b (λhlt2=>?_) (λhge=>?_)
  ·obtain⟨hlt2,hsm⟩:i<ss[t.st.toNat].fs.length∧yi (((ze ss t.st).take i).map (wF ss m))≤most:=by
    simp only[gba,gdt]at hlt2;omega
   have hlt3:i<(ze ss t.st).length:=by omega
   obtain⟨b2,off2,c,rfl,hcl,hcc,hty⟩:=qm hf hlt2
   refine gP_ ?_
   refine gP_ ?_
   refine zo (n:=5) (c:=c) hcl (λj v hj=>by
    have:=S.at (hcc (j+1) v (by simpa using hj))
    rw[tnc,Nat.add_assoc _ 1 j,Nat.add_comm 1 j];exact this) ?_
   have hel:(ze ss t.st)[i]=ss[t.st.toNat].fs[i].2:=by simp only[htl,List.getElem_map]
   have hmem:ss[t.st.toNat].fs[i].2∈ze ss t.st:=by rw[← hel];exact gem hlt3
   have hrk2:=adk hg hac h5 hmem
   refine gP_ ?_
   have e1:(most:Int)-((min (yi (((ze ss t.st).take i).map (wF ss m))) (most+1):Nat):Int)=((most-yi (((ze ss t.st).take i).map (wF ss m)):Nat):Int):=by omega
   rw[e1]
   refine ih (by omega) (by omega) (by omega) (hg _ _ hmem) h32 h8 S.holds hs hty λw5 e5=>?_
   have S:=S.go e5
   have hst:=aag (wF ss m) hlt3
   rw[hel]at hst
   refine gP_ ?_
   refine gP_ ?_
   have e2:((min (yi (((ze ss t.st).take i).map (wF ss m))) (most+1):Nat):Int)+((min (wF ss m ss[t.st.toNat].fs[i].2) (most-yi (((ze ss t.st).take i).map (wF ss m))+1):Nat):Int)=((min (yi (((ze ss t.st).take (i+1)).map (wF ss m))) (most+1):Nat):Int):=by omega
   rw[e2,show ((i:Int)+1)=((i+1:Nat):Int)by omega]
   exact hK6 (i+1) _ ⟨hlt3,S⟩ (by omega)
  ·have:=h _ S.ext
   have e:min (wF ss (m+1) t) (most+1)=min (yi (((ze ss t.st).take i).map (wF ss m))) (most+1):=by
    by_cases hie:i=(ze ss t.st).length
    ·rw[hie,List.take_length,wF,if_pos h5]
    ·have h1:¬yi (((ze ss t.st).take i).map (wF ss m))≤most:=by
      intro hc
      rw[gde hc,Bool.and_true,decide_eq_false_iff_not]at hge
      omega
     omega
   rw[e]at this
   exact this
theorem af1{ss:List StD}{p:Option Addr}{cap:Nat}(hg:x8 ss)(hac:∀k,¬Rch ss k k):∀(m:Nat){t:TyD}{w:World}{r:Gh}{v:Value}{K:Value→World→Prop},m≤100→rkT ss t≤m→zt ss.length 48 t=true→ss.length≤32→(∀k,(ze ss k).length≤8)→
  Holds r w→StG r p ss→TyG r v t→(∀w',Ext w w'→K (.bool (dF ss m t)) w')→zd Tryz.prog Tryz.j8 #[.slice p ss.length cap,v] w K:=by
 intro m
 induction m with
 |zero=>
  intro t w r v K _ hrk hl h32 h8 hr hs hv h
  have h5:¬t.k=5:=λh=>by unfold rkT at hrk;rw[if_pos h]at hrk;omega
  refine Tryz.Jm ?_
  unfold Tryz.YH
  obtain⟨p1,cap1,rfl,_⟩:=hv
  have S:=St.start hr
  refine S.box λb3 w1 S=>?_
  refine gG_ ?_
  refine zh (λ_=>?_) (λhn=>absurd (by omega) h5)
  refine gG_ ?_
  exact h _ S.ext
 |succ m ih=>
  intro t w r v K hm hrk hl h32 h8 hr hs hv h
  refine Tryz.Jm ?_
  unfold Tryz.YH
  obtain⟨p1,cap1,rfl,_⟩:=hv
  have S:=St.start hr
  refine S.box λb3 w1 S=>?_
  refine gG_ ?_
  refine zh (λhn=>?_) (λh5=>?_)
  ·refine gG_ ?_
   have:=h _ S.ext
   rw[dF,if_neg (by omega)]at this
   exact this
  have h5:t.k=5:=by omega
  obtain⟨hst0,hst1,_⟩:=jB hl h5
  have hlt:t.st.toNat<ss.length:=by omega
  obtain⟨b,off,q,capq,rfl,hcell,_,_,hf⟩:=xI hs hlt
  refine gG_ ?_
  refine zf (S.at hcell) ?_
  have htl:ze ss t.st=ss[t.st.toNat].fs.map (·.2):=by
   rw[← yD hlt];simp only[ze,tnc]
  have hlen:(ze ss t.st).length=ss[t.st.toNat].fs.length:=by rw[htl,List.length_map]
  have h88:=h8 t.st
  rw[dF,if_pos h5]at h
  refine zj (ι:=Nat) (λi=>[.int .i64 i]) (λi w'=>i≤(ze ss t.st).length∧((ze ss t.st).take i).any (dF ss m)=false∧St w r w' _)
   (λi=>(ze ss t.st).length-i) 0 rfl ⟨gzl _,by simp,S⟩ ?_
  clear S
  rintro i d w2 ⟨hi,hno,S⟩ K6 hK6
  rw[gdz]
  refine gP_ ?_
  refine gP_ ?_
  refine c_b (λhlt2=>?_) (λhge=>?_)
  ·have hlt2:i<ss[t.st.toNat].fs.length:=by simpa using hlt2
   have hlt3:i<(ze ss t.st).length:=by omega
   obtain⟨b2,off2,c,rfl,hcl,hcc,hty⟩:=qm hf hlt2
   refine gP_ ?_
   refine gP_ ?_
   refine zo (n:=5) (c:=c) hcl (λj v hj=>by
    have:=S.at (hcc (j+1) v (by simpa using hj))
    rw[tnc,Nat.add_assoc _ 1 j,Nat.add_comm 1 j];exact this) ?_
   have hel:(ze ss t.st)[i]=ss[t.st.toNat].fs[i].2:=by simp only[htl,List.getElem_map]
   have hmem:ss[t.st.toNat].fs[i].2∈ze ss t.st:=by rw[← hel];exact gem hlt3
   have hrk2:=adk hg hac h5 hmem
   refine ih (by omega) (by omega) (hg _ _ hmem) h32 h8 S.holds hs hty λw5 e5=>?_
   have S:=S.go e5
   refine c_b (λhy=>?_) (λhn=>?_)
   ·have:=h _ S.ext
    rwa[List.any_eq_true.2 ⟨_,hmem,hy⟩]at this
   ·refine gP_ ?_
    rw[show ((i:Int)+1)=((i+1:Nat):Int)by omega]
    refine hK6 (i+1) _ ⟨hlt3,?_,S⟩ (by omega)
    rw[List.take_succ_eq_append_getElem hlt3,List.any_append,hno,hel]
    simp[hn]
  ·have hie:i=(ze ss t.st).length:=by
    have :¬i<ss[t.st.toNat].fs.length:=by simpa using hge
    omega
   rw[hie,List.take_length]at hno
   have:=h _ S.ext
   rwa[hno]at this
theorem Jr{t:TyD}{w:World}{r:Gh}{v:Value}{K:Value→World→Prop}(hr:Holds r w)(hv:TyG r v t)(h:∀w',Ext w w'→K (.bool (ki t)) w'):zd Tryz.prog Tryz.jz #[v] w K:=by
 refine Tryz.adc ?_
 unfold Tryz.Jl
 have hv0:=hv
 obtain⟨p1,cap1,rfl,_⟩:=hv
 have S:=St.start hr
 refine S.box λb1 w1 S=>?_
 refine gL_ ?_
 refine ade S.holds hv0 λw2 e2=>?_
 have S:=S.go e2
 have:=h _ S.ext
 rw[ki]at this
 cases hB:isB t
 ·rw[hB,Bool.false_and]at this
  (intro K9 hK9;refine gD_ ?_;refine hK9 _ _ λ_=>?_;clear hK9 K9)
  (intro K9 hK9;refine gD_ ?_;refine hK9 _ _ λ_=>?_;clear hK9 K9)
  (intro K9 hK9;refine gD_ ?_;refine hK9 _ _ λ_=>?_;clear hK9 K9)
  (intro K9 hK9;refine gD_ ?_;refine hK9 _ _ λ_=>?_;clear hK9 K9)
  (intro K9 hK9;refine gD_ ?_;refine hK9 _ _ λ_=>?_;clear hK9 K9)
  (intro K9 hK9;refine gD_ ?_;refine hK9 _ _ λ_=>?_;clear hK9 K9)
  (intro K9 hK9;refine gD_ ?_;refine hK9 _ _ λ_=>?_;clear hK9 K9)
  refine gD_ ?_
  exact this
 ·rw[hB,Bool.true_and]at this
  cases h1:decide (t.k=1)
  ·cases h2:decide (t.k=2)
   ·cases h4:decide (t.k=4)
    ·rw[h1,h2,h4]at this
     intro K9 hK9;refine g_TT ?_;refine gG_ ?_;rw[h1];refine hK9 _ _ λ_=>?_;clear hK9 K9
     intro K9 hK9;refine g_FF ?_;refine gG_ ?_;rw[h2];refine hK9 _ _ λ_=>?_;clear hK9 K9
     (intro K9 hK9;refine gD_ ?_;refine hK9 _ _ λ_=>?_;clear hK9 K9)
     intro K9 hK9;refine g_FF ?_;refine gG_ ?_;rw[h4];refine hK9 _ _ λ_=>?_;clear hK9 K9
     (intro K9 hK9;refine gD_ ?_;refine hK9 _ _ λ_=>?_;clear hK9 K9)
     (intro K9 hK9;refine gD_ ?_;refine hK9 _ _ λ_=>?_;clear hK9 K9)
     (intro K9 hK9;refine gD_ ?_;refine hK9 _ _ λ_=>?_;clear hK9 K9)
     refine gD_ ?_
     exact this
    ·rw[h1,h2,h4]at this
     intro K9 hK9;refine g_TT ?_;refine gG_ ?_;rw[h1];refine hK9 _ _ λ_=>?_;clear hK9 K9
     intro K9 hK9;refine g_FF ?_;refine gG_ ?_;rw[h2];refine hK9 _ _ λ_=>?_;clear hK9 K9
     (intro K9 hK9;refine gD_ ?_;refine hK9 _ _ λ_=>?_;clear hK9 K9)
     intro K9 hK9;refine g_FF ?_;refine gG_ ?_;rw[h4];refine hK9 _ _ λ_=>?_;clear hK9 K9
     (intro K9 hK9;refine gD_ ?_;refine hK9 _ _ λ_=>?_;clear hK9 K9)
     (intro K9 hK9;refine gD_ ?_;refine hK9 _ _ λ_=>?_;clear hK9 K9)
     (intro K9 hK9;refine gD_ ?_;refine hK9 _ _ λ_=>?_;clear hK9 K9)
     refine gD_ ?_
     simpa using this
   ·rw[h1,h2]at this
    intro K9 hK9;refine g_TT ?_;refine gG_ ?_;rw[h1];refine hK9 _ _ λ_=>?_;clear hK9 K9
    intro K9 hK9;refine g_FF ?_;refine gG_ ?_;rw[h2];refine hK9 _ _ λ_=>?_;clear hK9 K9
    (intro K9 hK9;refine gD_ ?_;refine hK9 _ _ λ_=>?_;clear hK9 K9)
    (intro K9 hK9;refine gD_ ?_;refine hK9 _ _ λ_=>?_;clear hK9 K9)
    (intro K9 hK9;refine gD_ ?_;refine hK9 _ _ λ_=>?_;clear hK9 K9)
    (intro K9 hK9;refine gD_ ?_;refine hK9 _ _ λ_=>?_;clear hK9 K9)
    (intro K9 hK9;refine gD_ ?_;refine hK9 _ _ λ_=>?_;clear hK9 K9)
    refine gD_ ?_
    exact this
  ·rw[h1]at this
   intro K9 hK9;refine g_TT ?_;refine gG_ ?_;rw[h1];refine hK9 _ _ λ_=>?_;clear hK9 K9
   (intro K9 hK9;refine gD_ ?_;refine hK9 _ _ λ_=>?_;clear hK9 K9)
   (intro K9 hK9;refine gD_ ?_;refine hK9 _ _ λ_=>?_;clear hK9 K9)
   (intro K9 hK9;refine gD_ ?_;refine hK9 _ _ λ_=>?_;clear hK9 K9)
   (intro K9 hK9;refine gD_ ?_;refine hK9 _ _ λ_=>?_;clear hK9 K9)
   (intro K9 hK9;refine gD_ ?_;refine hK9 _ _ λ_=>?_;clear hK9 K9)
   (intro K9 hK9;refine gD_ ?_;refine hK9 _ _ λ_=>?_;clear hK9 K9)
   refine gD_ ?_
   exact this
theorem akf(n:Nat):yb (List.replicate n false)=List.replicate n (.bool false):=by rw[yb,List.map_replicate]
theorem anr(n:Nat):cf (List.replicate n false)=n:=by
 induction n with
 |zero=>rfl
 |succ n ih=>rw [List.replicate_succ,cf,ih];simp;omega
theorem akg{T:List Int}{n:Nat}{j:Int}(h:n≤T.length):(T++[j]).drop n=T.drop n++[j]:=List.drop_append_of_le_length h
theorem adm{ss:List StD}{p:Option Addr}{cap k:Nat}(hg:x8 ss)(h32:ss.length≤32)(hk:k<ss.length)(h8:∀k,(ze ss k).length≤8){w:World}{r:Gh}{K:Value→World→Prop}(hr:Holds r w)(hs:StG r p ss)
  (h:∀w',Ext w w'→K (.bool (qS ss k)) w'):zd Tryz.prog Tryz.Zk #[.slice p ss.length cap,.int .i64 k] w K:=by
 refine Tryz.aci ?_
 unfold Tryz.Qs
 have S:=St.start hr
 refine gP_ ?_
 refine S.mkS (z:=.bool false) (by omega) (by omega) λb13 w1 S=>?_
 rw[tnc,← akf]at S
 refine S.lit (e:=3) (cs:=[.int .i64 k]) (by kernel_rfl) λb16 w2 S=>?_
 have S:=S.ownNil 3 1
 refine S.ap (Sl.blk (S.blk b16)) (λv17 w3 S=>?_) (by omega)
 rw[tnc]
 have S:StX noX w r w3 [.row v17 3 1 [(k:Int)].length (ints [(k:Int)]),.cell b13 (yb (List.replicate ss.length false)) 4]:=S.drop b16
 refine zj (ι:=List Int×Nat×List Bool×Value) (λi=>[i.2.2.2,.int .i64 i.2.1]) (λi w'=>QI ss k ss.length (i.1.drop i.2.1) i.2.2.1 none∧i.2.1≤i.1.length∧mt i.2.2.1 k=false∧cf i.2.2.1+i.1.length≤33∧StX noX w r w' [.row i.2.2.2 3 1 i.1.length (ints i.1),.cell b13 (yb i.2.2.1) 4])
  (λi=>2*cf i.2.2.1+(i.1.length-i.2.1)) ([(k:Int)],0,List.replicate ss.length false,v17) rfl ⟨QI.start (Nat.le_refl _) (by omega) (by omega),by simp,?_,by rw[anr,gls];omega,S⟩ ?_
 ·unfold mt;rw[ggd,List.getElem?_replicate];split<;>rfl
 clear S
 rintro⟨T,n,met,v⟩ d w4 ⟨hq,hn,hmk,hc33,S⟩ K4 hK4
 simp only at hq hn hmk hc33 S⊢
 rw[gdz,gds,gdz]
 have S0:=S
 obtain⟨pv,capv,rfl,hpv,hcv,_,hsl⟩:=S.rowS v
 refine gP_ ?_
 refine gP_ ?_
 refine c_b (λhlt=>?_) (λhge=>?_)
 ·have hlt:n<T.length:=by simpa using hlt
  obtain⟨x,hxT⟩:∃x,T[n]? = some x:=⟨_,gqg hlt⟩
  have hTn:T[n]=x:=by rw[gqg hlt]at hxT;exact Option.some.inj hxT
  have hdr:T.drop n=x::T.drop (n+1):=by rw[List.drop_eq_getElem_cons hlt,hTn]
  rw[hdr]at hq
  obtain⟨bq,oq,rfl,hcell⟩:=vT hsl hlt
  rw[hTn]at hcell
  have hx:=hq.rng x List.mem_cons_self
  refine gP_ ?_
  refine zf (by simpa using hcell) ?_
  have hxn:x.toNat<ss.length:=by omega
  obtain⟨bs',os',q,capf,rfl,hcs,_,_,hf⟩:=xI hs hxn
  refine gP_ ?_
  refine gP_ ?_
  refine zf (S.at hcs) ?_
  have htl:ze ss x=ss[x.toNat].fs.map (·.2):=by
   rw[← yD hxn];simp only[ze,tnc]
  have hlen:(ze ss x).length=ss[x.toNat].fs.length:=by rw[htl,List.length_map]
  have h88:=h8 x
  refine zj (ι:=Nat×List Int×List Bool×Value) (λi=>[i.2.2.2,.int .i64 i.1]) (λi w'=>i.1≤(ze ss x).length∧QI ss k ss.length (i.2.1.drop (n+1)) i.2.2.1 (some (x,i.1))∧n+1≤i.2.1.length∧mt i.2.2.1 k=false∧cf i.2.2.1+i.2.1.length≤33∧
   2*cf i.2.2.1+(i.2.1.length-(n+1))≤2*cf met+(T.length-(n+1))∧StX noX w r w' [.row i.2.2.2 3 1 i.2.1.length (ints i.2.1),.cell b13 (yb i.2.2.1) 4]) (λi=>(ze ss x).length-i.1) (0,T,met,_) rfl ⟨gzl _,hq.pop,hlt,hmk,hc33,Nat.le_refl _,S⟩ ?_
  clear S
  rintro⟨i,T',met',v'⟩ d w5 ⟨hi,hq',hn',hmk',hc',hme,S⟩ K8 hK8
  simp only at hi hq' hn' hmk' hc' hme S⊢
  rw[gdz,gds,gdz]
  refine gP_ ?_
  refine gP_ ?_
  refine c_b (λhlt2=>?_) (λhge=>?_)
  ·have hlt2:i<ss[x.toNat].fs.length:=by simpa using hlt2
   have hlt3:i<(ze ss x).length:=by omega
   have hel:(ze ss x)[i]=ss[x.toNat].fs[i].2:=by simp only[htl,List.getElem_map]
   refine zk (λs w'=>∃T2 met2 v2,s=[v2]∧QI ss k ss.length (T2.drop (n+1)) met2 (some (x,i+1))∧n+1≤T2.length∧mt met2 k=false∧cf met2+T2.length≤33∧2*cf met2+T2.length≤2*cf met'+T'.length∧StX noX w r w' [.row v2 3 1 T2.length (ints T2),.cell b13 (yb met2) 4]) (λK12 hK12=>?_) ?_
   ·obtain⟨b2,off2,c,rfl,hcl,hcc,hty⟩:=qm hf hlt2
    refine gP_ ?_
    refine gP_ ?_
    refine zo (n:=5) (c:=c) hcl (λj v hj=>by
     have:=S.at (hcc (j+1) v (by simpa using hj))
     rw[tnc,Nat.add_assoc _ 1 j,Nat.add_comm 1 j];exact this) ?_
    refine S.al λb10 w6 S=>?_
    have hone:=aiU hty
    refine S.stB (λw7 S=>?_) rfl (by simpa using hcl) hone
    obtain⟨pt,capt,rfl,_⟩:=XK hty
    have S:StX noX w r w7 [.cell b10 [.int .u8 ss[x.toNat].fs[i].2.k,.bool ss[x.toNat].fs[i].2.m,.int .i64 ss[x.toNat].fs[i].2.re,.int .i64 ss[x.toNat].fs[i].2.st,.slice pt ss[x.toNat].fs[i].2.of.length capt] 43,.row v' 3 1 T'.length (ints T'),.cell b13 (yb met') 4]:=S
    refine gG_ ?_
    rw[← hel]
    refine c_b (λh5=>?_) (λh5=>?_)
    ·have h5:(ze ss x)[i].k≠5:=of_decide_eq_true h5
     exact hK12 _ _ ⟨T',met',v',rfl,hq'.skip hlt3 λe=>absurd e h5,hn',hmk',hc',Nat.le_refl _,S.tl⟩
    have h5:(ze ss x)[i].k=5:=by simpa using h5
    have hkid:Kid ss x (ze ss x)[i].st:=⟨_,gem hlt3,h5,rfl⟩
    have hin:=Zo hg hkid
    have hml:=hq'.len
    refine gG_ ?_
    rw[← hel]
    refine c_b (λhek=>?_) (λhek=>?_)
    ·have hek:(ze ss x)[i].st=k:=of_decide_eq_true hek
     have hR:Rch ss k k:=by
      rw[hek]at hkid
      rcases(hq'.s4 _ rfl).1 with hx|hx
      ·have hx:x=k:=hx
       rw[hx]at hkid;exact .one hkid
      ·exact .more hx hkid
     have:=h _ S.ext
     rw[← aba (b:=true) (λ_=>hR) (λ_=>rfl)]at this
     exact this
    have hek:¬(ze ss x)[i].st=k:=of_decide_eq_false hek
    refine gG_ ?_
    rw[← hel]
    refine gP_ ?_
    refine S.ld (b:=b13) (v:=.bool (mt met' (ze ss x)[i].st)) ?_ (by rw[Nat.zero_add];exact XN (by omega))
    refine gP_ ?_
    refine c_b (λhm=>?_) (λhm=>?_)
    ·have hm:mt met' (ze ss x)[i].st=false:=by simpa using hm
     refine gG_ ?_
     rw[← hel]
     refine gP_ ?_
     refine S.st (b:=b13) (λw8 S=>?_) (by rw[aai];omega)
     refine gG_ ?_
     rw[← hel]
     refine S.lit (e:=3) (cs:=[.int .i64 (ze ss x)[i].st]) (by kernel_rfl) λb49 w9 S=>?_
     refine S.ap (m':=1) (Sl.blk (S.blk b49)) (λv50 w10 S=>?_) (by omega)
     have hcf:=aah (l:=met') (i:=(ze ss x)[i].st.toNat) (by
      unfold mt at hm
      rw[ggd,gqg (by omega)]at hm
      rw[gqg (by omega)]
      simpa using hm)
     refine hK12 _ _ ⟨T'++[(ze ss x)[i].st],met'.set (ze ss x)[i].st.toNat true,v50,rfl,?_,by rw[gla];omega,?_,by rw[gla,gls];omega,by rw[gla,gls];omega,?_⟩
     ·rw[akg hn']
      exact hq'.push hg hlt3 h5
     ·rw[ahl hin.1 (by omega) (by omega),hmk']
      simp only[Bool.or_false,decide_eq_false_iff_not]
      exactλe=>hek e.symm
     ·have e1:(yb met').set (0+(ze ss x)[i].st.toNat) (.bool true)=yb (met'.set (ze ss x)[i].st.toNat true):=by
       rw[Nat.zero_add,yb,yb,List.map_set]
      rw[e1]at S
      rw[gla,abG]
      exact S.tl.tl
    ·have hm:mt met' (ze ss x)[i].st=true:=by simpa using hm
     exact hK12 _ _ ⟨T',met',v',rfl,hq'.skip hlt3 λ_=>hm,hn',hmk',hc',Nat.le_refl _,S.tl⟩
   ·rintro _ w6 ⟨T2,met2,v2,rfl,hq2,hn2,hmk2,hc2,hme2,S⟩ d6
    rw[gdz]
    refine gP_ ?_
    rw[show ((i:Int)+1)=((i+1:Nat):Int)by omega]
    exact hK8 (i+1,T2,met2,v2) _ ⟨hlt3,hq2,hn2,hmk2,hc2,by simp only;omega,S⟩ (by simp only;omega)
  ·have hge:(ze ss x).length≤i:=by
    have :¬i<ss[x.toNat].fs.length:=by simpa using hge
    omega
   refine gP_ ?_
   rw[show ((n:Int)+1)=((n+1:Nat):Int)by omega]
   exact hK4 (T',n+1,met',v') _ ⟨hq'.done hge,hn',hmk',hc',S⟩ (by simp only;omega)
 ·have hge:T.length≤n:=by
   have :¬n<T.length:=by simpa using hge
   omega
  rw[List.drop_of_length_le hge]at hq
  have:=h _ S.ext
  rw[← aba (b:=false) (λe=>by cases e) (λhR=>by rw[hq.all hg (by omega) hR]at hmk;cases hmk)]at this
  exact this
theorem adn{ss:List StD}{p:Option Addr}{cap:Nat}{w:World}{r:Gh}{K:Value→World→Prop}(hr:Holds r w)(hs:StG r p ss)(hm:ss.length≤1000000000)(hmf:∀k,(ze ss k).length≤1000000000)
  (h:∀w',Ext w w'→K (.tuple #[.int .i64 (zx ss).1,.int .i64 (zx ss).2]) w'):zd Tryz.prog Tryz.Zj #[.slice p ss.length cap] w K:=by
 refine Tryz.ach ?_
 unfold Tryz.Qr
 have S:=St.start hr
 refine gP_ ?_
 refine gP_ ?_
 refine c_b (λhbig=>?_) (λhsm=>?_)
 ·have hbig:32<ss.length:=by have:=of_decide_eq_true hbig;omega
  rw[zx,if_pos hbig]at h
  exact h _ S.ext
 have hsm:¬32<ss.length:=by have:=of_decide_eq_false hsm;omega
 rw[zx,if_neg hsm]at h
 refine zj (ι:=Nat) (λi=>[.int .i64 i]) (λi w'=>i≤ss.length∧(∀j,j<i→xw ss j=false)∧StX noX w r w' []) (λi=>ss.length-i) 0 rfl ⟨gzl _,λj hj=>by omega,S⟩ ?_
 clear S
 rintro i d w1 ⟨hi,hb,S⟩ K1 hK1
 rw[gdz]
 refine gP_ ?_
 refine gP_ ?_
 refine c_b (λhlt=>?_) (λhge=>?_)
 ·have hlt:i<ss.length:=by simpa using hlt
  have hbadd:xw ss i=true→∀w',Ext w w'→K (.tuple #[.int .i64 (i:Nat),.int .i64 2]) w':=λhbd w' e=>by
   have hf:=jq hlt hbd hb
   have:=h w' e
   rw[hf,if_pos hlt]at this
   exact this
  obtain⟨b,off,q,capq,rfl,hcell,hq0,hqc,hf⟩:=xI hs hlt
  refine gP_ ?_
  refine gP_ ?_
  refine zf (by rw[tnc];exact S.at hcell) ?_
  have hlen:=vU hlt
  have htl:=yD hlt
  have hmf':=hmf i
  refine gP_ ?_
  refine gP_ ?_
  refine zn (c:=decide (8<(ze ss i).length)) (λ_ K2 hK2=>?_) ?_
  ·refine gP_ ?_
   refine gP_ ?_
   rw[show decide ((8:Int)<(ss[i].fs.length:Int))=decide (8<(ze ss i).length)from decide_eq_decide.2 (by omega)]
   exact hK2
  rw[show decide ((ss[i].fs.length:Int)<1)=decide ((ze ss i).length<1)from decide_eq_decide.2 (by omega)]
  refine c_b (λhl=>?_) (λhl=>?_)
  ·refine hbadd ?_ _ S.ext
   rw[xw,hl];rfl
  refine zj (ι:=Nat) (λk=>[.int .i64 k]) (λk w'=>k≤(ze ss i).length∧(((ze ss i).take k).any λt=>!zt ss.length 48 t||decide (0<t.regs.length))=false∧StX noX w r w' []) (λk=>(ze ss i).length-k) 0 rfl ⟨gzl _,by simp,S⟩ ?_
  clear S
  rintro k d w2 ⟨hk,hno,S⟩ K9 hK9
  rw[gdz]
  refine gP_ ?_
  refine gP_ ?_
  refine c_b (λhlt2=>?_) (λhge2=>?_)
  ·have hlt2:k<ss[i].fs.length:=by simpa using hlt2
   have hlt3:k<(ze ss i).length:=by omega
   have hel:(ze ss i)[k]=ss[i].fs[k].2:=by simp only[htl,List.getElem_map]
   obtain⟨b2,off2,c,rfl,hcl,hcc,hty⟩:=qm hf hlt2
   have hrd:∀{w9:World}{K:Value→Prop},StX noX w r w9 []→K (.agg c.toArray)→opQ Tryz.prog w9 (Instr.loadAt 43 (.pointer (some ⟨b2,off2+((k:Int)).toNat*6+1,none⟩))) K:=λS k=>zo (n:=5) (c:=c) hcl (λj v hj=>by
    have:=S.at (hcc (j+1) v (by simpa using hj))
    rw[tnc,Nat.add_assoc _ 1 j,Nat.add_comm 1 j];exact this) k
   refine gP_ ?_
   refine gP_ ?_
   refine hrd S ?_
   refine gP_ ?_
   refine XI 48 (by decide) S.holds hty λw3 e3=>?_
   have S:=S.go e3
   refine gP_ ?_
   refine yZ (c:=decide (0<ss[i].fs[k].2.regs.length)) (λhl K2 hK2=>?_) λw4 e4=>?_
   ·have hl:zt ss.length 48 ss[i].fs[k].2=true:=by simpa using hl
    refine gP_ ?_
    refine gP_ ?_
    refine hrd S ?_
    refine afZ 48 (by decide) hl S.holds hty λw4 e4=>?_
    refine gP_ ?_
    rw[show (!decide (ss[i].fs[k].2.regs.length=0))=decide (0<ss[i].fs[k].2.regs.length)by
     rw[← decide_not];exact decide_eq_decide.2 (by omega)]
    exact hK2 _ e4
   have S:=S.go e4
   refine c_b (λhy=>?_) (λhn=>?_)
   ·refine hbadd ?_ _ S.ext
    have :((ze ss i).any λt=>!zt ss.length 48 t||decide (0<t.regs.length))=true:=List.any_eq_true.2 ⟨_,gem hlt3,by rw[hel];exact hy⟩
    rw[xw,this,Bool.or_true]
   ·refine gP_ ?_
    rw[show ((k:Int)+1)=((k+1:Nat):Int)by omega]
    refine hK9 (k+1) _ ⟨hlt3,?_,S⟩ (by omega)
    rw[List.take_succ_eq_append_getElem hlt3,List.any_append,hno,hel]
    simp only[List.any_cons,List.any_nil,Bool.false_or,Bool.or_false]
    exact hn
  ·have hie:k=(ze ss i).length:=by
    have :¬k<ss[i].fs.length:=by simpa using hge2
    omega
   rw[hie,List.take_length]at hno
   refine gP_ ?_
   rw[show ((i:Int)+1)=((i+1:Nat):Int)by omega]
   refine hK1 (i+1) _ ⟨hlt,λj hj=>?_,S⟩ (by omega)
   by_cases hji:j=i
   ·rw[hji,xw,hl,hno];rfl
   ·exact hb j (by omega)
 have hie:i=ss.length:=by
  have :¬i<ss.length:=by simpa using hge
  omega
 rw[hie]at hb
 have h1:¬xF ss.length (xw ss)<ss.length:=by rw[jp hb];omega
 rw[if_neg h1]at h
 have hgd:=Jq hb
 refine zj (ι:=Nat) (λi=>[.int .i64 i]) (λi w'=>i≤ss.length∧(∀j,j<i→qS ss j=false)∧StX noX w r w' []) (λi=>ss.length-i) 0 rfl ⟨gzl _,λj hj=>by omega,S⟩ ?_
 clear S hie hge hi
 rintro i d w5 ⟨hi,hb2,S⟩ K1 hK1
 rw[gdz]
 refine gP_ ?_
 refine gP_ ?_
 refine c_b (λhlt=>?_) (λhge=>?_)
 ·have hlt:i<ss.length:=by simpa using hlt
  refine adm hgd (by omega) hlt (xV hb) S.holds hs λw6 e6=>?_
  have S:=S.go e6
  refine c_b (λhy=>?_) (λhn=>?_)
  ·have hf:=jq hlt hy hb2
   rw[hf,if_pos hlt]at h
   exact h _ S.ext
  ·refine gP_ ?_
   rw[show ((i:Int)+1)=((i+1:Nat):Int)by omega]
   refine hK1 (i+1) _ ⟨hlt,λj hj=>?_,S⟩ (by omega)
   by_cases hji:j=i
   ·rw[hji];exact hn
   ·exact hb2 j (by omega)
 have hie:i=ss.length:=by
  have :¬i<ss.length:=by simpa using hge
  omega
 rw[hie]at hb2
 have h2:¬xF ss.length (qS ss)<ss.length:=by rw[jp hb2];omega
 rw[if_neg h2]at h
 have hac:=aa9 hgd hb2
 refine zj (ι:=Nat) (λi=>[.int .i64 i]) (λi w'=>i≤ss.length∧(∀j,j<i→ZV ss j=false)∧StX noX w r w' []) (λi=>ss.length-i) 0 rfl ⟨gzl _,λj hj=>by omega,S⟩ ?_
 clear S hie hge hi
 rintro i d w5 ⟨hi,hb3,S⟩ K1 hK1
 rw[gdz]
 refine gP_ ?_
 refine gP_ ?_
 refine c_b (λhlt=>?_) (λhge=>?_)
 ·have hlt:i<ss.length:=by simpa using hlt
  refine zq (cs:=#[.int .u8 5,.bool false,.int .i64 0,.int .i64 i,.slice none 0 0]) (by kernel_rfl) ?_
  refine af0 hgd hac 40 (t:=.mk 5 false 0 i []) (most:=16) (by decide) (by decide) (by have:=adj ss (.mk 5 false 0 i []);omega) ?_ (by omega) (xV hb) S.holds hs (yH (r:=r)) λw9 e9=>?_
  ·rw[yv]
   simp[TyD.k,TyD.m,TyD.re,TyD.of,TyD.st]
   omega
  have S:=S.go e9
  refine gP_ ?_
  rw[show decide ((((min (wF ss 40 (.mk 5 false 0 i [])) (16+1):Nat):Int))>16)=decide (16<wF ss 40 (.mk 5 false 0 i []))from decide_eq_decide.2 (by omega)]
  refine c_b (λhy=>?_) (λhn=>?_)
  ·have hf:=jq (p:=ZV ss) hlt hy hb3
   rw[hf,if_pos hlt]at h
   exact h _ S.ext
  ·refine gP_ ?_
   rw[show ((i:Int)+1)=((i+1:Nat):Int)by omega]
   refine hK1 (i+1) _ ⟨hlt,λj hj=>?_,S⟩ (by omega)
   by_cases hji:j=i
   ·rw[hji];exact hn
   ·exact hb3 j (by omega)
 have hie:i=ss.length:=by
  have :¬i<ss.length:=by simpa using hge
  omega
 rw[hie]at hb3
 have h3:¬xF ss.length (ZV ss)<ss.length:=by rw[jp hb3];omega
 rw[if_neg h3]at h
 exact h _ S.ext
theorem abH{ss:List StD}{t:TyD}{p:Option Addr}{cap:Nat}{w:World}{r:Gh}{v:Value}{K:Value→World→Prop}(hr:Holds r w)(hs:StG r p ss)(hm:ss.length≤1000000000)(hmf:∀k,(ze ss k).length≤1000000000)(hv:TyG r v t)
  (h:∀w',Ext w w'→K (.bool (mayB ss t)) w'):zd Tryz.prog Tryz.Z6 #[.slice p ss.length cap,v] w K:=by
 refine Tryz.ahe ?_
 unfold Tryz.abE
 have hv0:=hv
 obtain⟨p1,cap1,rfl,_⟩:=hv
 have S:=St.start hr
 refine S.box λb3 w1 S=>?_
 refine adn S.holds hs hm hmf λw2 e2=>?_
 have S:=S.go e2
 refine gP_ ?_
 refine gP_ ?_
 refine gP_ ?_
 refine zr (c:=zt ss.length 48 t) (λ_ K2 hK2=>?_) λw3 e3=>h _ (S.go e3).ext
 refine gL_ ?_
 refine gP_ ?_
 exact XI 48 (by decide) S.holds hv0 λw3 e3=>hK2 _ e3
theorem Vy{ss:List StD}{t:TyD}{p:Option Addr}{cap:Nat}{w:World}{r:Gh}{v:Value}{K:Value→World→Prop}(hr:Holds r w)(hs:StG r p ss)(hm:ss.length≤1000000000)(hmf:∀k,(ze ss k).length≤1000000000)(hv:TyG r v t)
  (h:∀w',Ext w w'→K (.tuple #[.bool (yw ss t).1,.int .i64 (yw ss t).2]) w'):zd Tryz.prog Tryz.j7 #[.slice p ss.length cap,v] w K:=by
 refine Tryz.aev ?_
 unfold Tryz.Vv
 have hv0:=hv
 obtain⟨p1,cap1,rfl,_⟩:=hv
 have S:=St.start hr
 refine S.box λb3 w1 S=>?_
 refine gL_ ?_
 refine abH S.holds hs hm hmf hv0 λw2 e2=>?_
 have S:=S.go e2
 refine gP_ ?_
 refine c_b (λhn=>?_) (λhn=>?_)
 ·have hn:mayB ss t=false:=by simpa using hn
  rw[yw,hn]at h
  exact h _ S.ext
 have hn:mayB ss t=true:=by simpa using hn
 rw[yw,if_pos hn]at h
 obtain⟨hok,hl⟩:=Zq hn
 obtain⟨h32,hb1,hg,hac,_,_⟩:=yU hok
 refine gL_ ?_
 exact af1 hg hac 40 (by decide) (by have:=adj ss t;omega) hl h32 (xV hb1) S.holds hs hv0 λw3 e3=>h _ (S.go e3).ext
def un(gs:Nat→Gh)(i n:Nat):Gh:=λb o=>∃j,i≤j∧j<n∧gs j b o
structure ans(top:Gh)(gs:Nat→Gh)(q:Option Addr)(ts:List TyD):Prop where
 at':∀(i:Nat)(hi:i<ts.length),∃(b off:Nat)(c:List Value),q=some ⟨b,off,none⟩∧c.length=5∧(∀j v,c[j]? = some v→Ob top λw=>w.cell? ⟨b,off+i*5+j,none⟩=some v)∧TyG (gs i) (.agg c.toArray) ts[i]∧XL (gs i) (.agg c.toArray) ts[i]
 dis:∀i j,i≠j→i<ts.length→j<ts.length→Dis (gs i) (gs j)
 dtop:∀i,i<ts.length→Dis (gs i) top
def TysG(s:Gh)(q:Option Addr)(ts:List TyD):Prop:=
 ∀(i:Nat)(hi:i<ts.length),∃(b off:Nat)(c:List Value),q=some ⟨b,off,none⟩∧c.length=5∧(∀j v,c[j]? = some v→Ob s λw=>w.cell? ⟨b,off+i*5+j,none⟩=some v)∧TyG s (.agg c.toArray) ts[i]
theorem ChnL.frz2{X:Nat→Prop}{w0 w:World}{c:List Value}{t:TyD}{N:List Asr}(h:ChnL c t N):∀{r:Gh}{L:List Asr},StX X w0 r w (N++L)→
  ∃sn,StX X w0 (r.or sn) w L∧TyG sn (.agg c.toArray) t∧XL sn (.agg c.toArray) t∧(∀b o,sn b o→w0.heap.size≤b∨X b)∧Dis sn r:=by
 induction h with
 |nil=>
  intro r L S
  exact⟨nothing,S.to _,yH,.nil,λ_ _ h=>h.elim,λ_ _ _ h=>h.elim⟩
 |@one b c k re st m u N hu ih=>
  intro r L S
  have S:StX X w0 r w (N++(.cell b c 43::L)):=S.perm List.perm_middle.symm
  have hm0:=S.mine (.cell b c 43) (by simp) b rfl
  obtain⟨sn,S,ht,hg,hf,hd⟩:=ih S
  have hm:=S.mine (.cell b c 43) (by simp) b rfl
  have S:=S.frz
  refine⟨sn.or (Go.Sh.one b c 43),S.to _,adh ht,.one (λo ho=>hm.2 o (.inr ho)) hu.len ht hg,λb' o ho=>?_,λb' o o' ho hr=>?_⟩
  ·rcases ho with ho|⟨rfl,_⟩
   ·exact hf b' o ho
   ·exact hm.1
  ·rcases ho with ho|⟨rfl,_⟩
   ·exact hd b' o o' ho hr
   ·exact hm0.2 o' hr
theorem amE{c:List Value}{t:TyD}{N:List Asr}(h:ChnL c t N):aej Tryz.prog 41 1 #[(0,.agg c.toArray)]=some (43,c):=by
 cases h<;>kernel_rfl
noncomputable def yr(ss:List StD)(t:TyD):List TyD×Int:=if mayB ss t&&decide (t.k=5)then(ze ss t.st,0)else([],2)
theorem aey{ss:List StD}{t:TyD}{p:Option Addr}{cap:Nat}{w:World}{r:Gh}{v:Value}{K:Value→World→Prop}(hr:Holds r w)(hs:StG r p ss)(hv:TyG r v t)
  (h:∀q cp top gs w',Ext w w'→New w (top.or (un gs 0 (yr ss t).1.length)) w'→ans top gs q (yr ss t).1→(yr ss t).1.length≤cp→K (.tuple #[.slice q (yr ss t).1.length cp,.int .i64 (yr ss t).2]) w'):zd Tryz.prog Tryz.ZL #[.slice p ss.length cap,v] w K:=by
 refine Tryz.ac8 ?_
 unfold Tryz.Jh
 have hv0:=hv
 obtain⟨p1,cap1,rfl,_⟩:=hv
 have S:=St.start hr
 refine S.box λb3 w1 S=>?_
 refine gL_ ?_
 refine Z9 S.holds hs hv0 λw2 e2=>?_
 have S:=S.go e2
 refine gP_ ?_
 refine zn (c:=decide (t.k≠5)) (λ_ K2 hK2=>?_) ?_
 ·refine gG_ ?_
  exact hK2
 refine c_b (λhn=>?_) (λhn=>?_)
 ·have hn:(mayB ss t&&decide (t.k=5))=false:=by
   cases hm:mayB ss t
   ·rfl
   ·rw[hm]at hn;simpa using hn
  rw[yr,hn]at h
  exact h none 0 nothing (λ_=>nothing) _ S.ext ⟨λb o ho=>by rcases ho with ho|⟨_,_,_,ho⟩<;>exact ho.elim,λb o ho=>by rcases ho with ho|⟨_,_,_,ho⟩<;>exact ho.elim⟩
   ⟨λi hi=>by simp at hi,λi j _ hi=>by simp at hi,λi hi=>by simp at hi⟩ (Nat.le_refl _)
 have hn:mayB ss t=true∧t.k=5:=by
  cases hm:mayB ss t
  ·rw[hm]at hn;simp at hn
  ·rw[hm]at hn;exact⟨rfl,by simpa using hn⟩
 obtain⟨hm,h5⟩:=hn
 rw[yr,hm,gde h5]at h
 simp only[Bool.and_true,if_true]at h
 obtain⟨hok,hl⟩:=Zq hm
 obtain⟨h32,hb1,hg,hac,_,_⟩:=yU hok
 obtain⟨hst0,hst1,_⟩:=jB hl h5
 have hlt:t.st.toNat<ss.length:=by omega
 obtain⟨b,off,q,capq,rfl,hcell,_,_,hf⟩:=xI hs hlt
 have htl:ze ss t.st=ss[t.st.toNat].fs.map (·.2):=by
  rw[← yD hlt];simp only[ze,tnc]
 have hlen:(ze ss t.st).length=ss[t.st.toNat].fs.length:=by rw[htl,List.length_map]
 have h88:=xV hb1 t.st
 refine gG_ ?_
 refine zf (S.at hcell) ?_
 refine gP_ ?_
 have S:=S.tl
 have S:=S.ownNil 43 5
 have S:=S.to (r.or (un (λ_=>nothing) 0 0)) (l:=⟨λb o ho=>by rcases ho with ho|⟨_,_,h2,_⟩;exact ho;omega⟩)
 refine zj (ι:=Nat×Value×List Value×(Nat→Gh)) (λi=>[i.2.1,.int .i64 i.1]) (λi w'=>i.1≤(ze ss t.st).length∧i.2.2.1.length=i.1*5∧
   (∀j (hj:j<(ze ss t.st).length),j<i.1→((i.2.2.1.drop (j*5)).take 5).length=5∧TyG (i.2.2.2 j) (.agg ((i.2.2.1.drop (j*5)).take 5).toArray) (ze ss t.st)[j]∧XL (i.2.2.2 j) (.agg ((i.2.2.1.drop (j*5)).take 5).toArray) (ze ss t.st)[j])∧
   (∀j,j<i.1→∀b o,i.2.2.2 j b o→w.heap.size≤b)∧(∀j k,j≠k→j<i.1→k<i.1→Dis (i.2.2.2 j) (i.2.2.2 k))∧StX noX w (r.or (un i.2.2.2 0 i.1)) w' [.row i.2.1 43 5 i.1 i.2.2.1])
  (λi=>(ze ss t.st).length-i.1) (0,.slice none 0 0,[],λ_=>nothing) rfl ⟨gzl _,rfl,λj _ hj=>by omega,λj hj=>by omega,λj k _ hj=>by omega,S⟩ ?_
 clear S
 rintro⟨i,v,xs,gs⟩ d w3 ⟨hi,hxl,hel,hfr,hdis,S⟩ K7 hK7
 simp only at hi hxl hel hfr hdis S⊢
 rw[gdz,gds,gdz]
 refine gP_ ?_
 refine c_b (λhlt2=>?_) (λhge=>?_)
 ·have hlt2:i<ss[t.st.toNat].fs.length:=by simpa using hlt2
  have hlt3:i<(ze ss t.st).length:=by omega
  have hel2:(ze ss t.st)[i]=ss[t.st.toNat].fs[i].2:=by simp only[htl,List.getElem_map]
  have hmem:ss[t.st.toNat].fs[i].2∈ze ss t.st:=by rw[← hel2];exact gem hlt3
  obtain⟨b2,off2,c,rfl,hcl,hcc,hty⟩:=qm hf hlt2
  refine gP_ ?_
  refine zo (n:=6) (c:=.string ss[t.st.toNat].fs[i].1::c) (by simp[hcl]) (λj v hj=>by rw[tnc];exact S.at (hcc j v hj)) ?_
  refine S.al λb8 w4 S=>?_
  refine S.stB (b:=b8) (cs:=(Value.string ss[t.st.toNat].fs[i].1::c).toArray) (λw5 S=>?_) rfl (by simp[hcl]) (acj hty)
  refine gP_ ?_
  refine S.fty hcl ?_
  refine QW (s:=ss.length) 48 (by decide) (hg _ _ hmem) S.tl hty.up λc' N w6 hch S=>?_
  have hcl':=hch.len
  have hone':=hch.ones
  obtain⟨sn,S,ht,hcg,hfn,hdn⟩:=hch.frz2 S
  refine S.lit (e:=43) (cs:=c') (amE hch) λb33 w7 S=>?_
  refine S.ap (m':=1) (Sl.blk (S.blk b33)) (λv34 w8 S=>?_) (by omega) (by omega) (by simp) hone'
  have S:=S.tl
  refine gP_ ?_
  rw[show ((i:Int)+1)=((i+1:Nat):Int)by omega]
  refine hK7 (i+1,v34,xs++c',λj=>if j=i then sn else gs j) _ ⟨hlt3,by simp only[gla];omega,λj hj hji=>?_,λj hj b o ho=>?_,λj k hjk hj hk=>?_,?_⟩ (by simp only;omega)
  ·by_cases hji':j=i
   ·subst hji'
    simp only[if_true]
    have e:((xs++c').drop (j*5)).take 5=c':=by
     rw[← hxl,List.drop_left',List.take_of_length_le (by omega)];rfl
    rw[e,hel2]
    exact⟨hcl',ht,hcg⟩
   ·simp only[if_neg hji']
    have e:((xs++c').drop (j*5)).take 5=(xs.drop (j*5)).take 5:=by
     rw[List.drop_append_of_le_length (by omega),List.take_append_of_le_length (by rw[List.length_drop];omega)]
    rw[e]
    exact hel j hj (by omega)
  ·simp only at ho
   split at ho
   ·exact(hfn b o ho).elim id λh=>h.elim
   ·exact hfr j (by omega) b o ho
  ·simp only
   by_cases h1:j=i
   ·rw[if_pos h1,if_neg (by omega)]
    exactλb o o' ho ho'=>hdn b o o' ho (.inr ⟨k,gzl _,by omega,ho'⟩)
   ·rw[if_neg h1]
    by_cases h2:k=i
    ·rw[if_pos h2]
     exactλb o o' ho ho'=>hdn b o' o ho' (.inr ⟨j,gzl _,by omega,ho⟩)
    ·rw[if_neg h2]
     exact hdis j k hjk (by omega) (by omega)
  ·simp only
   exact S.to _ (l:=⟨λb o ho=>by
    rcases ho with ho|⟨j,_,hj,ho⟩
    ·exact .inl (.inl ho)
    ·split at ho
     ·exact .inr ho
     ·exact .inl (.inr ⟨j,gzl _,by omega,ho⟩)⟩)
 ·have hge:i=(ze ss t.st).length:=by
   have :¬i<ss[t.st.toNat].fs.length:=by simpa using hge
   omega
  subst hge
  have hpos:(ze ss t.st).length≠0:=by
   have:=hb1 t.st.toNat hlt
   have e:ze ss (t.st.toNat:Int)=ze ss t.st:=by rw[ze,ze,tnc]
   rw[xw,e,Bool.or_eq_false_iff,Bool.or_eq_false_iff]at this
   simp only[decide_eq_false_iff_not]at this
   omega
  obtain⟨b9,cap9,c9,rfl,hc9,hcl9,htk9,S⟩:=S.rowCell v hpos
  have hm9:=S.mine (.cell b9 c9 43) (by simp) b9 rfl
  have S:=S.frz
  refine h _ _ (Go.Sh.one b9 c9 43) gs _ S.ext ⟨S.holds.le (h:=⟨λb o ho=>by
   rcases ho with ho|ho
   ·exact .inr ho
   ·exact .inl (.inr ho)⟩),λb o ho=>?_⟩ ⟨λj hj=>?_,λj k hjk hj hk=>hdis j k hjk hj hk,λj hj b o o' ho ho'=>?_⟩ hc9
  ·rcases ho with⟨rfl,_⟩|⟨j,_,hj,ho⟩
   ·exact hm9.1.resolve_right id
   ·exact hfr j hj b o ho
  ·obtain⟨h1,h2,h3⟩:=hel j hj hj
   refine⟨b9,0,_,rfl,h1,λk v hk w' hw=>?_,h2,h3⟩
   have B:=xj (b:=b9) (c:=c9) (T:=43) w' hw
   show w'.cell? _=some v
   rw[Nat.zero_add,B.cell]
   have hk5:k<5:=by have:=(List.getElem?_eq_some_iff.1 hk).1;omega
   rw[List.getElem?_take,if_pos hk5,List.getElem?_drop,← htk9,List.getElem?_take]at hk
   split at hk
   ·exact hk
   ·cases hk
  ·obtain⟨rfl,_⟩:=ho'
   exact hm9.2 o (.inr ⟨j,gzl _,hj,ho⟩)
theorem amF{r:Gh}{cs c:List Value}{u:TyD}{b cap:Nat}{k re st:Int}{m:Bool}(h:TyG r (.agg cs.toArray) u)(hc:c.take 5=cs)(hcap:1≤cap):
  TyG (r.or (Go.Sh.one b c 43)) (.agg #[.int .u8 k,.bool m,.int .i64 re,.int .i64 st,.slice (some ⟨b,0,none⟩) 1 cap]) (.mk k m re st [u]):=by
 obtain⟨c1,hc1,hcl,hr⟩:=h.rep
 have hc1:cs=c1:=List.toArray_inj (Value.agg.inj hc1)
 subst hc1
 refine⟨_,cap,rfl,by simp,hcap,?_⟩
 refine⟨⟨cs,hcl,λj x hj=>⟨b,0,rfl,λw hw=>?_⟩,hr.up⟩,trivial⟩
 have B:=xj (b:=b) (c:=c) (T:=43) w (hw.le (h:=inferInstance))
 show w.cell? ⟨b,0+0*5+j,none⟩=some x
 rw[show 0+0*5+j=j by omega,B.cell]
 rw[← hc,List.getElem?_take]at hj
 split at hj
 ·exact hj
 ·cases hj
theorem aim{s:Int}:∀(n:Nat){t:TyD}{w:World}{r:Gh}{v:Value}{K:Value→World→Prop},n≤1000→zt s n t=true→Holds r w→TyG r v t→
  (∀v' sn w',Ext w w'→New w sn w'→TyG sn v' t→K v' w')→zd Tryz.prog Tryz.Z7 #[v] w K:=by
 intro n
 induction n with
 |zero=>intro t w r v K _ h;cases h
 |succ n ih=>
  intro t w r v K hn hl hr hv h
  refine Tryz.ahf ?_
  unfold Tryz.abF
  obtain⟨p1,cap1,rfl,hp1,hcap1,hof⟩:=hv
  have S:=St.start hr
  refine S.box λb1 w1 S=>?_
  refine S.al λb2 w2 S=>?_
  have S:StX noX w r w2 [.cell b2 [.int .u8 0,.bool false,.int .i64 0,.int .i64 0,.slice none 0 0] 43,.cell b1 [.int .u8 t.k,.bool t.m,.int .i64 t.re,.int .i64 t.st,.slice p1 t.of.length cap1] 43]:=S
  have he:t=.mk t.k t.m t.re t.st t.of:=by cases t;rfl
  refine gG_ ?_
  refine S.st λw3 S=>?_
  have fin:∀{w9:World}{q:Gh}{v9:Value},StX noX w q w9 [.cell b2 [.int .u8 0,.bool false,.int .i64 0,.int .i64 0,.slice none 0 0] 43,.cell b1 [.int .u8 t.k,.bool t.m,.int .i64 t.re,.int .i64 t.st,v9] 43]→v9.oneCell'=true→
    (∃sn,Le sn q∧(∀b o,sn b o→w.heap.size≤b)∧TyG sn (.agg #[.int .u8 t.k,.bool t.m,.int .i64 t.re,.int .i64 t.st,v9]) t)→
    opQ Tryz.prog w9 (Instr.loadAt 43 (.pointer (some ⟨b1,0,none⟩))) λt24=>opU Tryz.prog w9 (Instr.storeAt 43 (.pointer (some ⟨b2,0,none⟩)) t24) λw12=>opQ Tryz.prog w12 (zi 43 (.pointer (some ⟨b2,0,none⟩))) λr13=>K r13 w12:=by
   intro w9 q v9 S h1 ⟨sn,hle,hf,hty⟩
   refine gG_ ?_
   refine S.stB (h1:=by
    intro u hu
    simp only[List.mem_cons,List.not_mem_nil,or_false]at hu
    rcases hu with rfl|rfl|rfl|rfl|rfl<;>first|rfl|exact h1) λw7 S=>?_
   refine gG_ ?_
   exact h _ sn _ S.ext ⟨S.holds.le (h:=hle),hf⟩ hty
  rcases zB hl with⟨ho,_⟩|⟨u,ho,hu,_⟩
  ·refine zj (ι:=Unit) (λ_=>[.int .i64 0]) (λ_ w'=>w'=w3) (λ_=>0) () rfl rfl ?_
   rintro⟨⟩ d w5 rfl K6 hK6
   rw[gdz]
   refine gP_ ?_
   refine gP_ ?_
   refine c_f (by rw[ho];rfl) ?_
   refine fin S rfl ⟨nothing,inferInstance,λ_ _ h=>h.elim,?_⟩
   rw[he,ho]
   exact yH
  ·have hlen:t.of.length=1:=by rw[ho];rfl
   have S3:=S
   obtain⟨ba,oa,rfl,c,hc,hcell,ht⟩:=NdG.of hof (i:=0) (by omega)
   have ht:TyG r (.agg c.toArray) u:=by simpa [ho]using ht
   refine zj (ι:=Bool) (λi=>[.int .i64 (if i then 1 else 0)]) (λi w'=>if i then∃q v9,StX noX w q w' [.cell b2 [.int .u8 0,.bool false,.int .i64 0,.int .i64 0,.slice none 0 0] 43,.cell b1 [.int .u8 t.k,.bool t.m,.int .i64 t.re,.int .i64 t.st,v9] 43]∧v9.oneCell'=true∧
     ∃sn,Le sn q∧(∀b o,sn b o→w.heap.size≤b)∧TyG sn (.agg #[.int .u8 t.k,.bool t.m,.int .i64 t.re,.int .i64 t.st,v9]) t
    else StX noX w r w' [.cell b2 [.int .u8 0,.bool false,.int .i64 0,.int .i64 0,.slice none 0 0] 43,.cell b1 [.int .u8 t.k,.bool t.m,.int .i64 t.re,.int .i64 t.st,.slice none 0 0] 43]) (λi=>if i then 0 else 1) false rfl S3 ?_
   clear S S3
   rintro i d w5 hI K6 hK6
   rw[gdz]
   refine gP_ ?_
   cases i with
   |true=>
    obtain⟨q,v9,S,h1,hx⟩:=hI
    refine gP_ ?_
    refine c_f (by rw[hlen];rfl) ?_
    exact fin S h1 hx
   |false=>
    have S:StX noX w r w5 [.cell b2 [.int .u8 0,.bool false,.int .i64 0,.int .i64 0,.slice none 0 0] 43,.cell b1 [.int .u8 t.k,.bool t.m,.int .i64 t.re,.int .i64 t.st,.slice none 0 0] 43]:=hI
    refine gP_ ?_
    refine c_t (by rw[hlen];rfl) ?_
    have S:=S.go (Ext.drew _)
    simp only[Bool.false_eq_true,if_false]
    refine gG_ ?_
    refine zo (n:=5) hc (λj v hj=>by simpa using S.at (hcell j v hj)) ?_
    refine ih (by omega) hu S.holds ht λv4 sn w6 e6 n6 ht6=>⟨e6,?_⟩
    obtain⟨S,_,hf⟩:=S.tell e6 n6
    obtain⟨p6,cap6,rfl,_⟩:=id ht6
    refine S.litU (e:=43) (cs:=[.int .u8 u.k,.bool u.m,.int .i64 u.re,.int .i64 u.st,.slice p6 u.of.length cap6]) (by kernel_rfl) λb7 w7 S=>?_
    have S:=S.ownNil 43 5
    refine S.ap (m':=1) (Sl.blk (S.blk b7)) (λv8 w8 S=>?_) (by omega)
    obtain⟨b9,cap9,c9,rfl,hc9,hcl9,htk9,S⟩:=S.rowCell v8 (by decide)
    have hm9:=S.mine (.cell b9 c9 43) (by simp) b9 rfl
    have S:=S.frz
    refine gP_ ?_
    refine S.st (b:=b1) λw9 S=>?_
    refine gP_ ?_
    refine hK6 true _ ⟨_,.slice (some ⟨b9,0,none⟩) 1 cap9,S.tl,rfl,sn.or (Go.Sh.one b9 c9 43),inferInstance,λb o hb=>?_,?_⟩ (by decide)
    ·rcases hb with hb|⟨rfl,_⟩
     ·exact hf b o hb
     ·exact hm9.1.resolve_right id
    ·rw[he,ho]
     exact amF ht6 htk9 (by omega)
theorem aez{ss:List StD}{t:TyD}{p:Option Addr}{cap:Nat}{w:World}{r:Gh}{v:Value}{K:Value→World→Prop}(hr:Holds r w)(hs:StG r p ss)(hm1:ss.length≤1000000000)(hmf:∀k,(ze ss k).length≤1000000000)(hv:TyG r v t)
  (h:∀q cp sn w',Ext w w'→New w sn w'→TysG sn q (yr ss t).1→K (.tuple #[.slice q (yr ss t).1.length cp,.int .i64 (yr ss t).2]) w'):zd Tryz.prog Tryz.ZO #[.slice p ss.length cap,v] w K:=by
 refine Tryz.adb ?_
 unfold Tryz.Jk
 have hv0:=hv
 obtain⟨p1,cap1,rfl,_⟩:=hv
 have S:=St.start hr
 refine S.box λb3 w1 S=>?_
 refine gL_ ?_
 refine abH S.holds hs hm1 hmf hv0 λw2 e2=>?_
 have S:=S.go e2
 refine gP_ ?_
 refine zn (c:=decide (t.k≠5)) (λ_ K2 hK2=>?_) ?_
 ·refine gG_ ?_
  exact hK2
 refine c_b (λhn=>?_) (λhn=>?_)
 ·have hn:(mayB ss t&&decide (t.k=5))=false:=by
   cases hm:mayB ss t
   ·rfl
   ·rw[hm]at hn;simpa using hn
  rw[yr,hn]at h
  exact h none 0 nothing _ S.ext New.nothing λi hi=>by simp at hi
 have hn:mayB ss t=true∧t.k=5:=by
  cases hm:mayB ss t
  ·rw[hm]at hn;simp at hn
  ·rw[hm]at hn;exact⟨rfl,by simpa using hn⟩
 obtain⟨hm,h5⟩:=hn
 rw[yr,hm,gde h5]at h
 simp only[Bool.and_true,if_true]at h
 obtain⟨hok,hl⟩:=Zq hm
 obtain⟨h32,hb1,hg,hac,_,_⟩:=yU hok
 obtain⟨hst0,hst1,_⟩:=jB hl h5
 have hlt:t.st.toNat<ss.length:=by omega
 obtain⟨b,off,q,capq,rfl,hcell,_,_,hf⟩:=xI hs hlt
 have htl:ze ss t.st=ss[t.st.toNat].fs.map (·.2):=by
  rw[← yD hlt];simp only[ze,tnc]
 have hlen:(ze ss t.st).length=ss[t.st.toNat].fs.length:=by rw[htl,List.length_map]
 have h88:=xV hb1 t.st
 refine gG_ ?_
 refine zf (S.at hcell) ?_
 have S:=S.tl
 have S:=S.ownNil 43 5
 have S:=S.to (r.or nothing) (l:=⟨λb o ho=>ho.elim id λh=>h.elim⟩)
 refine zj (ι:=Nat×Value×List Value×Gh) (λi=>[i.2.1,.int .i64 i.1]) (λi w'=>i.1≤(ze ss t.st).length∧i.2.2.1.length=i.1*5∧
   (∀j (hj:j<(ze ss t.st).length),j<i.1→((i.2.2.1.drop (j*5)).take 5).length=5∧TyG i.2.2.2 (.agg ((i.2.2.1.drop (j*5)).take 5).toArray) (ze ss t.st)[j])∧
   (∀b o,i.2.2.2 b o→w.heap.size≤b)∧StX noX w (r.or i.2.2.2) w' [.row i.2.1 43 5 i.1 i.2.2.1])
  (λi=>(ze ss t.st).length-i.1) (0,.slice none 0 0,[],nothing) rfl ⟨gzl _,rfl,λj _ hj=>by omega,λb o ho=>ho.elim,S⟩ ?_
 clear S
 rintro⟨i,v,xs,sn⟩ d w3 ⟨hi,hxl,hel,hfr,S⟩ K7 hK7
 simp only at hi hxl hel hfr S⊢
 rw[gdz,gds,gdz]
 refine gP_ ?_
 refine gP_ ?_
 refine c_b (λhlt2=>?_) (λhge=>?_)
 ·have hlt2:i<ss[t.st.toNat].fs.length:=by simpa using hlt2
  have hlt3:i<(ze ss t.st).length:=by omega
  have hel2:(ze ss t.st)[i]=ss[t.st.toNat].fs[i].2:=by simp only[htl,List.getElem_map]
  have hmem:ss[t.st.toNat].fs[i].2∈ze ss t.st:=by rw[← hel2];exact gem hlt3
  obtain⟨b2,off2,c,rfl,hcl,hcc,hty⟩:=qm hf hlt2
  refine gP_ ?_
  refine gP_ ?_
  refine zo (n:=5) (c:=c) hcl (λj v hj=>by
   have:=S.at (hcc (j+1) v (by simpa using hj))
   rw[tnc,Nat.add_assoc _ 1 j,Nat.add_comm 1 j];exact this) ?_
  refine aim (s:=ss.length) 48 (by decide) (hg _ _ hmem) S.holds hty.up λv4 s4 w4 e4 n4 ht4=>?_
  obtain⟨S,_,hf4⟩:=S.tell e4 n4
  obtain⟨p4,cap4,rfl,_⟩:=id ht4
  refine S.lit (e:=43) (cs:=[.int .u8 ss[t.st.toNat].fs[i].2.k,.bool ss[t.st.toNat].fs[i].2.m,.int .i64 ss[t.st.toNat].fs[i].2.re,.int .i64 ss[t.st.toNat].fs[i].2.st,.slice p4 ss[t.st.toNat].fs[i].2.of.length cap4]) (by kernel_rfl) λb33 w7 S=>?_
  refine S.ap (m':=1) (Sl.blk (S.blk b33)) (λv34 w8 S=>?_) (by omega)
  have S:=S.tl
  refine gP_ ?_
  rw[show ((i:Int)+1)=((i+1:Nat):Int)by omega]
  refine hK7 (i+1,v34,xs++[.int .u8 ss[t.st.toNat].fs[i].2.k,.bool ss[t.st.toNat].fs[i].2.m,.int .i64 ss[t.st.toNat].fs[i].2.re,.int .i64 ss[t.st.toNat].fs[i].2.st,.slice p4 ss[t.st.toNat].fs[i].2.of.length cap4],sn.or s4) _ ⟨hlt3,by simp only[gla,List.length_cons,List.length_nil];omega,λj hj hji=>?_,λb o ho=>ho.elim (hfr b o) (hf4 b o),?_⟩ (by simp only;omega)
  rotate_left
  ·exact S.to _ (l:=⟨λb o ho=>by
    rcases ho with ho|ho|ho
    ·exact .inl (.inl ho)
    ·exact .inl (.inr ho)
    ·exact .inr ho⟩)
  ·simp only
   by_cases hji':j=i
   ·subst hji'
    rw[← hxl,List.drop_left',hel2]
    ·exact⟨rfl,ht4.up⟩
    ·rfl
   ·rw[List.drop_append_of_le_length (by omega),List.take_append_of_le_length (by rw[List.length_drop];omega)]
    exact⟨(hel j hj (by omega)).1,(hel j hj (by omega)).2.up⟩
 ·have hge:i=(ze ss t.st).length:=by
   have :¬i<ss[t.st.toNat].fs.length:=by simpa using hge
   omega
  subst hge
  have hpos:(ze ss t.st).length≠0:=by
   have:=hb1 t.st.toNat hlt
   have e:ze ss (t.st.toNat:Int)=ze ss t.st:=by rw[ze,ze,tnc]
   rw[xw,e,Bool.or_eq_false_iff,Bool.or_eq_false_iff]at this
   simp only[decide_eq_false_iff_not]at this
   omega
  obtain⟨b9,cap9,c9,rfl,hc9,hcl9,htk9,S⟩:=S.rowCell v hpos
  have hm9:=S.mine (.cell b9 c9 43) (by simp) b9 rfl
  have S:=S.frz
  refine h _ _ (sn.or (Go.Sh.one b9 c9 43)) _ S.ext ⟨S.holds.le (h:=⟨λb o ho=>by
   rcases ho with ho|ho
   ·exact .inl (.inr ho)
   ·exact .inr ho⟩),λb o ho=>?_⟩ λj hj=>?_
  ·rcases ho with ho|⟨rfl,_⟩
   ·exact hfr b o ho
   ·exact hm9.1.resolve_right id
  ·obtain⟨h1,h2⟩:=hel j hj hj
   refine⟨b9,0,_,rfl,h1,λk v hk w' hw=>?_,h2.up⟩
   have B:=xj (b:=b9) (c:=c9) (T:=43) w' (hw.le (h:=inferInstance))
   show w'.cell? _=some v
   rw[Nat.zero_add,B.cell]
   have hk5:k<5:=by have:=(List.getElem?_eq_some_iff.1 hk).1;omega
   rw[List.getElem?_take,if_pos hk5,List.getElem?_drop,← htk9,List.getElem?_take]at hk
   split at hk
   ·exact hk
   ·cases hk
end
end Go.Proofs
namespace Go.Sh
open Go.ChangeShapes Go.WideShapes Go.ChangeAt Go.RowKit
section
section
variable {H:Type} {enc:TypeId×Value→H} {P:Program}
theorem alo{W W':World}(e:Ext W W'){p:MemPlace}(hp:p.block<W.heap.size):W.sameAt W' p:=Below.same e hp
theorem abI{W W':World}(e:Ext W W')(K:Kids P (· < P.types.size))(hz:∀t e,t<P.types.size→P.underlying t=some (.slice e)→0<P.cellsOf e){sp:Nat→Bool}:
  ∀{ts:List TypeId}{vs:List Value}{ds:List (DataW H)}{ps:List MemPlace},(∀t∈ts,t<P.types.size)→DataW.TrodAll enc P W 0 (λ_=>true) true ts vs ds ps→(∀p∈ps,p.block<W.heap.size)→(∀p∈ps,sp p.block=true)→
   DataW.TrodAll enc P W' 0 sp true ts vs ds ps
 |[],[],[],_,_,h,_,_=>h
 |_::_,_::_,_::_,_,hT,⟨p,q,⟨n,h1⟩,h2,he⟩,hl,hs=>
  ⟨p,q,⟨n,DataW.trod_stays K (fun {t e}=>hz t e) (λh=>by cases h) (hT _ (List.mem_cons.2 (Or.inl rfl))) h1 (λx hx=>alo e (hl x (by rw[he];exact List.mem_append_left _ hx))) (λx hx=>hs x (by rw[he];exact List.mem_append_left _ hx))⟩,
   abI e K hz (λt ht=>hT t (List.mem_cons.2 (Or.inr ht))) h2 (λx hx=>hl x (by rw[he];exact List.mem_append_right _ hx)) (λx hx=>hs x (by rw[he];exact List.mem_append_right _ hx)),he⟩
theorem akh{f:Func}{s:ChangeSpec}{W W':World}{args:Array Value}{ds gs:List (DataW H)}{before:List MemPlace}{tb:TypeId}{fr ho:Bool}
  (hl:laidOutB P=true) (hm:mapsRowed P=true) (hz:((List.range P.types.size).all λt=>match P.underlying t with|some (.slice e)=>decide (0<P.cellsOf e)|_=>true)=true)
  (hts:∀t∈f.params.toList,t<P.types.size) (hv:s.vars=[]) (hrt:f.resultTypes=#[tb]) (htb:P.underlying tb=some .bool)
  (hW:DataW.Whole enc P f.params.toList s.vars false W args.toList ds gs before) (hs:s.fn H (ds++gs) = { results:=[.lit (.bool true)],args:=ds }) (e:Ext W W'):
  s.post enc P f false fr ho false W args (.bool true) W':=by
 have hW':=hW
 obtain⟨p,q,hA,hV,rfl,hfz,hnd⟩:=hW
 rw[hv]at hV
 obtain⟨rfl,rfl⟩:=trodVars_none hV
 have hlt:=hW'.lt
 refine⟨ds,[],p++[],[],p,[],hW',?_,?_,?_,Below.frame e _,λh=>by cases h⟩
 ·rw[hs,hrt]
  exact trodAll_mk1 (shut_bool htb _)
 ·rw[hs]
  exact abI e (kids_rows hl hm) (slices_full_of P hz) hts hA (λx hx=>hlt x (by simpa using hx)) (λx hx=>by simpa using hlt x (by simpa using hx))
 ·rw[hv,hs];rfl
end
end
end Go.Sh
namespace Go.Sh
open Go.RowKit
section
mutual
def Dat.ok(P:Program):Dat→TypeId→Prop
 |.int k n,t=>P.underlying t=some (.int k)∧(Lit.int k n).wf=true
 |.bool _,t=>P.underlying t=some .bool
 |.str s,t=>P.underlying t=some .string∧s.size≤maxLen
 |.agg ds,t=>∃fs,P.underlying t=some (.struct fs)∧Dat.okF P ds (fs.toList.map (·.type))
 |.sl sz es,t=>∃e,P.underlying t=some (.slice e)∧sz=P.cellsOf e∧es.length≤maxLen∧Dat.okS P es e
def Dat.okF(P:Program):List Dat→List TypeId→Prop
 |[],ts=>ts=[]
 |d::ds,ts=>∃t r,ts=t::r∧Dat.ok P d t∧Dat.okF P ds r
def Dat.okS(P:Program):List Dat→TypeId→Prop
 |[],_=>True
 |d::ds,t=>Dat.ok P d t∧Dat.okS P ds t
end
theorem aki{P:Program}{t:TypeId}:∀{es:List Dat},(∀(i:Nat)(d:Dat),es[i]? = some d→d.ok P t)→Dat.okS P es t
 |[],_=>trivial
 |d::es,h=>⟨h 0 d rfl,aki λi d hi=>h (i+1) d (by simpa using hi)⟩
theorem aiW{P:Program}{t:TypeId}:∀{es:List Dat},Dat.okS P es t→∀d∈es,d.ok P t
 |[],_,d,hd=>by cases hd
 |e::es,h,d,hd=>by
  rcases List.mem_cons.1 hd with rfl|hd
  ·exact h.1
  ·exact aiW h.2 d hd
def ahm(P:Program)(total:Nat):Nat→List Field→Bool
 |off,[]=>off == total
 |off,f::fs=>f.offset == off&&ahm P total (off+P.cellsOf f.type) fs
def akj(P:Program)(ts:List TypeId):Bool:=
 ts.all λt=>match P.underlying t with
  |some (.int _)=>true
  |some .bool=>true
  |some .string=>true
  |some (.struct fs)=>ahm P (P.cellsOf t) 0 fs.toList&&fs.toList.all (λf=>ts.contains f.type)
  |some (.slice e)=>decide (0<P.cellsOf e)&&ts.contains e
  |_=>false
theorem abJ{Q:Nat→Dat→Prop}:∀n:Nat,(∀i,i<n→∃d,Q i d)→∃es:List Dat,es.length=n∧∀i d,es[i]? = some d→Q i d
 |0,_=>⟨[],rfl,λi d h=>by cases h⟩
 |n+1,h=>by
  obtain⟨es,h1,h2⟩:=abJ n λi hi=>h i (by omega)
  obtain⟨d,hd⟩:=h n (by omega)
  refine⟨es++[d],by simp[h1],λi x hx=>?_⟩
  rcases Nat.lt_or_ge i es.length with hi|hi
  ·rw[List.getElem?_append_left hi]at hx;exact h2 i x hx
  ·rw[List.getElem?_append_right hi]at hx
   have hl:=(List.getElem?_eq_some_iff.1 hx).1
   have :i=n:=by simp at hl;omega
   subst this
   rw[h1,Nat.sub_self]at hx
   cases hx;exact hd
section
variable {H:Type} {enc:TypeId×Value→H} {P:Program} {W:World}
theorem ado{cs:List Value}{total:Nat}(hcs:cs.length=total):∀(fl:List Field)(off:Nat),ahm P total off fl=true→
  (∀f∈fl,∃d,Rep (all W) d ((cs.drop f.offset).take (P.cellsOf f.type))∧d.ok P f.type)→∃ds,RepA (all W) ds (cs.drop off)∧Dat.okF P ds (fl.map (·.type))
 |[],off,hl,_=>⟨[],by
  have :off=total:=by simpa [ahm]using hl
  rw[RepA,List.drop_eq_nil_iff];omega,rfl⟩
 |f::fl,off,hl,h=>by
  simp only[ahm,gba,beq_iff_eq]at hl
  obtain⟨d,h1,h2⟩:=h f List.mem_cons_self
  obtain⟨ds,h3,h4⟩:=ado hcs fl _ hl.2 λg hg=>h g (List.mem_cons_of_mem _ hg)
  refine⟨d::ds,⟨_,_,?_,h1,h3⟩,_,_,rfl,h2,h4⟩
  rw[hl.1,← List.drop_drop,List.take_append_drop]
theorem QY{ts:List TypeId}(hp:akj P ts=true){sp:Nat→Bool}:∀(fuel:Nat)(t:TypeId)(cs:List Value)(x:DataW H×List MemPlace),t∈ts→
  DataW.trod enc P W 0 sp true fuel t cs=some x→∃d,Rep (all W) d cs∧d.ok P t
 |0,_,_,_,_,h=>by simp[DataW.trod]at h
 |fuel+1,t,cs,x,ht,h=>by
  have hpt:=List.all_eq_true.1 hp t ht
  cases hu:P.underlying t with
  |none=>rw [hu]at hpt;cases hpt
  |some k=>
   rw[hu]at hpt
   cases k with
   |int k=>obtain ⟨n,rfl,_,hw⟩:=DataW.trod_int hu h;exact⟨.int k n,rfl,hu,hw⟩
   |bool=>obtain ⟨b,rfl,_⟩:=DataW.trod_bool hu h;exact⟨.bool b,rfl,hu⟩
   |string=>obtain ⟨s,rfl,_,hs⟩:=DataW.trod_string hu h;exact⟨.str s,rfl,hu,hs⟩
   |struct fs=>
    simp only[gba]at hpt
    obtain⟨xs,n,hn,_,hl,hxl,hx⟩:=DataW.trod_struct hu h
    obtain rfl:fuel=n:=by omega
    obtain⟨ds,h1,h2⟩:=ado (P:=P) (W:=W) hl fs.toList 0 hpt.1 (λf hf=>by
     obtain⟨i,hi,rfl⟩:=List.getElem_of_mem hf
     have hi':i<fs.size:=by simpa using hi
     have h1:=hx i fs[i] (Array.getElem?_eq_getElem hi')
     rw[gqg (by omega)]at h1
     have hmem:fs[i].type∈ts:=by
      have:=List.all_eq_true.1 hpt.2 _ hf
      simpa using this
     exact QY hp fuel _ _ _ hmem h1)
    rw[List.drop_zero]at h1
    exact⟨.agg ds,h1,fs,hu,h2⟩
   |slice e=>
    simp only[gba,gdt]at hpt
    have he:e∈ts:=by simpa using hpt.2
    rcases DataW.trod_slice hu h with⟨rfl,_⟩|⟨a,len,cap,elems,rest,n,hn,rfl,_,_,hlc,hcm,hel,hget,_,_⟩
    ·exact⟨.sl (P.cellsOf e) [],⟨none,0,rfl,λ_=>rfl,Nat.le_refl _,trivial⟩,e,hu,rfl,gzl _,trivial⟩
    obtain rfl:fuel=n:=by omega
    have hspot:0<len→a.spot=none:=λh0=>by
     have h1:=hget 0 h0
     rw[gqg (by omega)]at h1
     obtain⟨c,hc,_⟩:=Option.bind_eq_some_iff.1 h1
     obtain⟨_,hcl,hcc⟩:=World.cells?_some hc
     have hcell:=(hcc 0 hpt.1).trans (gqg (by omega))
     have:=World.cell?_spot hcell
     simpa [Addr.add]using this
    obtain⟨es,h1,h2⟩:=abJ (Q:=λi d=>d.ok P e∧∃c,c.length=P.cellsOf e∧CellsAt (all W) (some a) (i*P.cellsOf e) c∧Rep (all W) d c) len (λi hi=>by
     have h1:=hget i hi
     rw[gqg (by omega)]at h1
     obtain⟨c,hc,ht⟩:=Option.bind_eq_some_iff.1 h1
     obtain⟨_,hcl,hcc⟩:=World.cells?_some hc
     obtain⟨d,hd,hok⟩:=QY hp fuel e c _ he ht
     refine⟨d,hok,c,hcl,λj v hj=>?_,hd⟩
     have hjl:=(List.getElem?_eq_some_iff.1 hj).1
     have hcell:W.cell? ((a.add (i*P.cellsOf e)).add j)=some v:=(hcc j (by omega)).trans hj
     obtain⟨b,off,sp⟩:=a
     have hsp:sp=none:=hspot (by omega)
     subst hsp
     rw[V4,V4]at hcell
     exact⟨b,off,rfl,ag5 hcell⟩)
    refine⟨.sl (P.cellsOf e) es,⟨some a,cap,by rw[h1],by simp,by omega,RepS.of λi d hi=>?_⟩,e,hu,rfl,by omega,aki λi d hi=>(h2 i d hi).1⟩
    rw[Nat.zero_add];exact(h2 i d hi).2
   |_=>cases hpt
end
end
section
def SlG{α:Type}(sz:Nat)(r:Gh)(R:List Value→α→Prop)(v:Value)(l:List α):Prop:=
 ∃p cap,v=.slice p l.length cap∧(p=none→cap=0)∧l.length≤cap∧∀(i:Nat)(h:i<l.length),∃c,c.length=sz∧CellsAt r p (i*sz) c∧R c l[i]
def RowOf{α:Type}(sz:Nat)(R:List Value→α→Prop)(xs:List Value)(l:List α):Prop:=
 xs.length=l.length*sz∧∀(i:Nat)(h:i<l.length),R ((xs.drop (i*sz)).take sz) l[i]
section
variable {α:Type} {sz:Nat} {r s:Gh} {R Q:List Value→α→Prop} {v:Value} {l:List α}
theorem SlG.up'(h:SlG sz r R v l)(le:Le r s)(hR:∀c x,R c x→Q c x):SlG sz s Q v l:=by
 obtain⟨p,cap,h1,h2,h3,h4⟩:=h
 refine⟨p,cap,h1,h2,h3,λi hi=>?_⟩
 obtain⟨c,h5,h6,h7⟩:=h4 i hi
 exact⟨c,h5,h6.up le,hR _ _ h7⟩
theorem SlG.mono(h:SlG sz r R v l)(hR:∀c x,R c x→Q c x):SlG sz r Q v l:=h.up' inferInstance hR
theorem SlG.cells(h:SlG sz r R v l)[le:Le r s]:SlG sz s R v l:=h.up' le λ_ _ h=>h
theorem SlG.nil:SlG sz r R (.slice none 0 0) ([]:List α):=⟨none,0,rfl,λ_=>rfl,Nat.le_refl _,λi hi=>absurd hi (Nat.not_lt_zero _)⟩
theorem SlG.shape(h:SlG sz r R v l):∃p cap,v=.slice p l.length cap∧(p=none→cap=0)∧l.length≤cap:=by
 obtain⟨p,cap,h1,h2,h3,_⟩:=h;exact⟨p,cap,h1,h2,h3⟩
theorem SlG.get(hz:0<sz){p:Option Addr}{n cap:Nat}(h:SlG sz r R (.slice p n cap) l){i:Nat}(hi:i<l.length):
  ∃b off c,p=some ⟨b,off,none⟩∧c.length=sz∧R c l[i]∧∀j v,c[j]? = some v→Ob r λw=>w.cell? ⟨b,off+i*sz+j,none⟩=some v:=by
 obtain⟨p',cap',h1,h2,h3,h4⟩:=h
 cases h1
 obtain⟨c,h5,h6,h7⟩:=h4 i hi
 obtain⟨b,off,hp,_⟩:=h6 0 c[0] (gqg (by omega))
 subst hp
 refine⟨b,off,c,rfl,h5,h7,λj v hj=>?_⟩
 obtain⟨b',off',hp,ho⟩:=h6 j v hj
 cases hp;exact ho
theorem RowOf.nil:RowOf sz R [] ([]:List α):=⟨by simp,λi hi=>absurd hi (Nat.not_lt_zero _)⟩
theorem RowOf.mono{xs:List Value}(h:RowOf sz R xs l)(hR:∀c x,R c x→Q c x):RowOf sz Q xs l:=⟨h.1,λi hi=>hR _ _ (h.2 i hi)⟩
theorem RowOf.snoc{xs c:List Value}{x:α}(h:RowOf sz R xs l)(hc:c.length=sz)(hx:R c x):RowOf sz R (xs++c) (l++[x]):=by
 obtain⟨h1,h2⟩:=h
 refine⟨by rw[gla,gla,h1,hc,gls,Nat.add_mul,Nat.one_mul],λi hi=>?_⟩
 rw[gla,gls]at hi
 rcases Nat.lt_or_ge i l.length with h|h
 ·have hm:i*sz+sz≤xs.length:=by rw[h1,← Nat.succ_mul];exact Nat.mul_le_mul_right _ h
  rw[List.getElem_append_left h,List.drop_append_of_le_length (by omega),List.take_append_of_le_length (by rw[List.length_drop];omega)]
  exact h2 i h
 ·obtain rfl:i=l.length:=by omega
  rw[List.getElem_append_right (Nat.le_refl _),← h1,List.drop_left',List.take_of_length_le (by omega)]
  ·simpa using hx
  ·rfl
theorem RowOf.sl{xs:List Value}(h:RowOf sz R xs l){p:Option Addr}{cap:Nat}(hp:p=none→cap=0)(hc:l.length≤cap)(ho:Ob r λw=>Sl w p xs)(hz:0<sz)(hk:∃w,Holds r w):SlG sz r R (.slice p l.length cap) l:=by
 refine⟨p,cap,rfl,hp,hc,λi hi=>⟨(xs.drop (i*sz)).take sz,?_,?_,h.2 i hi⟩⟩
 ·have :i*sz+sz≤xs.length:=by rw[h.1,← Nat.succ_mul];exact Nat.mul_le_mul_right _ hi
  rw[List.length_take,List.length_drop];omega
 ·intro j v hj
  rw[List.getElem?_take]at hj
  split at hj
  ·rw[List.getElem?_drop]at hj
   obtain⟨w,hw⟩:=hk
   obtain⟨b,off,rfl,_⟩:=ho w hw _ _ hj
   refine⟨b,off,rfl,λw' hw'=>?_⟩
   obtain⟨b',off',hp',hc'⟩:=ho w' hw' _ _ hj
   cases hp'
   rw[← Nat.add_assoc]at hc';exact hc'
  ·cases hj
end
section
variable {P:Program} {X:Nat→Prop} {w0 w:World} {r:Gh} {L:List Asr} {α:Type} {sz n:Nat} {R:List Value→α→Prop} {v:Value} {l:List α} {e:TypeId} {xs:List Value}
theorem StX.doneRow(S:StX X w0 r w (.row v e sz n xs::L))(h:RowOf sz R xs l)(hz:0<sz)(hn:n=l.length):
  ∃s,StX X w0 (r.or s) w L∧SlG sz s R v l∧(∀b o,s b o→∃c,o=.cells c e (0,0))∧(∀b o,s b o→w0.heap.size≤b∨X b):=by
 subst hn
 have hm:=S.mine _ (List.mem_cons_self ..)
 have hr:w.ownsRow 0 e sz v l.length xs:=S.has _ (List.mem_cons_self ..)
 rcases kK hr with⟨rfl,h1,h2⟩|⟨g,cap,c,rfl,hg,B,h1,_,h3,h4⟩
 ·have hl:l=[]:=List.eq_nil_of_length_eq_zero h1
  subst hl
  exact⟨nothing,S.tl.new (Ext.refl _) New.nothing,SlG.nil,λb o h=>h.elim,λb o h=>h.elim⟩
 ·have S':=S.turn (p:=[]) (x:=.row _ e sz l.length xs) (y:=.cell g c e) (ExtBut.refl _ _) B λk hk=>.inl (by cases hk;rfl)
  refine⟨one g c e,S'.frz,?_,λb o h=>⟨_,h.2⟩,λb o h=>(hm b (by rw[h.1];rfl)).1⟩
  refine h.sl (by simp) h1 (λw k=>?_) hz ⟨w,km B⟩
  rw[← h4];exact(Sl.blk (xj w k)).take _
theorem StX.litSl{b:Nat}(S:StX X w0 r w (.cell b xs e::L))(h:RowOf sz R xs l)(hz:0<sz):StX X w0 (r.or (Go.Sh.one b xs e)) w L∧SlG sz (Go.Sh.one b xs e) R (.slice (some ⟨b,0,none⟩) l.length l.length) l:=
 ⟨S.frz,h.sl (by simp) (Nat.le_refl _) (λw k=>Sl.blk (xj w k)) hz ⟨w,km (S.has _ (List.mem_cons_self ..))⟩⟩
theorem StX.d2{x y:Asr}(S:StX X w0 r w (x::y::L)):StX X w0 r w (x::L):=S.less (λ_ _ h=>h) (.cons_cons _ (List.sublist_cons_self _ _))
theorem StX.reGh{s t:Gh}(S:StX X w0 ((r.or s).or t) w L):StX X w0 (r.or (s.or t)) w L:=
 S.less (λb o h=>h.elim (λh=>.inl (.inl h)) λh=>h.elim (λh=>.inl (.inr h)) .inr) (List.Sublist.refl _)
theorem Above.or'{s t:Gh}(h:Above w0 s)(k:Above w0 t):Above w0 (s.or t):=λb o x=>x.elim (h b o) (k b o)
theorem Above.no:Above w0 nothing:=λb o h=>h.elim
theorem StX.newOf{q:Gh}(S:StX X w0 r w L)(h:Above w0 q)[Le q r]:New w0 q w:=⟨S.holds.le (h:=inferInstance),h⟩
end
def ajt(body:List Value→List Value→World→(List Value→World→Prop)→Prop):Nat→List Value→World→Prop
 |0,_,_=>False
 |n+1,s,w=>∀d K,(∀s' w',ajt body n s' w'→K s' w')→body s d w K
theorem J1(n:Nat){init:List Value}{w:World}{body:List Value→List Value→World→(List Value→World→Prop)→Prop}(h:ajt body n init w):zp init w body:=by
 refine zj (ι:=List Value×World×Nat) (λi=>i.1) (λi w'=>i.2.1=w'∧ajt body i.2.2 i.1 w') (λi=>i.2.2) (init,w,n) rfl ⟨rfl,h⟩ ?_
 rintro⟨s,w0,n⟩ d w' ⟨rfl,h⟩ K hK
 cases n with
 |zero=>exact h.elim
 |succ n=>exact h d K λs' w' h'=>hK (s',w',n) w' ⟨rfl,h'⟩ (Nat.lt_succ_self n)
section
variable {P:Program}
theorem yR{d:Dat}{t:TypeId}{k:IntKind}(u:P.underlying t=some (.int k))(h:d.ok P t):∃n,d=.int k n∧(Lit.int k n).wf=true:=by
 cases d<;>simp only[Dat.ok,u]at h<;>try simp at h
 obtain⟨rfl,h⟩:=h
 exact⟨_,rfl,h⟩
theorem ahn{d:Dat}{t:TypeId}(u:P.underlying t=some .bool)(h:d.ok P t):∃b,d=.bool b:=by
 cases d<;>simp only[Dat.ok,u]at h<;>try simp at h
 exact⟨_,rfl⟩
theorem amG{d:Dat}{t:TypeId}(u:P.underlying t=some .string)(h:d.ok P t):∃s,d=.str s∧s.size≤maxLen:=by
 cases d<;>simp only[Dat.ok,u]at h<;>try simp at h
 exact⟨_,rfl,h⟩
theorem ant{d:Dat}{t e:TypeId}(u:P.underlying t=some (.slice e))(h:d.ok P t):∃es,d=.sl (P.cellsOf e) es∧es.length≤maxLen∧∀x∈es,x.ok P e:=by
 cases d<;>simp only[Dat.ok,u]at h<;>try simp at h
 obtain⟨rfl,h1,h2⟩:=h
 exact⟨_,rfl,h1,aiW h2⟩
theorem jD{d:Dat}{t:TypeId}{ts:List TypeId}(u:∃fs,P.underlying t=some (.struct fs)∧fs.toList.map (·.type)=ts)(h:d.ok P t):∃ds,d=.agg ds∧Dat.okF P ds ts:=by
 obtain⟨fs,u,rfl⟩:=u
 cases d<;>simp only[Dat.ok,u]at h<;>try simp at h
 exact⟨_,rfl,by simpa using h⟩
theorem zy{ds:List Dat}{t:TypeId}{ts:List TypeId}(h:Dat.okF P ds (t::ts)):∃d r,ds=d::r∧d.ok P t∧Dat.okF P r ts:=by
 cases ds with
 |nil=>cases h
 |cons d r=>obtain ⟨t',r',h1,h2,h3⟩:=h;cases h1;exact⟨d,r,rfl,h2,h3⟩
theorem jE{ds:List Dat}(h:Dat.okF P ds []):ds=[]:=by
 cases ds with
 |nil=>rfl
 |cons d r=>obtain ⟨t',r',h1,_⟩:=h;cases h1
noncomputable def aiX(P:Program)(t:TypeId)(ts:List TypeId):Bool:=match P.underlying t with|some (.struct fs)=>decide (fs.toList.map (·.type)=ts)|_=>false
theorem kB{t:TypeId}{ts:List TypeId}(h:aiX P t ts=true):∃fs,P.underlying t=some (.struct fs)∧fs.toList.map (·.type)=ts:=by
 unfold aiX at h
 split at h
 ·rename_i fs hu;exact⟨fs,hu,of_decide_eq_true h⟩
 ·cases h
end
theorem akk{n:Int}(h:(Lit.int .i64 n).wf=true): -9223372036854775808≤n∧n≤9223372036854775807:=by
 simp only[Lit.wf,gba,gdt]at h
 exact⟨h.1,h.2⟩
theorem aho{α:Type}{f:α→Dat}{G:α→Prop}:∀es:List Dat,(∀d∈es,∃t,d=f t∧G t)→∃l:List α,es=l.map f∧∀t∈l,G t
 |[],_=>⟨[],rfl,λt h=>by cases h⟩
 |d::es,h=>by
  obtain⟨t,rfl,ht⟩:=h d List.mem_cons_self
  obtain⟨l,rfl,hq⟩:=aho es λx hx=>h x (List.mem_cons_of_mem _ hx)
  refine⟨t::l,rfl,λx hx=>?_⟩
  rcases List.mem_cons.1 hx with rfl|hx
  ·exact ht
  ·exact hq x hx
end
end Go.Sh
namespace Go.Proofs
open Go.Sh
section
variable {r s:Gh} {c:List Value} {ss:List StD} {α:Type} {sz:Nat} {v:Value} {t:TyD}
structure PlD where
 l:Int
 ps:List Int
structure OpD where
 k:Int
 n:Int
 pl:PlD
structure PtD where
 op:Int
 to:PlD
 a:OpD
 b:OpD
 args:List OpD
 sign:ByteArray
 fr:PlD
 mu:Bool
 fn:Int
 st:Int
 nx:Int
 el:Int
 tx:Int
structure GrD where
 name:ByteArray
 lv:Int
 outs:List (Int×Int)
 pn:Int
 tys:List TyD
 nms:List ByteArray
 pts:List PtD
structure UnD where
 ss:List StD
 fs:List GrD
 mn:Int
def yz(c:List Value)(x:Int):Prop:=c=[.int .i64 x]
def XO(x:Int):Prop:=-9223372036854775808≤x∧x<9223372036854775808
def xp(c:List Value)(x:Int):Prop:=c=[.int .i64 x]∧XO x
structure SlB{α:Type}(sz:Nat)(r:Gh)(R:List Value→α→Prop)(v:Value)(l:List α):Prop where
 sl:SlG sz r R v l
 few:l.length≤maxLen
theorem SlB.cells{R:List Value→α→Prop}{l:List α}(h:SlB sz r R v l)[le:Le r s]:SlB sz s R v l:=⟨h.sl.cells,h.few⟩
theorem SlB.up'{R Q:List Value→α→Prop}{l:List α}(h:SlB sz r R v l)(le:Le r s)(hR:∀c x,R c x→Q c x):SlB sz s Q v l:=⟨h.sl.up' le hR,h.few⟩
theorem qu{D:α→Dat}{R:List Value→α→Prop}{cs:List Value}{l:List α}(hR:∀c x,x∈l→Rep r (D x) c→R c x)(h:Rep r (.sl sz (l.map D)) cs)(hl:l.length≤maxLen):∃v,cs=[v]∧SlB sz r R v l:=by
 obtain⟨p,cap,rfl,h1,h2,h3⟩:=h
 rw[List.length_map]at h2⊢
 refine⟨_,rfl,⟨p,cap,rfl,h1,h2,λi hi=>?_⟩,hl⟩
 obtain⟨c,h4,h5,h6⟩:=h3.get (i:=i) (d:=D l[i]) (by rw[List.getElem?_map,gqg hi];rfl)
 rw[Nat.zero_add]at h5
 exact⟨c,h4,h5,hR _ _ (gem hi) h6⟩
def PlD.ok(p:PlD):Prop:=p.ps.length≤maxLen∧∀k∈p.ps,XO k
def OpD.ok(o:OpD):Prop:=o.pl.ok
def PtD.ok(p:PtD):Prop:=p.to.ok∧p.a.ok∧p.b.ok∧(p.args.length≤maxLen∧∀o∈p.args,o.ok)∧p.fr.ok
def GrD.ok(g:GrD):Prop:=g.outs.length≤maxLen∧g.tys.length≤maxLen∧g.nms.length≤maxLen∧g.pts.length≤maxLen∧∀p∈g.pts,p.ok
def UnD.ok(u:UnD):Prop:=u.ss.length≤maxLen∧u.fs.length≤maxLen∧∀g∈u.fs,g.ok
def alp(c:List Value)(x:ByteArray):Prop:=c=[.string x]
def alq(c:List Value)(x:Int×Int):Prop:=c=[.int .i64 x.1,.int .i64 x.2]
def TyC(r:Gh)(c:List Value)(t:TyD):Prop:=TyG r (.agg c.toArray) t
def PlG(r:Gh)(c:List Value)(p:PlD):Prop:=∃v,c=[.int .i64 p.l,v]∧SlB 1 r xp v p.ps
def OpG(r:Gh)(c:List Value)(o:OpD):Prop:=∃v,c=[.int .u8 o.k,.int .i64 o.n,.int .i64 o.pl.l,v]∧SlB 1 r xp v o.pl.ps
def PtG(r:Gh)(c:List Value)(p:PtD):Prop:=∃vt va vb vl vf,
 c=[.int .u8 p.op,.int .i64 p.to.l,vt,.int .u8 p.a.k,.int .i64 p.a.n,.int .i64 p.a.pl.l,va,.int .u8 p.b.k,.int .i64 p.b.n,.int .i64 p.b.pl.l,vb,vl,.string p.sign,.int .i64 p.fr.l,vf,.bool p.mu,.int .i64 p.fn,.int .i64 p.st,.int .i64 p.nx,.int .i64 p.el,.int .i64 p.tx]∧
 SlB 1 r xp vt p.to.ps∧SlB 1 r xp va p.a.pl.ps∧SlB 1 r xp vb p.b.pl.ps∧SlB 4 r (OpG r) vl p.args∧SlB 1 r xp vf p.fr.ps
def GrG(r:Gh)(c:List Value)(g:GrD):Prop:=∃vo vt vn vp,c=[.string g.name,.int .i64 g.lv,vo,.int .i64 g.pn,vt,vn,vp]∧
 SlB 2 r alq vo g.outs∧SlB 5 r (TyC r) vt g.tys∧SlB 1 r alp vn g.nms∧SlB 21 r (PtG r) vp g.pts
def UnG(r:Gh)(v:Value)(u:UnD):Prop:=∃p cap vf,v=.agg #[.slice p u.ss.length cap,vf,.int .i64 u.mn]∧(p=none→cap=0)∧u.ss.length≤cap∧StG r p u.ss∧u.ss.length≤maxLen∧SlB 7 r (GrG r) vf u.fs
theorem PlG.up{p:PlD}(h:PlG r c p)[l:Le r s]:PlG s c p:=by
 obtain⟨v,h1,h2⟩:=h;exact⟨v,h1,h2.cells⟩
theorem OpG.up{p:OpD}(h:OpG r c p)[l:Le r s]:OpG s c p:=by
 obtain⟨v,h1,h2⟩:=h;exact⟨v,h1,h2.cells⟩
theorem PtG.up{p:PtD}(h:PtG r c p)[l:Le r s]:PtG s c p:=by
 obtain⟨vt,va,vb,vl,vf,h0,h1,h2,h3,h4,h5⟩:=h
 exact⟨vt,va,vb,vl,vf,h0,h1.cells,h2.cells,h3.cells,h4.up' l λ_ _ h=>h.up,h5.cells⟩
theorem GrG.up{g:GrD}(h:GrG r c g)[l:Le r s]:GrG s c g:=by
 obtain⟨vo,vt,vn,vp,h0,h1,h2,h3,h4⟩:=h
 exact⟨vo,vt,vn,vp,h0,h1.cells,h2.up' l λ_ _ h=>TyG.up h,h3.cells,h4.up' l λ_ _ h=>h.up⟩
theorem UnG.up{u:UnD}(h:UnG r v u)[l:Le r s]:UnG s v u:=by
 obtain⟨p,cap,vf,h0,h1,h2,h3,h5,h4⟩:=h
 exact⟨p,cap,vf,h0,h1,h2,h3.up,h5,h4.up' l λ_ _ h=>h.up⟩
def PlD.dat(p:PlD):Dat:=.agg [.int .i64 p.l,.sl 1 (p.ps.map (Dat.int .i64))]
def OpD.dat(o:OpD):Dat:=.agg [.int .u8 o.k,.int .i64 o.n,o.pl.dat]
def PtD.dat(p:PtD):Dat:=.agg [.int .u8 p.op,p.to.dat,p.a.dat,p.b.dat,.sl 4 (p.args.map OpD.dat),.str p.sign,p.fr.dat,.bool p.mu,.int .i64 p.fn,.int .i64 p.st,.int .i64 p.nx,.int .i64 p.el,.int .i64 p.tx]
def aju(x:Int×Int):Dat:=.agg [.int .i64 x.1,.int .i64 x.2]
def GrD.dat(g:GrD):Dat:=.agg [.str g.name,.int .i64 g.lv,.sl 2 (g.outs.map aju),.int .i64 g.pn,.sl 5 (g.tys.map TyD.dat),.sl 1 (g.nms.map Dat.str),.sl 21 (g.pts.map PtD.dat)]
def UnD.dat(u:UnD):Dat:=.agg [.sl 2 (u.ss.map StD.dat),.sl 7 (u.fs.map GrD.dat),.int .i64 u.mn]
theorem aaj{p:PlD}(h:Rep r p.dat c)(k:p.ok):PlG r c p:=by
 obtain⟨a1,b1,rfl,e1,a2,b2,rfl,e2,e3⟩:=h
 obtain rfl:a1=_:=e1
 obtain rfl:b2=[]:=e3
 obtain⟨v,rfl,hv⟩:=qu (D:=Dat.int .i64) (R:=xp) (λc x hx h=>⟨h,k.2 x hx⟩) e2 k.1
 exact⟨v,rfl,hv⟩
theorem aak{o:OpD}(h:Rep r o.dat c)(k:o.ok):OpG r c o:=by
 obtain⟨a1,b1,rfl,e1,a2,b2,rfl,e2,a3,b3,rfl,e3,e4⟩:=h
 obtain rfl:a1=_:=e1
 obtain rfl:a2=_:=e2
 obtain rfl:b3=[]:=e4
 obtain⟨v,rfl,hv⟩:=aaj e3 k
 exact⟨v,rfl,hv⟩
theorem akl{p:PtD}(h:Rep r p.dat c)(k:p.ok):PtG r c p:=by
 obtain⟨a1,b1,rfl,e1,a2,b2,rfl,e2,a3,b3,rfl,e3,a4,b4,rfl,e4,a5,b5,rfl,e5,a6,b6,rfl,e6,a7,b7,rfl,e7,a8,b8,rfl,e8,a9,b9,rfl,e9,a10,b10,rfl,e10,a11,b11,rfl,e11,a12,b12,rfl,e12,a13,b13,rfl,e13,e14⟩:=h
 obtain rfl:a1=_:=e1
 obtain rfl:a6=_:=e6
 obtain rfl:a8=_:=e8
 obtain rfl:a9=_:=e9
 obtain rfl:a10=_:=e10
 obtain rfl:a11=_:=e11
 obtain rfl:a12=_:=e12
 obtain rfl:a13=_:=e13
 obtain rfl:b13=[]:=e14
 obtain⟨v2,rfl,h2⟩:=aaj e2 k.1
 obtain⟨v3,rfl,h3⟩:=aak e3 k.2.1
 obtain⟨v4,rfl,h4⟩:=aak e4 k.2.2.1
 obtain⟨v5,rfl,h5⟩:=qu (R:=OpG r) (λc x hx h=>aak h (k.2.2.2.1.2 x hx)) e5 k.2.2.2.1.1
 obtain⟨v7,rfl,h7⟩:=aaj e7 k.2.2.2.2
 exact⟨v2,v3,v4,v5,v7,rfl,h2,h3,h4,h5,h7⟩
theorem ajv{x:Int×Int}(h:Rep r (aju x) c):alq c x:=by
 obtain⟨a1,b1,rfl,e1,a2,b2,rfl,e2,e3⟩:=h
 obtain rfl:a1=_:=e1
 obtain rfl:a2=_:=e2
 obtain rfl:b2=[]:=e3
 rfl
theorem akm{g:GrD}(h:Rep r g.dat c)(k:g.ok):GrG r c g:=by
 obtain⟨a1,b1,rfl,e1,a2,b2,rfl,e2,a3,b3,rfl,e3,a4,b4,rfl,e4,a5,b5,rfl,e5,a6,b6,rfl,e6,a7,b7,rfl,e7,e8⟩:=h
 obtain rfl:a1=_:=e1
 obtain rfl:a2=_:=e2
 obtain rfl:a4=_:=e4
 obtain rfl:b7=[]:=e8
 obtain⟨v3,rfl,h3⟩:=qu (R:=alq) (λc x _ h=>ajv h) e3 k.1
 obtain⟨v5,rfl,h5⟩:=qu (R:=TyC r) (λc x _ h=>TyG.of_rep h) e5 k.2.1
 obtain⟨v6,rfl,h6⟩:=qu (D:=Dat.str) (R:=alp) (λc x _ h=>h) e6 k.2.2.1
 obtain⟨v7,rfl,h7⟩:=qu (R:=PtG r) (λc x hx h=>akl h (k.2.2.2.2 x hx)) e7 k.2.2.2.1
 exact⟨v3,v5,v6,v7,rfl,h3,h5,h6,h7⟩
theorem akn{u:UnD}(h:Rep r u.dat c)(k:u.ok):UnG r (.agg c.toArray) u:=by
 obtain⟨a1,b1,rfl,e1,a2,b2,rfl,e2,a3,b3,rfl,e3,e4⟩:=h
 obtain rfl:a3=_:=e3
 obtain rfl:b3=[]:=e4
 obtain⟨q,cap,rfl,h1,h2,h3⟩:=e1
 obtain⟨vf,rfl,hf⟩:=qu (R:=GrG r) (λc x hx h=>akm h (k.2.2 x hx)) e2 k.2.1
 rw[List.length_map]at h2⊢
 exact⟨q,cap,vf,rfl,h1,h2,h3,k.1,hf⟩
def stepG(ss:List StD)(s:TyD×Int)(k:Int):Option (TyD×Int):=
 if k = -1∧s.1.k=3 then s.1.of.head?.map λu=>(u,max s.2 1)
 else if k = -1∧s.1.k=4 then s.1.of.head?.map λu=>(u,max s.2 (if s.1.m then 2 else 3))
 else if 0≤k∧s.1.k=5 then(ze ss s.1.st)[k.toNat]?.map λu=>(u,s.2)
 else none
def goG(ss:List StD):List Int→TyD×Int→Option (TyD×Int)
 |[],s=>some s
 |k::l,s=>(stepG ss s k).bind (goG ss l)
def zm(ss:List StD)(tys:List TyD)(p:PlD):TyD×Int×Bool:=
 match (if p.l<0 then none else tys[p.l.toNat]?).bind λt=>goG ss p.ps (t,0)with
 |some s=>(s.1,s.2,decide (p.ps.length≤8))
 |none=>(zI,0,false)
def ym:TyD:=⟨1,false,0,0,[]⟩
def abb:TyD:=⟨2,false,0,0,[]⟩
def xR(p:PlD):Bool:=decide (p.l=0)&&decide (p.ps.length=0)
def vh(o:OpD):Bool:=(decide (o.k=0)&&decide (o.n=0))&&xR o.pl
def zs(ss:List StD)(tys:List TyD)(o:OpD):TyD×Bool:=
 if o.k=1 then(ym,xR o.pl)
 else if o.k=2 then(abb,xR o.pl&&(decide (o.n=0)||decide (o.n=1)))
 else if o.k=3 then((zm ss tys o.pl).1,((zm ss tys o.pl).2.2&&decide (o.n=0))&&ki (zm ss tys o.pl).1)
 else if o.k=4 then((zm ss tys o.pl).1,(((zm ss tys o.pl).2.2&&decide (o.n=0)) && !ki (zm ss tys o.pl).1)&&decide ((zm ss tys o.pl).2.1<2))
 else(zI,false)
structure ack where
 to:Bool:=false
 a:Bool:=false
 b:Bool:=false
 args:Bool:=false
 sign:Bool:=false
 fr:Bool:=false
 mu:Bool:=false
 fn:Bool:=false
 st:Bool:=false
 el:Bool:=false
def jd(p:PtD)(h:ack):List Bool:=
 [h.to||xR p.to,h.a||vh p.a,h.b||vh p.b,h.args||decide (p.args.length=0),h.sign||(p.sign.toList == []),h.fr||xR p.fr,h.mu || !p.mu,h.fn||decide (p.fn=0),h.st||decide (p.st=0),h.el||decide (p.el=0)]
def zE(p:PtD)(h:ack):Bool:=(jd p h).all id
def xe(ss:List StD)(tys:List TyD):List OpD→List TyD→Bool
 |[],[]=>true
 |o::l,t::r=>((zs ss tys o).2&&zN ya (zs ss tys o).1 t)&&xe ss tys l r
 |_,_=>false
def ZW(g:GrD)(q:Int):Bool:=decide (0≤q)&&decide (q<g.pts.length)
def isK(t:TyD)(k:Int):Bool:=decide (t.k=k)
def yl(s:ByteArray)(l:List (List UInt8)):Bool:=l.any λx=>s.toList == x
noncomputable def ptG(u:UnD)(g:GrD)(p:PtD):Bool:=
 let to:=zm u.ss g.tys p.to
 let fr:=zm u.ss g.tys p.fr
 let laid:=to.2.2&&decide (to.2.1<3)
 let a:=zs u.ss g.tys p.a
 let b:=zs u.ss g.tys p.b
 let ints:=isK a.1 1&&isK b.1 1
 if p.op=1 then((zE p { to:=true,a:=true } && laid)&&a.2)&&zN ya a.1 to.1
 else if p.op=2 then
  (zE p { to:=true,a:=true,b:=true,sign:=true } && (laid&&(a.2&&b.2))) &&
   (if yl p.sign [[43],[45],[42],[47],[37]]then isK to.1 1&&ints
    else if yl p.sign [[60],[60,61],[62],[62,61]]then isK to.1 2&&ints
    else if yl p.sign [[61,61],[33,61]]then isK to.1 2&&(ints||(isK a.1 2&&isK b.1 2))else false)
 else if p.op=3 then
  ((zE p { to:=true,a:=true,sign:=true } && laid)&&a.2) &&
   (if yl p.sign [[45]]then isK to.1 1&&isK a.1 1 else if yl p.sign [[33]]then isK to.1 2&&isK a.1 2 else false)
 else if p.op=4 then
  ((((zE p { to:=true,fr:=true,mu:=true } && laid)&&fr.2.2)&&isK to.1 4)&&decide (to.1.m=p.mu))&&(zN ya (to.1.of.headD zI) fr.1 && !(p.mu&&decide (fr.2.1=3)))
 else if p.op=5 then(((zE p { to:=true,a:=true } && laid)&&a.2)&&isK to.1 3)&&zN ya (to.1.of.headD zI) a.1
 else if p.op=6 then
  (((zE p { to:=true,args:=true,st:=true } && laid)&&isK to.1 5)&&decide (to.1.st=p.st))&&xe u.ss g.tys p.args (yr u.ss to.1).1
 else if p.op=7 then
  ((zE p { to:=true,args:=true,fn:=true } && laid)&&(decide (0≤p.fn)&&decide (p.fn<u.fs.length))) &&
   (match u.fs[p.fn.toNat]? with
    |some f=>zN ya to.1 (f.tys.headD zI)&&xe u.ss g.tys p.args ((f.tys.drop 1).take f.pn.toNat)
    |none=>false)
 else if p.op=8 then(zE p { to:=true } && laid)&&isK to.1 1
 else if p.op=9 then(zE p { a:=true } && a.2)&&isK a.1 1
 else if p.op=10 then((zE p { fr:=true } && fr.2.2)&&(yw u.ss fr.1).1)&&decide (fr.2.1<2)
 else if p.op=11 then((zE p { fr:=true } && fr.2.2)&&decide (0<p.fr.l))&&decide (p.fr.ps.length=0)
 else if p.op=12 then((zE p { a:=true,el:=true } && a.2)&&isK a.1 2)&&ZW g p.el
 else if p.op=13∨p.op=14 then zE p {}
 else false
noncomputable def zG(u:UnD)(g:GrD)(p:PtD):Bool:=
 !((decide (p.tx<0)||(!decide (p.op=14) && !ZW g p.nx))||(decide (p.op=14) && !decide (p.nx=0)))&&ptG u g p
def qw(x y:Int):List Int→Bool
 |[]=>false
 |a::l=>(decide (a=y)&&l.contains x)||qw x y l
def vk(tys:List TyD)(x y:Int):Bool:=tys.any λt=>qw x y (regsT t)
def jF(outs:List (Int×Int))(x y:Int):Bool:=outs.contains (x,y)
def kJ(lv:Int)(o:Int×Int):Bool:=!((decide (min o.1 o.2<0)||decide (lv≤max o.1 o.2))||decide (o.1=o.2))
def Zr(o w:Int×Int):Bool:=decide (o.1<w.1)||(decide (o.1=w.1)&&decide (o.2<w.2))
def adp:List (Int×Int)→Bool
 |a::b::l=>Zr a b&&adp (b::l)
 |_=>true
def ajw(n:Nat)(must says:Int→Int→Bool):Bool:=
 (List.range n).all λa:Nat=>(List.range n).all λb:Nat=>
  ((List.range n).all λc:Nat=>!((says a b&&says b c)&&(!decide (a=c) && !says a c))) && !(!decide (a=b)&&(must a b && !says a b))
def jG(g:GrD):Bool:=
 (g.outs.all (kJ g.lv)&&adp g.outs)&&ajw g.lv.toNat (vk (g.tys.take (g.pn.toNat+1))) (jF g.outs)
noncomputable def tyG(u:UnD)(g:GrD)(i:Nat)(t:TyD):Bool:=
 mayB u.ss t&&(regsT t).all λr=>!(decide (r<(if(i:Int)≤g.pn then 0 else -1))||decide (g.lv≤r))
noncomputable def jS(u:UnD)(g:GrD):Nat→List TyD→Bool
 |_,[]=>true
 |i,t::l=>tyG u g i t&&jS u g (i+1) l
def yE(l:List PtD):Nat:=l.countP λp=>decide (p.op=4)
noncomputable def xf(u:UnD)(fn:Nat)(g:GrD):Bool:=
 ((((((decide (0≤g.lv)&&decide (g.lv≤8))&&(decide (0≤g.pn)&&decide (g.pn≤8)))&&(decide (g.pn<g.tys.length)&&decide (g.tys.length≤512)))&&decide (g.nms.length=g.tys.length)) &&
  jS u g 0 g.tys)&&((decide (1≤g.pts.length)&&decide (g.pts.length≤1024))&&jG g)) &&
  (decide (yE g.pts≤256)&&(!decide ((fn:Int)=u.mn)||((decide (g.lv=0)&&decide (g.pn=0))&&isK (g.tys.headD zI) 1)))
noncomputable def jX(u:UnD):Nat→List GrD→Option Nat
 |_,[]=>none
 |i,g::l=>if xf u i g then jX u (i+1) l else some i
noncomputable def Xa(u:UnD)(g:GrD):Nat→List PtD→Option Nat
 |_,[]=>none
 |q,p::l=>if zG u g p then Xa u g (q+1) l else some q
noncomputable def XP(u:UnD):Nat→List GrD→Option (Nat×Nat)
 |_,[]=>none
 |i,g::l=>match Xa u g 0 g.pts with|some q=>some (i,q)|none=>XP u (i+1) l
noncomputable def jY(u:UnD):Int×Int×Int:=
 if !decide ((zx u.ss).2=0)||(decide (u.fs.length<1)||decide (32<u.fs.length))||(decide (u.mn<0)||decide ((u.fs.length:Int)≤u.mn))then(-1,-1,100)
 else match jX u 0 u.fs with
  |some i=>(i,-1,100)
  |none=>match XP u 0 u.fs with
   |some (i,q)=>(i,q,100)
   |none=>(0,0,0)
noncomputable def XQ(u:UnD):Bool:=decide ((jY u).2.2=0)
theorem aal:∀{n:Nat}{s s':Int}{m:Nat}{t:TyD},zt s n t=true→n≤m→s≤s'→zt s' m t=true:=by
 intro n
 induction n with
 |zero=>intro s s' m t h;cases h
 |succ n ih=>
  intro s s' m t h hm hs
  obtain⟨m,rfl⟩:∃k,m=k+1:=⟨m-1,by omega⟩
  have inn:inB s n t=true→inB s' m t=true:=by
   intro hi
   cases t with
   |mk k mm re st of=>
    cases of with
    |nil=>cases hi
    |cons u l=>exact ih (t:=u) hi (by omega) hs
  rw[yv]at h⊢
  split
  ·rename_i h1;rw[if_pos h1]at h;exact h
  ·rename_i h1;rw[if_neg h1]at h
   split
   ·rename_i h2;rw[if_pos h2]at h
    simp only[gba,gdt]at h⊢
    exact⟨h.1,by omega⟩
   ·rename_i h2;rw[if_neg h2]at h
    split
    ·rename_i h3;rw[if_pos h3]at h
     simp only[gba,gdt]at h⊢
     exact⟨h.1,h.2.1,inn h.2.2⟩
    ·rename_i h3;rw[if_neg h3]at h
     split
     ·rename_i h4;rw[if_pos h4]at h
      simp only[gba,gdt]at h⊢
      exact⟨h.1,h.2.1,inn h.2.2⟩
     ·rename_i h4;rw[if_neg h4]at h;cases h
def Fine(ss:List StD)(t:TyD):Prop:=zt ss.length 48 t=true
theorem Fine.is(h:Fine ss t)(hs:ss.length≤32):isB t=true:=aal h (Nat.le_refl _) (by omega)
theorem Fine.cases(h:Fine ss t):(t.of=[]∧(t.k=1∨t.k=2∨t.k=5))∨∃u,t.of=[u]∧Fine ss u∧(t.k=3∨t.k=4):=by
 rcases zB h with h|⟨u,h1,h2,h3⟩
 ·exact .inl h
 ·exact .inr ⟨u,h1,aal h2 (by omega) (Int.le_refl _),h3⟩
theorem Fine.st(h:Fine ss t)(hk:t.k=5):0≤t.st∧t.st<ss.length:=by
 have:=jB h hk
 exact⟨this.1,this.2.1⟩
theorem ako(hg:x8 ss){s:TyD×Int}{k:Int}{s':TyD×Int}(h:Fine ss s.1)(e:stepG ss s k=some s'):Fine ss s'.1:=by
 have inside:∀{f:TyD→TyD×Int},(∀u,(f u).1=u)→s.1.of.head?.map f=some s'→Fine ss s'.1:=by
  intro f hf e
  rcases h.cases with⟨h1,_⟩|⟨u,h1,h2,_⟩
  ·rw[h1]at e;cases e
  ·rw[h1]at e
   obtain rfl:=Option.some.inj e
   rw[hf];exact h2
 unfold stepG at e
 split at e
 ·exact inside (λ_=>rfl) e
 split at e
 ·exact inside (λ_=>rfl) e
 split at e
 ·rename_i h3
  cases hu:(ze ss s.1.st)[k.toNat]? with
  |none=>rw [hu]at e;cases e
  |some u=>
   rw[hu]at e
   obtain rfl:=Option.some.inj e
   exact hg _ u (List.mem_of_getElem? hu)
 ·cases e
theorem aeA{ss:List StD}(hg:x8 ss):∀{l:List Int}{s s':TyD×Int},Fine ss s.1→goG ss l s=some s'→Fine ss s'.1
 |[],s,s',h,e=>by obtain rfl:=Option.some.inj e;exact h
 |k::l,s,s',h,e=>by
  rw[goG]at e
  cases hs:stepG ss s k with
  |none=>rw [hs]at e;cases e
  |some s2=>rw [hs]at e;exact aeA hg (ako hg h hs) e
structure xz(ss:List StD)(tys:List TyD):Prop where
 few:ss.length≤32
 good:x8 ss
 acy:∀k,¬Rch ss k k
 all:∀t∈tys,Fine ss t
theorem kZ{tys:List TyD}(h:xz ss tys){p:PlD}(ho:(zm ss tys p).2.2=true):Fine ss (zm ss tys p).1:=by
 unfold zm at ho⊢
 cases hb:(if p.l<0 then none else tys[p.l.toNat]?).bind λt=>goG ss p.ps (t,0)with
 |none=>rw [hb]at ho;cases ho
 |some s=>
  show Fine ss s.1
  split at hb
  ·cases hb
  ·cases ht:tys[p.l.toNat]? with
   |none=>rw [ht]at hb;cases hb
   |some t=>
    rw[ht]at hb
    exact aeA h.good (h.all t (List.mem_of_getElem? ht)) hb
end
mutual
def TyD.mapR(f:Int→Int):TyD→TyD
 |.mk k m re st of=>.mk k m (if k=4 then f re else re) st (TyD.mapsR f of)
def TyD.mapsR(f:Int→Int):List TyD→List TyD
 |[]=>[]
 |t::l=>TyD.mapR f t::TyD.mapsR f l
end
theorem J2{f:Int→Int}{t:TyD}(h:t.of=[]):t.mapR f=.mk t.k t.m (if t.k=4 then f t.re else t.re) t.st []:=by
 cases t with|mk k m re st of=>cases h;rfl
theorem J3{f:Int→Int}{t u:TyD}(h:t.of=[u]):t.mapR f=.mk t.k t.m (if t.k=4 then f t.re else t.re) t.st [u.mapR f]:=by
 cases t with|mk k m re st of=>cases h;rfl
def atL(l:List Int)(x:Int):Int:=l.getD x.toNat 0
def jH(_:Int):Int:=-1
def yN:List Int→Int→List Int
 |[],_=>[]
 |k::l,c=>if k<0 then c::yN l (c+1)else k::yN l c
def yo:List Int→Int
 |[]=>0
 |k::l=>(if k<0 then 1 else 0)+yo l
theorem vy:∀(l:List Int)(c:Int),(yN l c).length=l.length
 |[],_=>rfl
 |k::l,c=>by
  rw[yN];split<;>simp [vy l]
theorem Xk:∀l:List Int,0≤yo l∧yo l≤l.length
 |[]=>by simp[yo]
 |k::l=>by
  have:=Xk l
  rw[yo,List.length_cons]
  split<;>omega
def kc:List TyD→Int→List TyD
 |[],_=>[]
 |t::l,c=>t.lay (yN (regsT t) c)::kc l (c+yo (regsT t))
def zU:List TyD→Int
 |[]=>0
 |t::l=>yo (regsT t)+zU l
theorem kC:∀(l:List TyD)(c:Int),(kc l c).length=l.length
 |[],_=>rfl
 |t::l,c=>by rw[kc,List.length_cons,kC l,List.length_cons]
def ajx(u:UnD)(fn:Int):Int:=match u.fs[fn.toNat]? with|some g=>g.lv|none=>0
def ptN(u:UnD)(p:PtD):Int:=if p.op=4 then 1 else if p.op=7 then ajx u p.fn else 0
def atK(u:UnD):List PtD→Int→List Int
 |[],_=>[]
 |p::l,c=>(if ptN u p=0 then -1 else c)::atK u l (c+ptN u p)
def atC(u:UnD):List PtD→Int
 |[]=>0
 |p::l=>ptN u p+atC u l
theorem ZX(u:UnD):∀(l:List PtD)(c:Int),(atK u l c).length=l.length
 |[],_=>rfl
 |p::l,c=>by rw[atK,List.length_cons,ZX u l,List.length_cons]
structure RgD where
 lv:Int
 pt:Int
 ct:Int
 tys:List TyD
 at':List Int
def jZ:RgD:=⟨0,0,0,[],[]⟩
def allD(u:UnD)(g:GrD):RgD:=⟨g.lv,g.pts.length,g.lv+zU g.tys+atC u g.pts,kc g.tys g.lv,atK u g.pts (g.lv+zU g.tys)⟩
noncomputable def isU(u:UnD)(fn q:Int):Bool:=(decide (0≤fn)&&decide (fn<u.fs.length))&&(XQ u&&decide (q<((u.fs[fn.toNat]?.map λg=>(g.pts.length:Int)).getD 0)))
noncomputable def zH(u:UnD)(fn q:Int):RgD×Int:=
 if isU u fn q then(match u.fs[fn.toNat]? with|some g=>(allD u g,0)|none=>(jZ,2))else(jZ,2)
def zL(x:RgD×Int):RgD×Int:=if x.2=0 then(if 512<x.1.ct then(jZ,5)else x)else(jZ,x.2)
def RgG(r:Gh)(v:Value)(d:RgD):Prop:=∃vl va,v=.agg #[.int .i64 d.lv,.int .i64 d.pt,.int .i64 d.ct,vl,va]∧SlG 5 r (TyC r) vl d.tys∧SlG 1 r yz va d.at'
theorem RgG.up{r s:Gh}{v:Value}{d:RgD}(h:RgG r v d)[l:Le r s]:RgG s v d:=by
 obtain⟨vl,va,h0,h1,h2⟩:=h
 exact⟨vl,va,h0,h1.up' l λ_ _ h=>TyG.up h,h2.cells⟩
theorem RgG.zero{r:Gh}:RgG r (.agg #[.int .i64 0,.int .i64 0,.int .i64 0,.slice none 0 0,.slice none 0 0]) jZ:=⟨_,_,rfl,SlG.nil,SlG.nil⟩
section
variable {t:TyD} {r:Gh} {p:PlD} {w:World} {K:Value→World→Prop} {v:Value} {c:List Value} {ss:List StD} {tys:List TyD}
theorem anu{u:TyD}(h:isB t=true)(ho:t.of=[u]):isB u=true:=by
 rcases zB (n:=47) h with⟨h1,_⟩|⟨x,h1,h2,_⟩
 ·rw[h1]at ho;cases ho
 ·rw[h1]at ho;cases ho;exact aal h2 (by omega) (Int.le_refl _)
theorem alr(h:isB t=true)(ho:t.of=[]):t.k≠4:=by
 rcases zB (n:=47) h with⟨_,h1⟩|⟨u,h1,_⟩
 ·omega
 ·rw[ho]at h1;cases h1
theorem akp(h:isB t=true):t.of=[]∨∃u,t.of=[u]∧isB u=true:=by
 rcases zB (n:=47) h with⟨h1,_⟩|⟨u,h1,_⟩
 ·exact .inl h1
 ·exact .inr ⟨u,h1,anu h h1⟩
instance {P:Program} {t e ty:TypeId} {a b:Int}:PStep P (Builtin.max_ #[t,e] ty #[.int .i64 a,.int .i64 b]) (.int .i64 (max a b)):=⟨λw=>Lib.run_max_ints w _ _ _ _ _ _⟩
instance (priority:=low) {P:Program} {t:TypeId} {c:Bool} {x:ByteArray} {m:List UInt8}:PStep P (zM .eql t c (.string x) (.string (bs m))) (.bool (x.toList == m)):=.of λ_ k=>
 ye (λw=>by rw[alj trivial,binOp_string_eql,afp m];rfl) k
theorem anv{P:Program}{s:Sem Value}(h:opQ P w s λv=>K v w):opW P w s K:=w_q (by
 obtain⟨v,h1,h2⟩:=h
 exact⟨v,h1,h2⟩)
theorem SlB.lt{α:Type}{sz:Nat}{R:List Value→α→Prop}{l:List α}(h:SlB sz r R v l):l.length≤9223372036854775807:=h.few
theorem QZ{a:Nat}:decide ((a:Int)=0)=decide (a=0):=decide_eq_decide.2 (by omega)
theorem jr(hr:Holds r w)(hp:PlG r c p)(h:∀w',Ext w w'→K (.bool (xR p)) w'):
  zd Tryz.prog Tryz.xX #[.agg c.toArray] w K:=by
 obtain⟨v,rfl,hl⟩:=hp
 obtain⟨q,cap,rfl,_,_⟩:=hl.sl.shape
 refine Tryz.afU ?_
 unfold Tryz.V8
 have S:=St.start hr
 refine S.box λb1 w1 S=>?_
 refine gG_ ?_
 refine zg (c:=decide (p.ps.length=0)) (λ_ K2 hK2=>?_) ?_
 ·refine gG_ ?_
  rw[QZ]
  exact hK2
 exact h _ S.ext
def AskG(r:Gh)(v:Value)(u:UnD)(g:GrD):Prop:=∃p cap vf vo vt vn vp,v=.agg #[.slice p u.ss.length cap,vf,.int .i64 u.mn,.string g.name,.int .i64 g.lv,vo,.int .i64 g.pn,vt,vn,vp]∧
 UnG r (.agg #[.slice p u.ss.length cap,vf,.int .i64 u.mn]) u∧GrG r [.string g.name,.int .i64 g.lv,vo,.int .i64 g.pn,vt,vn,vp] g
theorem AskG.up{s:Gh}{u:UnD}{g:GrD}(h:AskG r v u g)[l:Le r s]:AskG s v u g:=by
 obtain⟨p,cap,vf,vo,vt,vn,vp,h0,h1,h2⟩:=h
 exact⟨p,cap,vf,vo,vt,vn,vp,h0,h1.up,h2.up⟩
abbrev tyL(t:TyD)(q:Option Addr)(cap:Nat):List Value:=[.int .u8 t.k,.bool t.m,.int .i64 t.re,.int .i64 t.st,.slice q t.of.length cap]
abbrev tyV(t:TyD)(q:Option Addr)(cap:Nat):Value:=.agg #[.int .u8 t.k,.bool t.m,.int .i64 t.re,.int .i64 t.st,.slice q t.of.length cap]
abbrev spL(t:TyD)(q:Option Addr)(cap:Nat)(m:Int)(ok:Bool):List Value:=[.int .u8 t.k,.bool t.m,.int .i64 t.re,.int .i64 t.st,.slice q t.of.length cap,.int .i64 m,.bool ok]
abbrev spV(t:TyD)(q:Option Addr)(cap:Nat)(m:Int)(ok:Bool):Value:=.agg #[.int .u8 t.k,.bool t.m,.int .i64 t.re,.int .i64 t.st,.slice q t.of.length cap,.int .i64 m,.bool ok]
theorem yj(h:TyG r (.agg c.toArray) t):∃q cap,c=tyL t q cap∧TyG r (tyV t q cap) t:=by
 obtain⟨p,cap,h1,_⟩:=XK h
 subst h1
 exact⟨p,cap,rfl,h⟩
theorem Zs{s uu:TyD}{q:Option Addr}{cap:Nat}(h:TyG r (tyV s q cap) s)(hof:s.of=[uu]):∃b off q2 cap2,q=some ⟨b,off,none⟩∧TyG r (tyV uu q2 cap2) uu∧∀j v,(tyL uu q2 cap2)[j]? = some v→Ob r λw=>w.cell? ⟨b,off+j,none⟩=some v:=by
 obtain⟨_,_,hE,_,_,hreps⟩:=h
 cases hE
 obtain⟨b,off,rfl,c,h1,h2,h3⟩:=NdG.of hreps (i:=0) (by rw[hof];exact Nat.one_pos)
 have h3:TyG r (.agg c.toArray) uu:=by simpa [hof]using h3
 obtain⟨q2,cap2,rfl,ht⟩:=yj h3
 exact⟨b,off,q2,cap2,rfl,ht,by simpa using h2⟩
theorem adq(ss:List StD):∀(l:List Int)(k:Int)(s:TyD×Int),goG ss (l++[k]) s=(goG ss l s).bind λs'=>stepG ss s' k
 |[],k,s=>by
  show(stepG ss s k).bind (goG ss [])=stepG ss s k
  cases stepG ss s k<;>rfl
 |x::l,k,s=>by
  rw[List.cons_append,goG,goG]
  cases h:stepG ss s x with
  |none=>rfl
  |some s'=>exact adq ss l k s'
theorem ahp{ss:List StD}:∀{l m:List Int}{s:TyD×Int},goG ss l s=none→goG ss (l++m) s=none
 |[],m,s,h=>by cases h
 |x::l,m,s,h=>by
  rw[List.cons_append,goG]
  rw[goG]at h
  cases hs:stepG ss s x with
  |none=>rfl
  |some s'=>rw [hs]at h;exact ahp (l:=l) (m:=m) h
theorem akq{i:Nat}(h0:0≤p.l)(ht:tys[p.l.toNat]? = some t)(h:goG ss (p.ps.take i) (t,0)=none):zm ss tys p=(zI,0,false):=by
 have:=ahp (m:=p.ps.drop i) h
 rw[List.take_append_drop]at this
 unfold zm
 rw[if_neg (by omega),ht]
 show(match goG ss p.ps (t,0) with|some s=>(s.1,s.2,decide (p.ps.length≤8))|none=>(zI,0,false))=_
 rw[this]
theorem akr{s:TyD×Int}(h0:0≤p.l)(ht:tys[p.l.toNat]? = some t)(h:goG ss p.ps (t,0)=some s):zm ss tys p=(s.1,s.2,decide (p.ps.length≤8)):=by
 unfold zm
 rw[if_neg (by omega),ht]
 show(match goG ss p.ps (t,0) with|some s=>(s.1,s.2,decide (p.ps.length≤8))|none=>(zI,0,false))=_
 rw[h]
theorem als(h:p.l<0∨(tys.length:Int)≤p.l):zm ss tys p=(zI,0,false):=by
 unfold zm
 by_cases h0:p.l<0
 ·rw[if_pos h0];rfl
 ·rw[if_neg h0,List.getElem?_eq_none (by omega)];rfl
theorem xG{u:UnD}{g:GrD}{K:Value→World→Prop}{m:Int}{ok:Bool}(hr:Holds r w)(hx:AskG r v u g)(hf:xz u.ss g.tys)(hp:PlG r c p)(hsp:zm u.ss g.tys p=(t,m,ok))
  (h:∀q cap w',Ext w w'→TyG r (tyV t q cap) t→K (spV t q cap m ok) w'):zd Tryz.prog Tryz.zw #[v,.agg c.toArray] w K:=by
 obtain⟨p0,cap0,vf,vo,vt,vn,vp,rfl,hu,hg⟩:=hx
 obtain⟨_,_,_,_,hE,_,htys,_,_⟩:=hg
 cases hE
 obtain⟨_,_,_,hE,_,_,hst,_,_⟩:=hu
 cases hE
 obtain⟨qt,capt,rfl,_,_⟩:=htys.sl.shape
 obtain⟨v,rfl,hl⟩:=hp
 obtain⟨qs,caps,rfl,_,_⟩:=hl.sl.shape
 have hbl:=hl.lt
 refine Tryz.VT ?_
 unfold Tryz.Yj
 have S:=St.start hr
 refine S.box λb2 w1 S=>?_
 refine S.box λb3 w2 S=>?_
 refine S.al λb4 w3 S=>?_
 refine gG_ ?_
 refine zn (c:=decide ((g.tys.length:Int)≤p.l)) (λ_ K2 hK2=>?_) ?_
 ·refine gG_ ?_
  exact hK2
 refine c_b (λho=>?_) (λhi=>?_)
 ·have hz:=als (ss:=u.ss) (tys:=g.tys) (p:=p) (by simpa using ho)
  rw[hz]at hsp;cases hsp
  refine zq (cs:=#[.int .u8 0,.bool false,.int .i64 0,.int .i64 0,.slice none 0 0,.int .i64 0,.bool false]) (by kernel_rfl) ?_
  refine S.stB (b:=b4) λw5 S=>?_
  refine gG_ ?_
  exact h none 0 _ S.ext yH
 have hlo:0≤p.l∧p.l<g.tys.length:=by
  simp only[Bool.or_eq_false_iff,decide_eq_false_iff_not]at hi;omega
 clear hi
 have hlt0:p.l.toNat<g.tys.length:=by omega
 obtain⟨bt,ot,ct,rfl,hct,htc,hcell⟩:=htys.sl.get (by decide) hlt0
 obtain⟨t0,hti⟩:∃t0,g.tys[p.l.toNat]=t0:=⟨_,rfl⟩
 rw[hti]at htc
 have hq:g.tys[p.l.toNat]? = some t0:=by rw[gqg hlt0,hti]
 have hfi:Fine u.ss t0:=hf.all _ (List.mem_of_getElem? hq)
 obtain⟨q0,cap1,rfl,ht0⟩:=yj htc
 have S:=S.go (Ext.drew _)
 refine gG_ ?_
 refine zo (n:=5) hct (λj v hj=>S.at (hcell j v hj)) ?_
 refine gG_ ?_
 refine S.alU λb5 w10 S=>?_
 refine S.stB (b:=b5) λw11 S=>?_
 refine gG_ ?_
 have hok:decide (p.ps.length≤8)=decide ((p.ps.length:Int)≤8):=decide_eq_decide.2 (by omega)
 refine zj (ι:=Nat×TyD×Int×Option Addr×Nat) (λi=>[.int .i64 (i.1:Nat)]) (λi w'=>i.1≤p.ps.length∧goG u.ss (p.ps.take i.1) (t0,0)=some (i.2.1,i.2.2.1)∧TyG r (tyV i.2.1 i.2.2.2.1 i.2.2.2.2) i.2.1∧
  StX noX w r w' [.cell b5 (spL i.2.1 i.2.2.2.1 i.2.2.2.2 i.2.2.1 (decide ((p.ps.length:Int)≤8))) 313,.cell b4 [.int .u8 0,.bool false,.int .i64 0,.int .i64 0,.slice none 0 0,.int .i64 0,.bool false] 313,.cell b3 [.int .i64 p.l,.slice qs p.ps.length caps] 80,
   .cell b2 [.slice p0 u.ss.length cap0,vf,.int .i64 u.mn,.string g.name,.int .i64 g.lv,vo,.int .i64 g.pn,.slice (some ⟨bt,ot,none⟩) g.tys.length capt,vn,vp] 294]) (λi=>p.ps.length-i.1) (0,t0,0,q0,cap1) rfl ⟨gzl _,rfl,ht0,S⟩ ?_
 clear S
 rintro⟨i,s,m',q,cap⟩ d w15 ⟨hi,hgo,hs,S⟩ K6 hK6
 simp only at hi hgo hs S⊢
 rw[gdz]
 refine gG_ ?_
 refine c_b (λhlt=>?_) (λhge=>?_)
 rotate_left
 ·have hie:i=p.ps.length:=by
   have:=of_decide_eq_false hge;omega
  rw[hie,List.take_length]at hgo
  rw[akr hlo.1 hq hgo,hok]at hsp
  cases hsp
  refine gG_ ?_
  refine S.stB (b:=b4) λw16 S=>?_
  refine gG_ ?_
  exact h _ _ _ S.ext hs
 have hlt:i<p.ps.length:=by simpa using hlt
 have hsf:Fine u.ss s:=aeA hf.good hfi hgo
 obtain⟨k,hke⟩:∃k,p.ps[i]=k:=⟨_,rfl⟩
 obtain⟨bs,os,cs,rfl,hcs,hck,hcl⟩:=hl.sl.get (by decide) hlt
 rw[hke]at hck
 obtain⟨rfl,hin⟩:=hck
 have hstep:goG u.ss (p.ps.take (i+1)) (t0,0)=stepG u.ss (s,m') k:=by
  rw[List.take_succ_eq_append_getElem hlt,adq,hgo,hke];rfl
 refine zk (λ_ w'=>∃s' m2 q' cap',stepG u.ss (s,m') k=some (s',m2)∧TyG r (tyV s' q' cap') s'∧
  StX noX w r w' [.cell b5 (spL s' q' cap' m2 (decide ((p.ps.length:Int)≤8))) 313,.cell b4 [.int .u8 0,.bool false,.int .i64 0,.int .i64 0,.slice none 0 0,.int .i64 0,.bool false] 313,.cell b3 [.int .i64 p.l,.slice (some ⟨bs,os,none⟩) p.ps.length caps] 80,
   .cell b2 [.slice p0 u.ss.length cap0,vf,.int .i64 u.mn,.string g.name,.int .i64 g.lv,vo,.int .i64 g.pn,.slice (some ⟨bt,ot,none⟩) g.tys.length capt,vn,vp] 294]) (λK16 hK16=>?_) ?_
 rotate_left
 ·rintro _ w19 ⟨s',m2,q',cap',h1,h2,S⟩ d2
  refine gG_ ?_
  rw[show ((i:Int)+1)=((i+1:Nat):Int)by omega]
  exact hK6 (i+1,s',m2,q',cap') _ ⟨hlt,hstep.trans h1,h2,S⟩ (by show p.ps.length-(i+1)<p.ps.length-i;omega)
 refine gG_ ?_
 refine zf (v:=.int .i64 k) (by simpa using S.at (hcl 0 _ rfl)) ?_
 refine gP_ ?_
 refine S.ldN (b:=b5) ?_
 refine S.al λb8 w20 S=>?_
 refine S.stB (b:=b8) λw21 S=>?_
 refine gG_ ?_
 refine zg (c:=decide (s.k=3)) (λ_ K2 hK2=>?_) ?_
 ·refine gG_ ?_
  exact hK2
 have down:(s.k=3∨s.k=4)→∃uu,s.of=[uu]:=by
  intro hk
  rcases hsf.cases with⟨_,h1⟩|⟨uu,h1,_⟩
  ·omega
  ·exact⟨uu,h1⟩
 refine c_b (λhB=>?_) (λhB=>?_)
 ·obtain⟨hk1,hk3⟩:k = -1∧s.k=3:=by simpa using hB
  obtain⟨uu,hof⟩:=down (.inl hk3)
  obtain⟨bo,oo,q2,cap2,rfl,ht2,hcc⟩:=Zs hs hof
  have hl1:s.of.length=1:=by rw[hof];rfl
  refine gG_ ?_
  refine S.st (b:=b5) λw26 S=>?_
  refine gG_ ?_
  refine zo (n:=5) (c:=tyL uu q2 cap2) rfl (λj v hj=>by simpa using S.at (hcc j v hj)) ?_
  refine gG_ ?_
  refine S.stN (b:=b5) λw27 S=>?_
  refine hK16 [] _ ⟨uu,max m' 1,q2,cap2,?_,ht2,S.drop b8⟩
  rw[stepG,if_pos ⟨hk1,hk3⟩,hof];rfl
 have hB:¬(k = -1∧s.k=3):=by simpa using hB
 refine gG_ ?_
 refine zg (c:=decide (s.k=4)) (λ_ K2 hK2=>?_) ?_
 ·refine gG_ ?_
  exact hK2
 refine c_b (λhR=>?_) (λhR=>?_)
 ·obtain⟨hk1,hk3⟩:k = -1∧s.k=4:=by simpa using hR
  obtain⟨uu,hof⟩:=down (.inr hk3)
  obtain⟨bo,oo,q2,cap2,rfl,ht2,hcc⟩:=Zs hs hof
  have hl1:s.of.length=1:=by rw[hof];rfl
  refine zk (λs' w'=>s'=[.int .i64 (if s.m then 2 else 3)]∧w'=w21) (λK7 hK7=>?_) ?_
  ·refine gG_ ?_
   refine c_b (λhm=>hK7 _ _ ⟨by rw[hm];rfl,rfl⟩) (λhm=>hK7 _ _ ⟨by rw[hm];rfl,rfl⟩)
  rintro _ _ ⟨rfl,rfl⟩ d3
  refine gG_ ?_
  refine S.st (b:=b5) λw26 S=>?_
  refine gG_ ?_
  refine zo (n:=5) (c:=tyL uu q2 cap2) rfl (λj v hj=>by simpa using S.at (hcc j v hj)) ?_
  refine gG_ ?_
  refine S.stN (b:=b5) λw27 S=>?_
  refine hK16 [] _ ⟨uu,max m' (if s.m then 2 else 3),q2,cap2,?_,ht2,S.drop b8⟩
  rw[stepG,if_neg (by omega),if_pos ⟨hk1,hk3⟩,hof];rfl
 have hR:¬(k = -1∧s.k=4):=by simpa using hR
 refine gG_ ?_
 refine zg (c:=decide (s.k=5)) (λ_ K2 hK2=>?_) ?_
 ·refine gG_ ?_
  exact hK2
 refine zg (c:=decide (k<(ze u.ss s.st).length)) (λh5 K2 hK2=>?_) ?_
 ·obtain⟨hk0,hk5⟩:0≤k∧s.k=5:=by simpa using h5
  obtain⟨hst0,hst1⟩:=hsf.st hk5
  have hslt:s.st.toNat<u.ss.length:=by omega
  obtain⟨b,off,q9,capq,rfl,hcell9,_,_,hfl⟩:=xI hst hslt
  have hlen:(ze u.ss s.st).length=u.ss[s.st.toNat].fs.length:=by
   rw[← vU hslt];simp only[ze,tnc]
  refine gG_ ?_
  refine zf (S.at hcell9) ?_
  refine gG_ ?_
  rw[← hlen]
  exact hK2
 refine c_b (λhS=>?_) (λhS=>?_)
 ·obtain⟨⟨hk0,hk5⟩,hkl⟩:(0≤k∧s.k=5)∧k<(ze u.ss s.st).length:=by simpa using hS
  obtain⟨hst0,hst1⟩:=hsf.st hk5
  have hslt:s.st.toNat<u.ss.length:=by omega
  obtain⟨b,off,q9,capq,rfl,hcell9,_,_,hfl⟩:=xI hst hslt
  have htl:ze u.ss s.st=u.ss[s.st.toNat].fs.map (·.2):=by
   rw[← yD hslt];simp only[ze,tnc]
  have hkf:k.toNat<u.ss[s.st.toNat].fs.length:=by
   rw[htl,List.length_map]at hkl;omega
  obtain⟨b9,off9,c9,rfl,hc9,hcell8,ht9⟩:=qm hfl hkf
  obtain⟨q2,cap2,rfl,ht2⟩:=yj ht9
  refine gG_ ?_
  refine zf (S.at hcell9) ?_
  refine gG_ ?_
  refine zo (n:=5) (c:=tyL _ q2 cap2) rfl (λj v hj=>by have:=S.at (hcell8 (j+1) v hj);rwa[show off9+k.toNat*6+(j+1)=off9+k.toNat*6+1+j by omega]at this) ?_
  refine gG_ ?_
  refine S.stN (b:=b5) λw27 S=>?_
  refine hK16 [] _ ⟨_,m',q2,cap2,?_,ht2,S.drop b8⟩
  rw[stepG,if_neg (by omega),if_neg (by omega),if_pos ⟨hk0,hk5⟩,htl,List.getElem?_map,gqg hkf];rfl
 have hz:zm u.ss g.tys p=(zI,0,false):=by
  refine akq hlo.1 hq (i:=i+1) (hstep.trans ?_)
  rw[stepG,if_neg hB,if_neg hR]
  split
  ·rename_i h5
   rw[List.getElem?_eq_none];· rfl
   have :¬k<(ze u.ss s.st).length:=by
    intro hh
    have :((decide (0≤k)&&decide (s.k=5))&&decide (k<((ze u.ss s.st).length:Int)))=true:=by simp[h5,hh]
    rw[this]at hS;cases hS
   have h50:0≤k:=h5.1
   show(ze u.ss s.st).length≤k.toNat
   omega
  ·rfl
 rw[hz]at hsp;cases hsp
 refine gG_ ?_
 refine S.stB (b:=b4) λw16 S=>?_
 refine gG_ ?_
 exact h none 0 _ S.ext yH
end
end Go.Proofs
