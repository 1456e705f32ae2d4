/-
  Contracts and plain laws that the last text leans on.
-/
import Derived.RangeFuncLeaves
import Derived.RangeFuncSeq
import Derived.OrdersIn
import Derived.Below
import Derived.RangeFuncNested
import Derived.Laws.AppendOwn
import Derived.Laws.MakeOwn
import Derived.Laws.Bits64
import Derived.Laws.BitsLemmas
import Derived.Maps.AppendAt
import Derived.WalkSpells
import Derived.Laws.IdiomStrings
import Derived.Laws.BytesArg
import Derived.Lib.MinMax
import Derived.RecoverIn
import Derived.Laws.StructEq
import Derived.Laws.Concat
import Derived.WideLaws
namespace Go
abbrev u_:Value:=undef
theorem gdz.{u}{α:Type u}{a d:α}{l:List α}:(a::l).getD 0 d=a:=rfl
theorem gds.{u}{α:Type u}{a d:α}{n:Nat}{l:List α}:(a::l).getD (n+1) d=l.getD n d:=rfl
theorem tnc(n:Nat):(n:Int).toNat=n:=rfl
theorem gqg.{u}{α:Type u}{l:List α}{i:Nat}(h:i<l.length):l[i]?=some l[i]:=List.getElem?_eq_getElem h
theorem gdt{p:Prop}[Decidable p]:(decide p=true)=p:=decide_eq_true_eq
theorem gba(a b:Bool):((a&&b)=true)=(a=true∧b=true):=Bool.and_eq_true a b
theorem ggd.{u}{α:Type u}{l:List α}{i:Nat}{a:α}:l.getD i a=l[i]?.getD a:=List.getD_eq_getElem?_getD
theorem gzl(n:Nat):0≤n:=Nat.zero_le n
theorem gem.{u}{α:Type u}{l:List α}{n:Nat}(h:n<l.length):l[n]∈l:=List.getElem_mem h
theorem gde{p:Prop}[Decidable p](h:p):decide p=true:=decide_eq_true h
theorem gla.{u}{α:Type u}{as bs:List α}:(as++bs).length=as.length+bs.length:=List.length_append
theorem gls.{u}{α:Type u}{a:α}:[a].length=1:=rfl
end Go
set_option maxRecDepth 100000
set_option maxHeartbeats 8000000
set_option linter.unusedVariables false
set_option linter.unusedSimpArgs false
namespace Go.Sh
open Go.RowKit
section
abbrev Ext(w w':World):Prop:=Below w.heap.size w w'
theorem Ext.refl(w:World):Ext w w:=Below.refl _ _
theorem Ext.trans{a b c:World}(h:Ext a b)(k:Ext b c):Ext a c:=Below.trans h (k.mono h.size)
def FW(ro:Option Nat):Fence:={ fn:=λ_=>True,depth:=none,alive:=false,round:=ro }
inductive yA where
 |p|q|l|u
 deriving DecidableEq,Repr
def aaQ(P:Program)(o:Oper)(a:Act)(w:World)(v:Value):Prop:=
 ∀w',Ext w w'→(execOp a.eval o).run P w'=.ok (.value v) w'
def aaR(P:Program)(o:Oper)(a:Act)(v:Value):Prop:=
 ∀w',(execOp a.eval o).run P w'=.ok (.value v) w'
inductive Tr where
 |nil
 |op (i:Nat) (k:yA) (t:Tr)
 |alt (i:Nat) (k:yA) (t r:Tr)
def pre:List (Nat×yA)→Tr→Tr
 |[],t=>t
 |(i,k)::l,t=>.op i k (pre l t)
def Tr.lin:Tr→Option (List Nat)
 |.nil=>some []
 |.op i _ t=>t.lin.map (i :: ·)
 |.alt ..=>none
def Tr.pairs:Tr→List (Nat×yA)
 |.nil=>[]
 |.op i k t=>(i,k)::t.pairs
 |.alt i k t r=>(i,k)::(t.pairs++r.pairs)
def kC(ro:Option Nat)(P:Program)(ops:Array Oper)(Q:Exit→Act→World→Prop)(i:Nat)(k:yA)(K:Act→World→Prop)(a:Act)(w:World):Prop:=
 match ops[i]? with
 |none=>False
 |some o=>
  if Region.wanted o (yielded ops a.tmps)then
   match k with
   |.p=>∃v,aaR P o a v∧K (a.put o.dst v) w
   |.q=>∃v,aaQ P o a w v∧K (a.put o.dst v) w
   |.l=>o.uponIn (FW ro) 0 P a K Q ((execOp a.eval o).run P w)
   |.u=>o.uponIn (FW ro) 0 P a (λa' w'=>Ext w w'∧K a' w') Q ((execOp a.eval o).run P w)
  else K (a.put o.dst u_) w
def chain(ro:Option Nat)(P:Program)(ops:Array Oper)(Q:Exit→Act→World→Prop):Tr→Act→World→Prop
 |.nil,a,w=>Q .normal a w
 |.op i k t,a,w=>kC ro P ops Q i k (chain ro P ops Q t) a w
 |.alt i k t r,a,w=>kC ro P ops Q i k (chain ro P ops Q t) a w∧chain ro P ops Q r a w
def jy(ops:Array Oper):Bool:=ops.all λo=>match o.op with|.defer _=>false|_=>true
theorem af7{ops:Array Oper}(h:jy ops=true){j:Nat}{o:Oper}(ho:ops[j]? = some o)(c:Call):o.op≠.defer c:=by
 intro heq
 have:=Array.all_eq_true_iff_forall_mem.1 h o (Array.mem_of_getElem? ho)
 simp[heq]at this
theorem qP{ro:Option Nat}{P:Program}{Q:Exit→Act→World→Prop}{o:Oper}{a:Act}{K K':Act→World→Prop}{r:Result Next}(h:∀a w,K a w→K' a w)
  (hh:o.uponIn (FW ro) 0 P a K Q r):o.uponIn (FW ro) 0 P a K' Q r:=by
 cases r with
 |ok x w'=>
  cases x<;>simp only[Oper.uponIn]at hh⊢ <;>
   first
    |exact h _ _ hh
    |exact ⟨hh.1,CallsIn.mono hh.2 (λe w'' he=>by cases e<;>first|exact h _ _ he|exact he)⟩
    |exact ⟨hh.1,RowsIn.mono hh.2 (λ_ _ he=>h _ _ he)⟩
    |exact ⟨hh.1,RoundIn.mono hh.2 (λe w'' he=>by cases e<;>first|exact h _ _ he|exact he)⟩
 |halt x w'=>cases x<;>simp only[Oper.uponIn]at hh⊢<;>exact hh
theorem X2{ro:Option Nat}{P:Program}{ops:Array Oper}{Q:Exit→Act→World→Prop}(hd:jy ops=true){i:Nat}{k:yA}{K K':Act→World→Prop}{a:Act}{w:World}
  (hK:∀a w,K a w→K' a w) (hh:kC ro P ops Q i k K a w):wpOpIn (FW ro) 0 P ops Q i K' a w:=by
 unfold kC at hh
 unfold wpOpIn
 cases ho:ops[i]? with
 |none=>simp only[ho]at hh
 |some o=>
  simp only[ho]at hh⊢
  split
  ·rename_i hw
   simp only[hw,if_true]at hh
   refine⟨λ_ _=>trivial,?_⟩
   rw[Oper.semAt_eq _ _ o (λc=>af7 hd ho c)]
   cases k with
   |p=>obtain ⟨v,h1,h2⟩:=hh;rw[h1 w];exact hK _ _ h2
   |q=>obtain ⟨v,h1,h2⟩:=hh;rw[h1 w (Ext.refl w)];exact hK _ _ h2
   |l=>exact qP hK hh
   |u=>exact qP (λa w hx=>hK _ _ hx.2) hh
  ·rename_i hw;simp only[hw]at hh;exact⟨λ_ _=>trivial,hK _ _ hh⟩
theorem aeH{ro:Option Nat}{P:Program}{ops:Array Oper}{Q:Exit→Act→World→Prop}(hd:jy ops=true):
  ∀(t:Tr)(l:List Nat)(a:Act)(w:World),t.lin=some l→chain ro P ops Q t a w→wpOpsIn (FW ro) 0 P ops Q l a w
 |.nil,l,a,w,hl,h=>by simp only[Tr.lin,Option.some.injEq]at hl;subst hl;exact h
 |.op i k t,l,a,w,hl,h=>by
  simp only[Tr.lin,Option.map_eq_some_iff]at hl
  obtain⟨l',hl',rfl⟩:=hl
  rw[wpOpsIn_cons]
  exact X2 hd (λa w h=>aeH hd t l' a w hl' h) h
 |.alt i k t r,l,a,w,hl,h=>by cases hl
theorem af8{ro:Option Nat}{P:Program}{id:Nat}{ops:Array Oper}{Q:Exit→Act→World→Prop}{a:Act}{w:World}{t:Tr}
  (hd:jy ops=true) (hl:t.lin=some (List.range ops.size)) (h:chain ro P ops Q t a w):(Code.region id ops false).wpIn (FW ro) 0 P Q a w:=
 wpIn_region (aeH hd t _ a w hl h)
def Y8(o:Oper):List Nat:=(o.after.toList.filter (Region.binds .any)).map (·.on)
def acG:List Oper→List Nat→List Nat
 |[],acc=>acc
 |o::r,acc=>acG r (acc++[(Y8 o).foldl (λs e=>s ||| 2 ^ e ||| acc.getD e 0) 0])
inductive Ahead(ops:Array Oper):Nat→Nat→Prop
 |one {i j:Nat} {o:Oper} (ho:ops[j]? = some o) (h:i∈Y8 o):Ahead ops i j
 |more {i e j:Nat} {o:Oper} (ho:ops[j]? = some o) (h:e∈Y8 o) (h':Ahead ops i e):Ahead ops i j
theorem acH{acc:List Nat}{i:Nat}:∀(l:List Nat)(s:Nat),(l.foldl (λs e=>s ||| 2 ^ e ||| acc.getD e 0) s).testBit i=true→
  s.testBit i=true∨∃e∈l,e=i∨(acc.getD e 0).testBit i=true
 |[],s,h=>.inl h
 |e::l,s,h=>by
  simp only[List.foldl_cons]at h
  rcases acH l _ h with h|⟨e',he',h⟩
  ·simp only[Nat.testBit_or,Bool.or_eq_true]at h
   rcases h with(h|h)|h
   ·exact .inl h
   ·refine .inr ⟨e,List.mem_cons_self,.inl ?_⟩
    rw[Nat.testBit_two_pow]at h;simpa using h
   ·exact .inr ⟨e,List.mem_cons_self,.inr h⟩
  ·exact .inr ⟨e',List.mem_cons_of_mem _ he',h⟩
theorem acI{ops:Array Oper}:∀(l:List Oper)(acc:List Nat),(∀j,l[j]? = ops[acc.length+j]?)→
  (∀i j,(acc.getD j 0).testBit i=true→Ahead ops i j)→∀i j,((acG l acc).getD j 0).testBit i=true→Ahead ops i j
 |[],acc,_,h,i,j,hb=>h i j hb
 |o::l,acc,hl,h,i,j,hb=>by
  simp only[acG]at hb
  refine acI l _ (λj=>?_) (λi j hij=>?_) i j hb
  ·have:=hl (j+1)
   simp only[List.getElem?_cons_succ]at this
   rw[this,gla,gls]
   congr 1;omega
  ·by_cases hj:j<acc.length
   ·refine h i j ?_
    simpa [ggd,List.getElem?_append_left hj]using hij
   ·by_cases hj':j=acc.length
    ·subst hj'
     simp only[ggd,List.getElem?_append_right (Nat.le_refl _),Nat.sub_self,List.getElem?_cons_zero,Option.getD_some]at hij
     have ho:ops[acc.length]? = some o:=by have:=hl 0;simpa using this.symm
     rcases acH _ _ hij with h0|⟨e,he,h0|h0⟩
     ·simp at h0
     ·subst h0;exact .one ho he
     ·exact .more ho he (h i e (by simpa [ggd]using h0))
    ·have :(acc++[(Y8 o).foldl (λs e=>s ||| 2 ^ e ||| acc.getD e 0) 0]).getD j 0=0:=by
      rw[ggd,List.getElem?_eq_none (by simp;omega)];rfl
     rw[this]at hij;simp at hij
theorem Ahead.listed{ops:Array Oper}{listed:Array Bool}(hc:∀j o,ops[j]? = some o→listed.getD j false=true→∀e∈Y8 o,listed.getD e false=true)
  {i j:Nat} (h:Ahead ops i j):∀o,ops[j]? = some o→(∀e∈Y8 o,listed.getD e false=true)→listed.getD i false=true:=by
 induction h with
 |one ho h=>intro o ho' hp;rw[ho]at ho';cases ho';exact hp _ h
 |more ho h h' ih=>
  intro o ho' hp
  rw[ho]at ho';cases ho'
  cases h' with
  |one ho2 h2=>exact hc _ _ ho2 (hp _ h) _ h2
  |more ho2 h2 h3=>exact ih _ ho2 (λe he=>hc _ _ ho2 (hp _ h) e he)
mutual
def okT(ops:Array Oper)(m:List Nat)(kd:Nat→yA):Tr→Array Bool→Bool
 |.nil,listed=>(Region.ready .any ops listed).isEmpty
 |.op i k t,listed=>
  kd i == k &&
  (match k with
  |.p=>(Region.ready .any ops listed).contains i&&Region.free .any ops listed i
  |.q=>
   (Region.ready .any ops listed).contains i&&Region.free .any ops listed i &&
   (List.range ops.size).all (λj=>j == i||listed.getD j true || !(kd j == .l)||(m.getD j 0).testBit i)
  |_=>Region.ready .any ops listed == [i])&&okT ops m kd t (listed.setIfInBounds i true)
 |.alt i k t r,listed=>
  kd i == k && !(k == .q) && !(k == .p) &&
  (match Region.ready .any ops listed with
  |x::rs=>x == i&&okB ops m kd r listed rs
  |[]=>false)&&okT ops m kd t (listed.setIfInBounds i true)
def okB(ops:Array Oper)(m:List Nat)(kd:Nat→yA):Tr→Array Bool→List Nat→Bool
 |.nil,_,_=>false
 |.op i k t,listed,rs=>kd i == k && !(k == .q) && !(k == .p)&&rs == [i]&&okT ops m kd t (listed.setIfInBounds i true)
 |.alt i k t r,listed,rs=>
  kd i == k && !(k == .q) && !(k == .p) &&
  (match rs with
  |x::rs=>x == i&&okB ops m kd r listed rs
  |[]=>false)&&okT ops m kd t (listed.setIfInBounds i true)
end
def stepC(ro:Option Nat)(P:Program)(ops:Array Oper)(Q:Exit→Act→World→Prop)(kd:Nat→yA)(i:Nat)(K:Act→World→Prop)(a:Act)(w:World):Prop:=
 kC ro P ops Q i (kd i) K a w
def abT(ro:Option Nat)(P:Program)(ops:Array Oper)(Q:Exit→Act→World→Prop)(kd:Nat→yA):Nat→Array Bool→Act→World→Prop
 |0,listed,a,w=>Region.ready .any ops listed=[]∧Q .normal a w
 |fuel+1,listed,a,w=>
  (Region.ready .any ops listed=[]→Q .normal a w)∧
  ∀i∈Region.ready .any ops listed,stepC ro P ops Q kd i (abT ro P ops Q kd fuel (listed.setIfInBounds i true)) a w
section
variable {ro:Option Nat} {P:Program} {ops:Array Oper} {Q:Exit→Act→World→Prop} {kd:Nat→yA}
theorem vZ{i:Nat}{a:Act}{w:World}{K K':Act→World→Prop}(h:∀a w,K a w→K' a w)
  (hh:stepC ro P ops Q kd i K a w):stepC ro P ops Q kd i K' a w:=by
 unfold stepC kC at *
 split
 ·rename_i ho;simp only[ho]at hh
 ·rename_i o ho
  simp only[ho]at hh
  split
  ·rename_i hw
   simp only[hw,if_true]at hh
   cases hk:kd i<;>simp only[hk]at hh⊢
   ·obtain⟨v,h1,h2⟩:=hh;exact⟨v,h1,h _ _ h2⟩
   ·obtain⟨v,h1,h2⟩:=hh;exact⟨v,h1,h _ _ h2⟩
   ·exact qP h hh
   ·exact qP (λa w hx=>⟨hx.1,h _ _ hx.2⟩) hh
  ·rename_i hw;simp only[hw]at hh;exact h _ _ hh
theorem Ve(hd:jy ops=true):∀(fuel:Nat)(listed:Array Bool)(a:Act)(w:World),abT ro P ops Q kd fuel listed a w→wpAnyIn (FW ro) 0 P .any ops Q fuel listed a w
 |0,_,_,_,h=>h
 |fuel+1,_,_,_,h=>⟨h.1,λi hi=>X2 hd (λa w=>Ve hd fuel _ a w) (h.2 i hi)⟩
def YieldsE(P:Program)(ops:Array Oper)(pure':Bool)(o:Oper)(v:Value)(a:Act)(w:World):Prop:=
 (Region.wanted o (yielded ops a.tmps)=true∧(if pure' then aaR P o a v else aaQ P o a w v))∨(Region.wanted o (yielded ops a.tmps)=false∧v=u_)
theorem YieldsE.stepC{i:Nat}{o:Oper}{v:Value}{a:Act}{w:World}{b:Bool}(hi:ops[i]? = some o)(hk:kd i=if b then .p else .q)(hy:YieldsE P ops b o v a w){K:Act→World→Prop}
  (h:K (a.put o.dst v) w):Sh.stepC ro P ops Q kd i K a w:=by
 unfold Sh.stepC kC
 simp only[hi]
 rcases hy with⟨hw,hv⟩|⟨hw,rfl⟩
 ·cases b<;>(simp only[hw,if_true,hk];exact⟨v,hv,h⟩)
 ·simp only[hw,Bool.false_eq_true,if_false];exact h
theorem YieldsE.of_same{o:Oper}{v:Value}{a a':Act}{w:World}{b:Bool}(hy:YieldsE P ops b o v a w)(he:execOp a'.eval o=execOp a.eval o)
  (hw:Region.wanted o (yielded ops a'.tmps)=Region.wanted o (yielded ops a.tmps)):YieldsE P ops b o v a' w:=by
 unfold YieldsE aaQ aaR at *
 rw[he,hw];exact hy
theorem YieldsE.ext{o:Oper}{v:Value}{a:Act}{w w':World}{b:Bool}(hy:YieldsE P ops b o v a w)(he:b=true∨Ext w w'):YieldsE P ops b o v a w':=by
 rcases hy with⟨h1,h2⟩|h
 ·refine .inl ⟨h1,?_⟩
  cases b with
  |true=>exact h2
  |false=>exact λw'' h''=>h2 w'' ((he.resolve_left (by simp)).trans h'')
 ·exact .inr h
theorem ai9{j:Nat}{oi oj:Oper}{v:Value}{b:Bool}(hj:ops[j]? = some oj)(hap:oi.apart ops oj=true)
  (hsi:∀cs b,oi.op≠.select cs b) (hsj:∀cs b,oj.op≠.select cs b) (hl:b=true∨kd j≠.l)
  (hQ:∀c a w,Q (.panic c) (a.put oi.dst v) w→Q (.panic c) a w) {K:Act→World→Prop} {a:Act} {w:World}
  (hy:YieldsE P ops b oi v a w) (h:stepC ro P ops Q kd j K (a.put oi.dst v) w):
  stepC ro P ops Q kd j (λa' w'=>YieldsE P ops b oi v a' w'∧K (a'.put oi.dst v) w') a w:=by
 obtain⟨h1,h2,h3⟩:=Oper.apart_spec hap
 have keep:∀(a:Act)(w:World),YieldsE P ops b oi v a w→∀u,YieldsE P ops b oi v (a.put oj.dst u) w:=λa w hy u=>
  hy.of_same (execOp_put oi hsi a oj.dst u h3) (wanted_put oi a oj.dst u h3)
 unfold stepC kC at *
 simp only[hj]at *
 rw[wanted_put oj a oi.dst v h1]at h
 split
 ·rename_i hw
  simp only[hw,if_true]at h
  have loud:∀(G:World→Prop),(∀w',G w'→b=true∨Ext w w')→
    oj.uponIn (FW ro) 0 P (a.put oi.dst v) (λa' w'=>G w'∧K a' w') Q ((execOp a.eval oj).run P w)→
    oj.uponIn (FW ro) 0 P a (λa' w'=>G w'∧YieldsE P ops b oi v a' w'∧K (a'.put oi.dst v) w') Q ((execOp a.eval oj).run P w):=by
   intro G hG h
   generalize (execOp a.eval oj).run P w=r at *
   cases r with
   |ok n w'=>
    cases n<;>simp only[Oper.uponIn]at h⊢
    case value u=>exact ⟨h.1,keep a _ (hy.ext (hG _ h.1)) u,by rw[← Act.put_comm a v u h2];exact h.2⟩
    case skip=>exact ⟨h.1,keep a _ (hy.ext (hG _ h.1)) _,by rw[← Act.put_comm a v u_ h2];exact h.2⟩
    case defer d=>
     refine⟨h.1,?_,?_⟩
     ·exact keep { a with defers:=d::a.defers } w' ((hy.ext (hG _ h.1)).of_same rfl rfl) u_
     ·rw[← Act.put_comm _ v u_ h2,← Act.put_defers]
      exact h.2
    case enter f args=>
     refine⟨h.1,CallsIn.mono h.2 λe w'' he=>?_⟩
     cases e with
     |returned u=>exact ⟨he.1,keep a _ (hy.ext (hG _ he.1)) u,by rw[← Act.put_comm a v u h2];exact he.2⟩
     |panicked c=>exact hQ _ _ _ he
     |outgrown=>exact he
    case row row args=>exact ⟨h.1,RowsIn.mono h.2 λu w'' he=>⟨he.1,keep a _ (hy.ext (hG _ he.1)) u,by rw[← Act.put_comm a v u h2];exact he.2⟩⟩
    case round l f t x y=>
     refine⟨h.1,RoundIn.mono h.2 λe w'' he=>?_⟩
     cases e with
     |returned u=>exact ⟨he.1,keep a _ (hy.ext (hG _ he.1)) u,by rw[← Act.put_comm a v u h2];exact he.2⟩
     |panicked c=>exact hQ _ _ _ he
     |outgrown=>exact he
   |halt x w'=>
    cases x<;>simp only[Oper.uponIn]at h⊢
    case panic u=>exact hQ _ _ _ h
  cases hk:kd j<;>simp only[hk]at h⊢
  ·obtain⟨u,hu,hn⟩:=h
   refine⟨u,?_,keep a w hy u,by rw[← Act.put_comm a v u h2];exact hn⟩
   unfold aaR at *
   rwa[execOp_put oj hsj a oi.dst v h1]at hu
  ·obtain⟨u,hu,hn⟩:=h
   refine⟨u,?_,keep a w hy u,by rw[← Act.put_comm a v u h2];exact hn⟩
   unfold aaQ at *
   rwa[execOp_put oj hsj a oi.dst v h1]at hu
  ·rw[execOp_put oj hsj a oi.dst v h1]at h
   have hb:b=true:=hl.resolve_right λh=>h hk
   exact qP (λa w h=>h.2) (loud (λ_=>True) (λ_ _=>.inl hb) (qP (λa w h=>⟨trivial,h⟩) h))
  ·rw[execOp_put oj hsj a oi.dst v h1]at h
   exact loud (λw'=>Ext w w') (λ_ h=>.inr h) h
 ·rename_i hw
  simp only[hw]at h
  exact⟨keep a w hy _,by rw[← Act.put_comm a v u_ h2];exact h⟩
def Shut(ops:Array Oper)(listed:Array Bool):Prop:=∀j o,ops[j]? = some o→listed.getD j false=true→∀e∈Y8 o,listed.getD e false=true
theorem aeI{o:Oper}{e:Nat}:e∈Y8 o↔∃x∈o.after,Region.binds .any x=true∧x.on=e:=by
 simp only[Y8,List.mem_map,List.mem_filter]
 constructor
 ·rintro⟨x,⟨hx,hb⟩,rfl⟩;exact⟨x,by simpa using hx,hb,rfl⟩
 ·rintro⟨x,hx,hb,rfl⟩;exact⟨x,⟨by simpa using hx,hb⟩,rfl⟩
theorem Shut.set{listed:Array Bool}{i:Nat}(h:Shut ops listed)(hr:i∈Region.ready .any ops listed):Shut ops (listed.setIfInBounds i true):=by
 intro j o ho hl e he
 refine getD_set_true ?_
 by_cases hij:i=j
 ·subst hij
  obtain⟨_,o',ho',hall⟩:=mem_ready.1 hr
  rw[ho]at ho';cases ho'
  obtain⟨x,hx,hb,rfl⟩:=aeI.1 he
  exact hall x hx hb
 ·rw[getD_set_ne false hij]at hl
  exact h j o ho hl e he
theorem acJ{i:Nat}{oi:Oper}{v:Value}{b:Bool}(hi:ops[i]? = some oi)(hki:kd i=if b then .p else .q)(hsel:∀(j:Nat)(o:Oper) cs b,ops[j]? = some o→o.op≠.select cs b)
  (hQ:∀c a w,Q (.panic c) (a.put oi.dst v) w→Q (.panic c) a w):
  ∀(fuel:Nat)(listed:Array Bool)(a:Act)(w:World),Shut ops listed→
   (∀j,j≠i→listed.getD j true=false→kd j=.l→b=true∨Ahead ops i j)→
   (∀j oj,ops[j]? = some oj→j≠i→listed.getD j true=false→(∀e∈oj.after,Region.binds .any e=true→e.on≠i)→oi.apart ops oj=true)→
   i∈Region.ready .any ops listed→YieldsE P ops b oi v a w→
   abT ro P ops Q kd fuel (listed.setIfInBounds i true) (a.put oi.dst v) w→abT ro P ops Q kd (fuel+1) listed a w:=by
 intro fuel
 induction fuel with
 |zero=>
  intro listed a w _ _ _ hr hy H
  refine⟨λh=>(by rw[h]at hr;cases hr),λj hj=>?_⟩
  by_cases hji:j=i
  ·subst hji;exact hy.stepC hi hki H
  ·have:=ready_mono hj hji
   rw[H.1]at this
   cases this
 |succ fuel ih=>
  intro listed a w hsh hseal hfree hr hy H
  refine⟨λh=>(by rw[h]at hr;cases hr),λj hj=>?_⟩
  by_cases hji:j=i
  ·subst hji;exact hy.stepC hi hki H
  ·have h1:=H.2 j (ready_mono hj hji)
   obtain⟨hjun,oj,hoj,hall⟩:=mem_ready.1 hj
   have hiun:listed.getD i false=false:=by
    have h0:=(mem_ready.1 hr).1
    rcases Nat.lt_or_ge i listed.size with h'|h'
    ·simp[h']at h0⊢;exact h0
    ·simp[Array.getElem?_eq_none h']
   have hl:b=true∨kd j≠.l:=Classical.byContradiction λhn=>by
    simp only[not_or,Classical.not_not]at hn
    obtain⟨hb,hk⟩:=hn
    have hah:=(hseal j hji hjun hk).resolve_left hb
    have:=hah.listed hsh oj hoj (λe he=>by obtain⟨x,hx,hb,rfl⟩:=aeI.1 he;exact hall x hx hb)
    rw[hiun]at this;cases this
   have hnot:∀e∈oj.after,Region.binds .any e=true→e.on≠i:=λe he hb heq=>by
    have h1:=hall e he hb
    rw[heq,hiun]at h1;cases h1
   have h2:=ai9 hoj (hfree j oj hoj hji hjun hnot) (λcs b=>hsel i oi cs b hi) (λcs b=>hsel j oj cs b hoj) hl hQ hy h1
   have hset:∀k,(listed.setIfInBounds j true).getD k true=false→listed.getD k true=false:=λk hun=>by
    by_cases hjk:j=k
    ·subst hjk;exact hjun
    ·rwa[getD_set_ne true hjk]at hun
   refine vZ (λa' w' h3=>ih (listed.setIfInBounds j true) a' w' (hsh.set hj) (λk hk hun hkl=>hseal k hk (hset k hun) hkl)
    (λk ok hk hki' hun hno=>hfree k ok hk hki' (hset k hun) hno) (ready_mono hr (Ne.symm hji)) h3.1 ?_) h2
   rw[Array.setIfInBounds_comm _ _ hji]
   exact h3.2
theorem X3{listed:Array Bool}{i f:Nat}(hun:listed.getD i true=false)
  (h:∀l:List Nat,l.Nodup→(∀i∈l,listed.getD i true=false)→l.length≤f+1):
  ∀l:List Nat,l.Nodup→(∀j∈l,(listed.setIfInBounds i true).getD j true=false)→l.length≤f:=by
 intro l hn hl
 have hlt:i<listed.size:=by
  rcases Nat.lt_or_ge i listed.size with h'|h'
  ·exact h'
  ·simp[Array.getElem?_eq_none h']at hun
 have hne:∀j∈l,i≠j:=λj hj he=>by
  subst he
  have:=hl i hj
  simp[hlt]at this
 have:=h (i::l) (List.nodup_cons.2 ⟨λhi=>hne i hi rfl,hn⟩) (λj hj=>by
  rcases List.mem_cons.1 hj with rfl|hj
  ·exact hun
  ·have:=hl j hj;rwa[getD_set_ne true (hne j hj)]at this)
 simpa using this
mutual
theorem Yl{m:List Nat}(hsel:Region.noSelect ops=true)(hm:∀i j,(m.getD j 0).testBit i=true→Ahead ops i j)
  (hQ:∀(i:Nat)(o:Oper),ops[i]? = some o→∀(v:Value) c a w,Q (.panic c) (a.put o.dst v) w→Q (.panic c) a w):
  ∀(t:Tr)(fuel:Nat)(listed:Array Bool)(a:Act)(w:World),listed.size=ops.size→Shut ops listed→okT ops m kd t listed=true→chain ro P ops Q t a w→
   (∀l:List Nat,l.Nodup→(∀i∈l,listed.getD i true=false)→l.length≤fuel)→abT ro P ops Q kd fuel listed a w
 |.nil,fuel,listed,a,w,_,_,hok,h,_=>by
  have hr:Region.ready .any ops listed=[]:=by simpa [okT]using hok
  cases fuel with
  |zero=>exact ⟨hr,h⟩
  |succ f=>exact ⟨λ_=>h,λi hi=>by rw[hr]at hi;cases hi⟩
 |.op i k t,fuel,listed,a,w,hsz,hsh,hok,h,hfuel=>by
  simp only[okT,gba,beq_iff_eq]at hok
  obtain⟨⟨hkd,hk⟩,hok⟩:=hok
  have hmem:i∈Region.ready .any ops listed:=by
   cases k with
   |p=>simp only[gba]at hk;simpa using hk.1
   |q=>simp only[gba]at hk;simpa using hk.1.1
   |l=>simp only[beq_iff_eq]at hk;rw[hk];exact List.mem_cons_self
   |u=>simp only[beq_iff_eq]at hk;rw[hk];exact List.mem_cons_self
  have hun:listed.getD i true=false:=(mem_ready.1 hmem).1
  obtain⟨f,rfl⟩:∃f,fuel=f+1:=by
   have:=hfuel [i] (by simp) (by simpa using hun)
   exact⟨fuel-1,by simp at this;omega⟩
  have hfuel':=X3 hun hfuel
  have next:=λa' w' (hc:chain ro P ops Q t a' w')=>Yl hsel hm hQ t f (listed.setIfInBounds i true) a' w' (by simpa using hsz) (hsh.set hmem) hok hc hfuel'
  have loud:Region.ready .any ops listed=[i]→abT ro P ops Q kd (f+1) listed a w:=λhr=>
   ⟨λh0=>(by rw[hr]at h0;cases h0),λj hj=>by
    rw[hr,List.mem_singleton]at hj
    subst hj
    have h:stepC ro P ops Q kd j (chain ro P ops Q t) a w:=by unfold stepC;rw[hkd];exact h
    exact vZ next h⟩
  cases k with
  |l=>simp only[beq_iff_eq]at hk;exact loud hk
  |u=>simp only[beq_iff_eq]at hk;exact loud hk
  |p=>
   simp only[gba]at hk
   obtain⟨_,hf⟩:=hk
   simp only[chain,kC]at h
   cases ho:ops[i]? with
   |none=>simp only[ho]at h
   |some o=>
    simp only[ho]at h
    have hy:∃v,YieldsE P ops true o v a w∧chain ro P ops Q t (a.put o.dst v) w:=by
     by_cases hw:Region.wanted o (yielded ops a.tmps)=true
     ·simp only[hw,if_true]at h
      obtain⟨v,h1,h2⟩:=h
      exact⟨v,.inl ⟨hw,h1⟩,h2⟩
     ·simp only[hw]at h
      exact⟨u_,.inr ⟨by simpa using hw,rfl⟩,h⟩
    obtain⟨v,hy,hc⟩:=hy
    exact acJ (b:=true) ho hkd (Region.noSelect_spec hsel) (hQ _ _ ho _) f listed a w hsh (λ_ _ _ _=>.inl rfl) (Region.free_spec ho hf) hmem hy (next _ _ hc)
  |q=>
   simp only[gba]at hk
   obtain⟨⟨_,hf⟩,hall⟩:=hk
   simp only[chain,kC]at h
   cases ho:ops[i]? with
   |none=>simp only[ho]at h
   |some o=>
    simp only[ho]at h
    have hy:∃v,YieldsE P ops false o v a w∧chain ro P ops Q t (a.put o.dst v) w:=by
     by_cases hw:Region.wanted o (yielded ops a.tmps)=true
     ·simp only[hw,if_true]at h
      obtain⟨v,h1,h2⟩:=h
      exact⟨v,.inl ⟨hw,h1⟩,h2⟩
     ·simp only[hw]at h
      exact⟨u_,.inr ⟨by simpa using hw,rfl⟩,h⟩
    obtain⟨v,hy,hc⟩:=hy
    refine acJ (b:=false) ho hkd (Region.noSelect_spec hsel) (hQ _ _ ho _) f listed a w hsh ?_ (Region.free_spec ho hf) hmem hy (next _ _ hc)
    intro j hj hunj hkj
    have hlt:j<ops.size:=by
     rcases Nat.lt_or_ge j listed.size with h'|h'
     ·rw[hsz]at h';exact h'
     ·simp[Array.getElem?_eq_none h']at hunj
    have:=List.all_eq_true.1 hall j (List.mem_range.2 hlt)
    simp only[hunj,hkj,Bool.or_false,Bool.or_eq_true,beq_iff_eq,hj,false_or,beq_self_eq_true,Bool.not_true]at this
    exact .inr (hm i j (by simpa using this))
 |.alt i k t r,fuel,listed,a,w,hsz,hsh,hok,h,hfuel=>by
  simp only[okT,gba,beq_iff_eq]at hok
  obtain⟨⟨⟨⟨hkd,_⟩,_⟩,hb⟩,hok⟩:=hok
  cases hr:Region.ready .any ops listed with
  |nil=>rw [hr]at hb;cases hb
  |cons x rs=>
   rw[hr]at hb
   simp only[gba,beq_iff_eq]at hb
   obtain⟨rfl,hb⟩:=hb
   have hmem:x∈Region.ready .any ops listed:=by rw[hr];exact List.mem_cons_self
   have hun:listed.getD x true=false:=(mem_ready.1 hmem).1
   obtain⟨f,rfl⟩:∃f,fuel=f+1:=by
    have:=hfuel [x] (by simp) (by simpa using hun)
    exact⟨fuel-1,by simp at this;omega⟩
   refine⟨λh0=>(by rw[hr]at h0;cases h0),λj hj=>?_⟩
   rw[hr]at hj
   rcases List.mem_cons.1 hj with rfl|hj
   ·have h1:stepC ro P ops Q kd j (chain ro P ops Q t) a w:=by unfold stepC;rw[hkd];exact h.1
    exact vZ (λa' w' hc=>Yl hsel hm hQ t f (listed.setIfInBounds j true) a' w' (by simpa using hsz) (hsh.set hmem) hok hc (X3 hun hfuel)) h1
   ·exact branch_any hsel hm hQ r f listed rs a w hsz hsh (λy hy=>by rw[hr];exact List.mem_cons_of_mem _ hy) hb h.2 hfuel j hj
theorem branch_any{m:List Nat}(hsel:Region.noSelect ops=true)(hm:∀i j,(m.getD j 0).testBit i=true→Ahead ops i j)
  (hQ:∀(i:Nat)(o:Oper),ops[i]? = some o→∀(v:Value) c a w,Q (.panic c) (a.put o.dst v) w→Q (.panic c) a w):
  ∀(t:Tr)(f:Nat)(listed:Array Bool)(rs:List Nat)(a:Act)(w:World),listed.size=ops.size→Shut ops listed→(∀y∈rs,y∈Region.ready .any ops listed)→okB ops m kd t listed rs=true→chain ro P ops Q t a w→
   (∀l:List Nat,l.Nodup→(∀i∈l,listed.getD i true=false)→l.length≤f+1)→∀j∈rs,stepC ro P ops Q kd j (abT ro P ops Q kd f (listed.setIfInBounds j true)) a w
 |.nil,_,_,_,_,_,_,_,_,hok,_,_=>by cases hok
 |.op i k t,f,listed,rs,a,w,hsz,hsh,hrs,hok,h,hfuel=>by
  simp only[okB,gba,beq_iff_eq]at hok
  obtain⟨⟨⟨⟨hkd,_⟩,_⟩,rfl⟩,hok⟩:=hok
  intro j hj
  rw[List.mem_singleton]at hj
  subst hj
  have hmem:=hrs j List.mem_cons_self
  have h1:stepC ro P ops Q kd j (chain ro P ops Q t) a w:=by unfold stepC;rw[hkd];exact h
  exact vZ (λa' w' hc=>Yl hsel hm hQ t f (listed.setIfInBounds j true) a' w' (by simpa using hsz) (hsh.set hmem) hok hc (X3 (mem_ready.1 hmem).1 hfuel)) h1
 |.alt i k t r,f,listed,rs,a,w,hsz,hsh,hrs,hok,h,hfuel=>by
  simp only[okB,gba,beq_iff_eq]at hok
  obtain⟨⟨⟨⟨hkd,_⟩,_⟩,hb⟩,hok⟩:=hok
  cases rs with
  |nil=>cases hb
  |cons x rs=>
   simp only[gba,beq_iff_eq]at hb
   obtain⟨rfl,hb⟩:=hb
   have hmem:=hrs x List.mem_cons_self
   intro j hj
   rcases List.mem_cons.1 hj with rfl|hj
   ·have h1:stepC ro P ops Q kd j (chain ro P ops Q t) a w:=by unfold stepC;rw[hkd];exact h.1
    exact vZ (λa' w' hc=>Yl hsel hm hQ t f (listed.setIfInBounds j true) a' w' (by simpa using hsz) (hsh.set hmem) hok hc (X3 (mem_ready.1 hmem).1 hfuel)) h1
   ·exact branch_any hsel hm hQ r f listed rs a w hsz hsh (λy hy=>hrs y (List.mem_cons_of_mem _ hy)) hb h.2 hfuel j hj
end
end
def acK(l:List (Nat×yA))(i:Nat):yA:=match l.find? (λx=>x.1 == i) with|some x=>x.2|none=>.p
theorem aeJ:∀(n:Nat)(l:List Nat),l.Nodup→(∀i∈l,i<n)→l.length≤n
 |0,l,_,h=>by
  cases l with
  |nil=>simp
  |cons a l=>exact absurd (h a List.mem_cons_self) (by omega)
 |n+1,l,hn,h=>by
  have h1:=aeJ n (l.erase n) (hn.erase n) λi hi=>by
   have h2:=(hn.mem_erase_iff).1 hi
   have:=h i h2.2
   have:=h2.1
   omega
  by_cases hm:n∈l
  ·rw[List.length_erase_of_mem hm]at h1;omega
  ·rw[List.erase_of_not_mem hm]at h1;omega
def VJ(ops:Array Oper)(t:Tr):Bool:=
 jy ops&&Region.noSelect ops&&okT ops (acG ops.toList []) (acK t.pairs) t (Array.replicate ops.size false)
theorem ain{ro:Option Nat}{P:Program}{id:Nat}{ops:Array Oper}{Q:Exit→Act→World→Prop}{a:Act}{w:World}{t:Tr}
  (hm:P.follows .mixedOrders=true) (hQ:∀(i:Nat)(o:Oper),ops[i]? = some o→∀(v:Value) c a w,Q (.panic c) (a.put o.dst v) w→Q (.panic c) a w)
  (hl:VJ ops t=true) (h:chain ro P ops Q t a w.drew):(Code.region id ops true).wpIn (FW ro) 0 P Q a w:=by
 simp only[VJ,gba]at hl
 obtain⟨⟨hd,hs⟩,ho⟩:=hl
 refine wpIn_region_any hm (Ve (kd:=acK t.pairs) hd _ _ _ _ ?_)
 refine Yl (ro:=ro) (P:=P) (kd:=acK t.pairs) hs (acI ops.toList [] (by simp) (by simp)) hQ t _ (Array.replicate ops.size false) a w.drew (by simp)
  (λj o _ hj=>by
   exfalso
   rcases Nat.lt_or_ge j ops.size with h'|h'<;>simp [h']at hj) ho h ?_
 intro l hn hl
 refine aeJ _ l hn λi hi=>?_
 have:=hl i hi
 rcases Nat.lt_or_ge i ops.size with h'|h'
 ·exact h'
 ·simp[h']at this
structure Hid(p:Prop):Prop where
 out:p
theorem gg_{P Q:Prop}(p:P)(h:Hid P→Q:=by
  intro hp9
  (repeat (first|((with_reducible refine p_id ?_);first|refine s_p ?_|refine s_c (by omega) ?_)|((with_reducible refine q_id ?_);first|refine S.ld ?_|refine S.ldB ?_|refine S.ce ?_|refine S.ceB ?_|refine s_q ?_|refine s_qc (by omega) ?_)|with_reducible refine n_some ?_|rw [gdz]|rw [gds]))
  exact hp9.out):Q:=h ⟨p⟩
theorem gd_{P Q:Prop}(p:P)(h:Hid P→Q:=by
  intro hp9
  (repeat (first|(first|((with_reducible refine p_id ?_);first|refine s_p ?_|refine s_c (by omega) ?_)|((with_reducible refine q_id ?_);first|refine S.ld ?_|refine S.ldB ?_|refine S.ce ?_|refine S.ceB ?_|refine s_q ?_|refine s_qc (by omega) ?_)|with_reducible refine n_some ?_|rw [gdz]|rw [gds])|with_reducible refine g_TT ?_|with_reducible refine g_FF ?_|with_reducible refine g_TF ?_|with_reducible refine g_FT ?_|with_reducible refine g_UU ?_|with_reducible refine k_pickT ?_|with_reducible refine k_pickF ?_))
  exact hp9.out):Q:=h ⟨p⟩
theorem gp_{P Q:Prop}(p:P)(h:Hid P→Q:=by
  intro hp9
  ((with_reducible refine p_id ?_);first|refine s_p ?_|refine s_c (by omega) ?_)
  exact hp9.out):Q:=h ⟨p⟩
theorem gP_{P Q:Prop}(p:P)(h:Hid P→Q:=by
  intro hp9
  (first|refine s_p ?_|refine s_c (by omega) ?_)
  exact hp9.out):Q:=h ⟨p⟩
theorem gS_{P Q:Prop}(p:P)(h:Hid P→Q:=by
  intro hp9
  (repeat (first|refine s_p ?_|refine s_c (by omega) ?_))
  exact hp9.out):Q:=h ⟨p⟩
theorem gL_{P Q:Prop}(p:P)(h:Hid P→Q:=by
  intro hp9
  (first|refine S.ld ?_|refine S.ldB ?_|refine S.ce ?_|refine S.ceB ?_)
  exact hp9.out):Q:=h ⟨p⟩
theorem gG_{P Q:Prop}(p:P)(h:Hid P→Q:=by
  intro hp9
  (repeat (first|refine s_p ?_|refine s_c (by omega) ?_|refine S.ld ?_|refine S.ldB ?_|refine S.ce ?_|refine S.ceB ?_|refine s_q ?_|refine s_qc (by omega) ?_|refine n_some ?_|rw [gdz]|rw [gds]))
  exact hp9.out):Q:=h ⟨p⟩
theorem gD_{P Q:Prop}(p:P)(h:Hid P→Q:=by
  intro hp9
  (repeat (first|(first|refine s_p ?_|refine s_c (by omega) ?_|refine S.ld ?_|refine S.ldB ?_|refine S.ce ?_|refine S.ceB ?_|refine s_q ?_|refine s_qc (by omega) ?_|refine n_some ?_|rw [gdz]|rw [gds])|refine g_TT ?_|refine g_FF ?_|refine g_TF ?_|refine g_FT ?_|refine g_UU ?_|refine k_pickT ?_|refine k_pickF ?_))
  exact hp9.out):Q:=h ⟨p⟩
end
section
abbrev Env:=List Value
def ev(e:Env):Operand→Value
 |.tmp t=>e.getD t u_
 |.const v=>v
 |.global g=>.pointer (some ⟨g,0,none⟩)
 |.func f=>.func (.func f) #[] #[]
def st(e:Env)(d:Option Nat)(v:Value):Env:=match d with|some d=>e.set d v|none=>e
def act(e:Env)(ds:List Deferred):Act:=⟨e.toArray,ds⟩
theorem Xj(e:Env)(ds:List Deferred):(act e ds).eval=ev e:=by
 funext x
 cases x<;>simp [act,ev,Act.eval]
theorem aaS(e:Env)(ds:List Deferred)(d:Option Nat)(v:Value):(act e ds).put d v=act (st e d v) ds:=by
 cases d<;>simp [act,st,Act.put]
def Rd(P:Program)(w:World)(s:Sem Value)(v:Value):Prop:=∀w',Ext w w'→s.run P w'=.ok v w'
def opQ(P:Program)(w:World)(s:Sem Value)(K:Value→Prop):Prop:=∃v,Rd P w s v∧K v
def opW(P:Program)(w:World)(s:Sem Value)(K:Value→World→Prop):Prop:=∃v w',s.run P w=.ok v w'∧K v w'
def opU(P:Program)(w:World)(s:Sem Unit)(K:World→Prop):Prop:=∃w',s.run P w=.ok () w'∧K w'
def zb(c x y:Value)(K:Value→Prop):Prop:=∃b,c=.bool b∧K (if b then x else y)
def akd:Value→Bool
 |.pointer none|.nilIface|.nilFunc=>false
 |.func (.method _) _ _=>false
 |_=>true
def abU(x:Value)(K:Value→Prop):Prop:=akd x=true∧K x
def eqG(op:BinOp)(t:TypeId)(c:Bool)(a b:Value):Sem Unit:=do
 if !(op matches .eql|.neq)then return
 match a,b with
 |.nilIface,.nilIface=>
  if c then return
  if ← Op.eqGuardIn Op.maxDepth t a b then unsupported (.noEntry "binop/eql: two nil values of an interface type with methods, neither of them the literal nil")
 |.agg _,.agg _=>
  if !(← program).eqGuardType (← program).depth t then return
  if ← Op.eqGuardIn Op.maxDepth t a b then unsupported (.noEntry "binop/eql: two nil values of an interface type with methods, in a part of a struct or an array")
 |_,_=>pure ()
def isC:Operand→Bool
 |.const _=>true
 |_=>false
theorem aja(op:BinOp)(t:TypeId)(x y:Operand)(a b:Value):eqGuard op t x y a b=eqG op t (isC x||isC y) a b:=by
 unfold eqGuard eqG
 have h:∀x y:Operand,((x matches .const _)||(y matches .const _))=(isC x||isC y):=by
  intro x y;cases x<;>cases y<;>rfl
 cases op<;>first|rfl|(cases a<;>first|rfl|(cases b<;>first|rfl|(simp only[← h])))
def yR(op:BinOp)(t:TypeId)(c:Bool)(a b:Value):Sem Value:=do eqG op t c a b;binOp op t a b
def opP(P:Program)(s:Sem Value)(K:Value→Prop):Prop:=∃v,(∀w,s.run P w=.ok v w)∧K v
def X4(R:Sem Value→(Value→Prop)→Prop)(o:Oper)(e:Env)(K:Env→Prop):Prop:=
 match o.op with
 |.move x|.assign x=>K (st e o.dst (ev e x))
 |.pick c a b=>zb (ev e c) (ev e a) (ev e b) λv=>K (st e o.dst v)
 |.nilCheck x=>abU (ev e x) λv=>K (st e o.dst v)
 |.load t a=>R (Instr.loadAt t (ev e a)) λv=>K (st e o.dst v)
 |.binOp op t x y _=>R (yR op t (isC x||isC y) (ev e x) (ev e y)) λv=>K (st e o.dst v)
 |.unOp op _ x=>R (Op.unary op (ev e x)) λv=>K (st e o.dst v)
 |.convert s d x=>R (convert s d (ev e x)) λv=>K (st e o.dst v)
 |.fieldAddr s x f=>R (Instr.fieldAt s (ev e x) f) λv=>K (st e o.dst v)
 |.field t x f=>R (Instr.field t (ev e x) f) λv=>K (st e o.dst v)
 |.indexAddr t x i=>R (Instr.indexAt t (ev e x) (ev e i)) λv=>K (st e o.dst v)
 |.index t x i=>R (Instr.index t (ev e x) (ev e i)) λv=>K (st e o.dst v)
 |.slice t x lo hi mx=>R (Instr.sliceAt t (ev e x) (lo.map (ev e)) (hi.map (ev e)) (mx.map (ev e))) λv=>K (st e o.dst v)
 |.extract x i=>R (Instr.extract (ev e x) i) λv=>K (st e o.dst v)
 |.build t parts=>R (Instr.build t (parts.map λ(i,x)=>(i,ev e x))) λv=>K (st e o.dst v)
 |.makeFunc fn first captured=>R (Instr.makeFunc fn (first.map (ev e)) (captured.map (ev e))) λv=>K (st e o.dst v)
 |.makeInterface t x=>R (Instr.makeInterface t (ev e x)) λv=>K (st e o.dst v)
 |.typeAssert x t u ok=>R (Instr.typeAssert (ev e x) t u ok) λv=>K (st e o.dst v)
 |.lookup t x i ok=>R (Instr.lookup t (ev e x) (ev e i) ok) λv=>K (st e o.dst v)
 |.call c=>match c.callee with
  |.builtin .len=>R (Builtin.len_ c.argTypes o.type (c.args.map (ev e))) λv=>K (st e o.dst v)
  |.builtin .cap=>R (Builtin.cap_ c.argTypes o.type (c.args.map (ev e))) λv=>K (st e o.dst v)
  |.builtin .min=>R (Builtin.min_ c.argTypes o.type (c.args.map (ev e))) λv=>K (st e o.dst v)
  |.builtin .max=>R (Builtin.max_ c.argTypes o.type (c.args.map (ev e))) λv=>K (st e o.dst v)
  |_=>False
 |_=>False
def zd(P:Program)(f:FuncId)(args:Array Value)(w:World)(K:Value→World→Prop):Prop:=
 Calls P f args w λe w'=>∃v,e=.returned v∧K v w'
def acL(P:Program)(f:FuncId)(args:Array Value)(w:World)(K:Value→World→Prop)(Kp:List PanicEntry→World→Prop):Prop:=
 Calls P f args w fun
  |.returned v,w'=>K v w'
  |.panicked c,w'=>Kp c w'
  |.outgrown,_=>False
def xr(P:Program)(f:FuncId):Bool:=
 match P.funcs[f]? with
 | some fn => !(fn.name == "runtime.NumGoroutine") && fn.body.isSome
 |none=>false
def ajb(P:Program)(l:Nat)(args:Array Value)(w:World)(R:Ending→World→Prop):Prop:=
 ∃fn tmps assign body,(Instr.yield l args).run P w=.ok (.round l fn tmps assign body) w∧RoundIn (FW none) 0 P l fn tmps assign body w R
def zF(P:Program)(f:Value)(args:Array Value)(w:World)(K:Value→World→Prop):Prop:=
 match f with
 |.func (.func f) first cap=>xr P f=true∧zd P f (first++args++cap) w K
 |.func (.yield l) first _=>ajb P l (first++args) w λe w'=>∃v,e=.returned v∧K v w'
 |_=>False
def ahR(P:Program)(f:Value)(args:Array Value)(w:World)(K:Value→World→Prop)(Kp:List PanicEntry→World→Prop):Prop:=
 match f with
 |.func (.func f) first cap=>xr P f=true∧acL P f (first++args++cap) w K Kp
 |_=>False
def Obj.isBook:Obj→Bool
 |.deferred _=>true
 |.loop _=>true
 |_=>false
def NC(w w':World):Prop:=w.heap.size≤w'.heap.size∧∀(b:Nat)(o:Obj),w.heap[b]? = some o→Obj.isBook o=true→w'.heap[b]? = some o
structure Cf where
 marks:Bool
 pan:Bool
def kw(m:Bool)(w:World)(K:Value→World→Prop):Value→World→Prop:=
 match m with
 |true=>λv w'=>NC w w'∧K v w'
 |false=>K
def X5(cf:Cf)(P:Program)(Kp:List PanicEntry→World→Prop)(o:Oper)(e:Env)(w:World)(K:Value→World→Prop):Prop:=
 match o.op with
 |.store t a x=>opU P w (Instr.storeAt t (ev e a) (ev e x)) (kw cf.marks w K u_)
 |.mapUpdate t m k x|.insert t m k x=>opU P w (Instr.mapUpdate t (ev e m) (ev e k) (ev e x)) (kw cf.marks w K u_)
 |.box elem x=>opW P w (Instr.box elem (ev e x)) (kw cf.marks w K)
 |.alloc elem=>opW P w (Instr.alloc elem true (.tuple #[])) (kw cf.marks w K)
 |.buildSlice t len parts=>opW P w (Instr.buildSlice t len (parts.map λ(i,x)=>(i,ev e x))) (kw cf.marks w K)
 |.makeMap t r=>opW P w (Instr.makeMap t (r.map (ev e))) (kw cf.marks w K)
 |.mapEntry t m k=>opW P w (Instr.mapEntry t (ev e m) (ev e k)) (kw cf.marks w K)
 |.entryStore t m s x=>opU P w (Instr.entryStore t (ev e m) (ev e s) (ev e x)) (kw cf.marks w K u_)
 |.lookup t m k ok=>opW P w (Instr.lookup t (ev e m) (ev e k) ok) (kw cf.marks w K)
 |.makeSlice t l c=>opW P w (Instr.makeSlice t (ev e l) (ev e c)) (kw cf.marks w K)
 |.convert s d x=>opW P w (convert s d (ev e x)) (kw cf.marks w K)
 |.range t x=>opW P w (Instr.range t (ev e x)) (kw cf.marks w K)
 |.next it s=>opW P w (Instr.next (ev e it) s o.type) (kw cf.marks w K)
 |.entry it=>opW P w (Instr.entry (ev e it)) (kw cf.marks w K)
 |.binOp op t x y _=>opW P w (yR op t (isC x||isC y) (ev e x) (ev e y)) (kw cf.marks w K)
 |.load t a=>opW P w (Instr.loadAt t (ev e a)) (kw cf.marks w K)
 |.panic x=>match cf.pan with
  |true=>∃v w',(Instr.panic (ev e x)).run P w=.halt (.panic v) w'∧(cf.marks=true→NC w w')∧Kp [{ v,recovered:=false }] w'
  |false=>False
 |.call c=>match c.callee with
  |.builtin .append=>opW P w (Builtin.append_ c.argTypes o.type (c.args.map (ev e))) (kw cf.marks w K)
  |.builtin .copy=>opW P w (Builtin.copy_ c.argTypes o.type (c.args.map (ev e))) (kw cf.marks w K)
  |.builtin .delete=>opW P w (Builtin.delete_ c.argTypes o.type (c.args.map (ev e))) (kw cf.marks w K)
  |.builtin .clear=>opW P w (Builtin.clear_ c.argTypes o.type (c.args.map (ev e))) (kw cf.marks w K)
  |.builtin .unsafeString=>opW P w (Builtin.unsafeString_ c.argTypes o.type (c.args.map (ev e))) (kw cf.marks w K)
  |.value (.func f)=>match cf.pan with
   |true=>acL P f (c.args.map (ev e)) w (kw cf.marks w K) (λc' w'=>(cf.marks=true→NC w w')∧Kp c' w')
   |false=>zd P f (c.args.map (ev e)) w (kw cf.marks w K)
  |.value f=>match cf.pan with
   |true=>ahR P (ev e f) (c.args.map (ev e)) w (kw cf.marks w K) (λc' w'=>(cf.marks=true→NC w w')∧Kp c' w')
   |false=>zF P (ev e f) (c.args.map (ev e)) w (kw cf.marks w K)
  |_=>False
 |_=>False
def adR(P:Program)(o:Oper)(k:yA):Bool:=
 match k,o.op with
 |.p,_=>true
 |.q,_=>true
 |_,.call c=>match c.callee with
  |.value (.func f)=>xr P f
  |_=>true
 |_,_=>true
inductive RI where
 |nil
 |op (i:Nat) (k:yA) (t:RI)
 |grp (v:Nat) (want:Bool) (its:List (Nat×yA)) (live:List Nat) (t:RI)
 |alt (i:Nat) (k:yA) (t r:RI)
 |bth (a b:RI)
inductive Ann where
 |n
 |r (its:RI)
 |s (a b:Ann)
 |j (live:List Nat) (a b:Ann)
 |c (a b:Ann)
 |b (a:Ann)
 |lp (live:List Nat) (a:Ann)
 |rf (ids:List Nat) (a b:Ann)
def idx:List Nat→Nat→Nat→Option Nat
 |[],_,_=>none
 |a::l,t,k=>match Nat.beq a t with|true=>some k|false=>idx l t (k+1)
def has:List Nat→Nat→Bool
 |[],_=>false
 |a::l,t=>match Nat.beq a t with|true=>true|false=>has l t
def mix(ws live:List Nat)(s d:List Value):Env→Nat→Env
 |[],_=>[]
 |v::r,t=>(match idx live t 0 with|some k=>s.getD k u_|none=>match has ws t with|true=>d.getD t u_|false=>v)::mix ws live s d r (t+1)
def za(X:(List Value→World→Prop)→Prop)(Y:List Value→List Value→World→Prop):Prop:=
 ∀K:List Value→World→Prop,(∀s w,(∀d,Y s d w)→K s w)→X K
def zo(init:List Value)(w:World)(body:List Value→List Value→World→(List Value→World→Prop)→Prop):Prop:=
 ∃(ι:Type)(f:ι→List Value)(I:ι→World→Prop)(μ:ι→Nat)(i₀:ι),init=f i₀∧I i₀ w∧
  ∀i d w',I i w'→body (f i) d w' λl w''=>∃i',l=f i'∧I i' w''∧μ i'<μ i
def gIf(v:Value)(want:Bool)(A B:Prop):Prop:=
 match v with
 |.bool b=>if b=want then A else B
 |_=>B
def zc(v:Value)(A B:Prop):Prop:=
 match v with
 |.bool true=>A
 |.bool false=>B
 |_=>False
structure ExtBut(S:Nat→Prop)(w w':World):Prop where
 os:w'.os=w.os
 tape:w'.tape=w.tape
 output:w'.output=w.output
 size:w.heap.size≤w'.heap.size
 block:∀k,k<w.heap.size→¬S k→w'.heap[k]? = w.heap[k]?
structure Nl(n:Nat)(w w':World):Prop where
 os:w'.os=w.os
 tape:w'.tape=w.tape
 output:w'.output=w.output
 size:w.heap.size≤w'.heap.size
 block:∀(k:Nat)(o:Obj),w.heap[k]? = some o→(k<n∨Obj.isBook o=false)→w'.heap[k]? = some o
def amT(P:Program)(g:Value)(w:World)(xs:List (List Value))(D0:Nat→Prop):Prop:=
 ∃gf cap,g=.func (.func gf) #[] cap∧xr P gf=true∧
  ∀(l:Nat)(W:World)(J:Nat→(Nat→Prop)→World→Prop)(Jx:World→Prop),Ext w W→w.heap.size≤l→l<W.heap.size→
   (∀k D W1 W2,J k D W1→Ext W1 W2→J k D W2)→(∀W1 W2,Jx W1→Ext W1 W2→Jx W2)→
   (∀k x D W1,xs[k]? = some x→J k D W1→ajb P l x.toArray W1 λe W2=>
    ∃b,e=.returned (.bool b)∧ExtBut (λb=>D b∨b=l) W1 W2∧if b then∃D2:Nat→Prop,(∀d,D2 d→D d∨(W1.heap.size≤d∧d<W2.heap.size))∧J (k+1) D2 W2 else Jx W2)→
   J 0 D0 W→Calls P gf (#[.func (.yield l) #[] #[]]++cap) W λe W'=>(∃v,e=.returned v)∧((∃D,J xs.length D W')∨Jx W')
def rj(J:Nat→(Nat→Prop)→World→Prop)(Jx:Exit→World→Prop)(k:Nat)(D:Nat→Prop)(n:Nat):Exit→World→Prop
 |.normal,w=>∃D2:Nat→Prop,(∀d,D2 d→D d∨(n≤d∧d<w.heap.size))∧J (k+1) D2 w
 |.panic _,_=>False
 |.outgrown,_=>False
 |e,w=>Jx e w
def ajc(P:Program)(n:Nat)(g:Value)(w:World)(round:List Value→World→(Nat→Prop)→(Exit→World→Prop)→Prop)(Kn Kr:World→Prop)(Kx:List (Nat×(World→Prop))):Prop:=
 ∃(xs:List (List Value))(D0:Nat→Prop)(J:Nat→(Nat→Prop)→World→Prop)(Jx:Exit→World→Prop),
  (∀b,D0 b→∃o,w.heap[b]? = some o∧Obj.isBook o=false)∧amT P g w xs D0∧(∀x∈xs,x.length=n)∧
  (∀k D W W',J k D W→Nl w.heap.size W W'→J k D W')∧(∀e W W',Jx e W→Nl w.heap.size W W'→Jx e W')∧J 0 D0 w∧
  (∀k x D W,xs[k]? = some x→J k D W→round x W D λe W2=>rj J Jx k D W.heap.size e W2)∧
  (∀D W,J xs.length D W→Kn W)∧(∀W,Jx .ret W→Kr W)∧(∀id W,Jx (.exit id) W→∃K,(id,K)∈Kx∧K W)∧(∀l W,¬Jx (.goto l) W)
def abV:List Nat→List Value→Nat→Env→Env
 |[],_,_,e=>e
 |p::ps,x,k,e=>abV ps x (k+1) (e.set p (x.getD k u_))
def yM(ops:Array Oper):List (Nat×yA)→List Nat
 |[]=>[]
 |(i,_)::r=>match ops[i]? with
  |some o=>(match o.dst with|some d=>d::yM ops r|none=>yM ops r)
  |none=>yM ops r
def wrR(ops:Array Oper):List Nat:=ops.toList.filterMap (·.dst)
def wr:Code→List Nat
 |.region _ ops _=>wrR ops
 |.seq a b|.cond _ a b=>wr a++wr b
 |.block _ a|.loop a|.scope a=>wr a
 |_=>[]
def VK(cf:Cf)(P:Program)(Kp:List PanicEntry→World→Prop)(ops:Array Oper):List (Nat×yA)→Env→World→(Env→World→Prop)→Prop
 |[],e,w,K=>K e w
 |(i,k)::r,e,w,K=>match ops[i]? with
  |none=>False
  |some o=>match k with
   |.p=>X4 (opP P) o e λe'=>VK cf P Kp ops r e' w K
   |.q=>X4 (opQ P w) o e λe'=>VK cf P Kp ops r e' w K
   |.l=>X5 cf P Kp o e w λv w'=>VK cf P Kp ops r (st e o.dst v) w' K
   |.u=>X5 cf P Kp o e w λv w'=>Ext w w'∧VK cf P Kp ops r (st e o.dst v) w' K
def adS(ops:Array Oper):List (Nat×yA)→Env→Env
 |[],e=>e
 |(i,_)::r,e=>match ops[i]? with
  |none=>e
  |some o=>adS ops r (st e o.dst u_)
def af1(cf:Cf)(P:Program)(Kp:List PanicEntry→World→Prop)(ops:Array Oper)(i:Nat)(k:yA)(e:Env)(w:World)(K:Env→World→Prop):Prop:=
 match ops[i]? with
 |none=>False
 |some o=>match k with
  |.p=>X4 (opP P) o e λe'=>K e' w
  |.q=>X4 (opQ P w) o e λe'=>K e' w
  |.l=>X5 cf P Kp o e w λv w'=>K (st e o.dst v) w'
  |.u=>X5 cf P Kp o e w λv w'=>Ext w w'∧K (st e o.dst v) w'
def rsw(cf:Cf)(P:Program)(Kp:List PanicEntry→World→Prop)(ops:Array Oper):RI→Env→World→(Env→World→Prop)→Prop
 |.nil,e,w,K=>K e w
 |.op i k t,e,w,K=>af1 cf P Kp ops i k e w λe' w'=>rsw cf P Kp ops t e' w' K
 |.grp v want its live t,e,w,K=>
  za (λK'=>gIf (e.getD v u_) want (VK cf P Kp ops its e w λe' w'=>K' (live.map λt=>e'.getD t u_) w')
    (K' (live.map λt=>(adS ops its e).getD t u_) w))
   (λs d w'=>rsw cf P Kp ops t (mix (yM ops its) live s d e 0) w' K)
 |.alt i k t r,e,w,K=>af1 cf P Kp ops i k e w (λe' w'=>rsw cf P Kp ops t e' w' K)∧rsw cf P Kp ops r e w K
 |.bth a b,e,w,K=>rsw cf P Kp ops a e w K∧rsw cf P Kp ops b e w K
def alX:Tr→Tr→Tr
 |.op i k t,r=>.alt i k t r
 |t,_=>t
def vk:RI→Tr
 |.bth a b=>alX (vk a) (vk b)
 |.nil=>.nil
 |.op i k t=>.op i k (vk t)
 |.grp _ _ its _ t=>pre its (vk t)
 |.alt i k t r=>.alt i k (vk t) (vk r)
def ald(d:Bool)(w:World):World:=match d with|true=>w.drew|false=>w
def sw(cf:Cf)(P:Program)(Kp:List PanicEntry→World→Prop):Ann→Code→Env→World→(Exit→Env→World→Prop)→Prop
 |.r its,.region _ ops draw,e,w,Q=>rsw cf P Kp ops its e (ald draw w) (Q .normal)
 |.s A B,.seq a b,e,w,Q=>sw cf P Kp A a e w fun
  |.normal,e',w'=>sw cf P Kp B b e' w' Q
  |x,e',w'=>Q x e' w'
 |.j live A B,.seq a b,e,w,Q=>za (λK=>sw cf P Kp A a e w fun
   |.normal,e',w'=>K (live.map λt=>e'.getD t u_) w'
   |x,e',w'=>Q x e' w')
  (λs d w'=>sw cf P Kp B b (mix (wr a) live s d e 0) w' Q)
 |.c A B,.cond c a b,e,w,Q=>zc (ev e c) (sw cf P Kp A a e w Q) (sw cf P Kp B b e w Q)
 |.b A,.block id a,e,w,Q=>sw cf P Kp A a e w fun
  |.exit id',e',w'=>match Nat.beq id' id with|true=>Q .normal e' w'|false=>Q (.exit id') e' w'
  |x,e',w'=>Q x e' w'
 |.b A,.scope a,e,w,Q=>sw cf P Kp A a e w fun
  |.goto _,_,_=>False
  |x,e',w'=>Q x e' w'
 |.lp live A,.loop a,e,w,Q=>zo (live.map λt=>e.getD t u_) w λs d w' K=>sw cf P Kp A a (mix (wr a) live s d e 0) w' fun
  |.normal,e',w''=>K (live.map λt=>e'.getD t u_) w''
  |x,e',w''=>Q x e' w''
 |.rf ids A B,.rangeFunc g ps assign body,e,w,Q=>ajc P ps.size (ev e g) w
   (λx w1 S KR=>sw { cf with pan:=false } P (λ_ _=>False) A assign (abV ps.toList x 0 e) w1 fun
    |.normal,e2,w2=>Ext w1 w2∧∀w3,Nl w.heap.size w2 w3→sw { cf with pan:=false } P (λ_ _=>False) B body e2 w3 λy _ w4=>ExtBut S w3 w4∧KR y w4
    |_,_,_=>False)
   (λw'=>Q .normal e w') (λw'=>Q .ret e w') (ids.map λid=>(id,λw'=>Q (.exit id) e w'))
 |_,.skip,e,w,Q=>Q .normal e w
 |_,.label _,e,w,Q=>Q .normal e w
 |_,.exit id,e,w,Q=>Q (.exit id) e w
 |_,.ret,e,w,Q=>Q .ret e w
 |_,_,_,_,_=>False
def Ym(f:Func):Code:=f.body.getD .skip
structure Shuts(n:Nat)(w w':World):Prop where
 os:w'.os=w.os
 tape:w'.tape=w.tape
 output:w'.output=w.output
 size:w'.heap.size=w.heap.size
 block:∀(k:Nat),(k<n∨∀ds,w.heap[k]?≠some (.deferred ds))→w'.heap[k]? = w.heap[k]?
def zk(t:TypeId)(a:Value):Sem Value:=do loadVar t (← asAddr a)
def adT(P:Program)(w:World)(e:Env):List ResultVar→(List Value→Prop)→Prop
 |[],K=>K []
 |.tmp t::r,K=>adT P w e r λvs=>K (e.getD t u_::vs)
 |.cell a t::r,K=>opQ P w (zk t (e.getD a u_)) λv=>adT P w e r λvs=>K (v::vs)
def tup:List Value→Value
 |[v]=>v
 |vs=>.tuple vs.toArray
def ake(m:Bool)(P:Program)(f:Func)(n:Nat)(e:Env)(w:World)(K:Value→World→Prop):Prop:=
 match m with
 |false=>adT P w e f.results.toList λvs=>K (tup vs) w
 |true=>∀w',Shuts n w w'→adT P w' e f.results.toList λvs=>K (tup vs) w'
def akf(m:Bool)(P:Program)(f:Func)(w:World)(K:Value→World→Prop):Exit→Env→World→Prop
 |.normal,e,w'=>ake m P f w.heap.size e w' K
 |.ret,e,w'=>ake m P f w.heap.size e w' K
 |_,_,_=>False
def aio(P:Program)(ops:Array Oper)(i:Nat)(k:yA):Bool:=
 match ops[i]? with|some o=>o.guard.isNone&&adR P o k|none=>false
def jz(P:Program)(ops:Array Oper):RI→Bool
 |.nil=>true
 |.op i k t=>aio P ops i k&&jz P ops t
 |.grp v want its _ t=>
  its.all (λx=>match ops[x.1]? with
   |some o=>adR P o x.2&&(match o.guard with
    |some (j,b)=>b == want&&(match ops[j]? with|some oj=>oj.dst == some v|none=>false)
    |none=>false)
   |none=>false) && !has (yM ops its) v&&jz P ops t
 |.alt i k t r=>aio P ops i k&&jz P ops t&&jz P ops r
 |.bth a b=>jz P ops a&&jz P ops b
def af9(P:Program)(its:RI)(ops:Array Oper)(draw:Bool):Bool:=
 jz P ops its&&(match draw with
  |true=>VJ ops (vk its)
  |false=>jy ops&&(vk its).lin == some (List.range ops.size))
def chk(cf:Cf)(P:Program)(rd:Bool):Ann→Code→Bool
 |.r its,.region _ ops draw=>af9 P its ops draw
 |.s A B,.seq a b=>chk cf P rd A a&&chk cf P rd B b
 |.j _ A B,.seq a b=>chk cf P rd A a&&chk cf P rd B b
 |.c A B,.cond _ a b=>chk cf P rd A a&&chk cf P rd B b
 |.b A,.block _ a=>chk cf P rd A a
 |.b A,.scope a=>chk cf P rd A a
 |.lp _ A,.loop a=>chk cf P rd A a
 |.rf _ A B,.rangeFunc _ _ a b=>cf.marks&&chk { cf with pan:=false } P true A a&&chk { cf with pan:=false } P true B b
 |_,.skip=>true
 |_,.label _=>true
 |_,.exit _=>true
 |_,.ret=>true
 |_,_=>false
def alm(D0:List Deferred)(n:Nat)(ds:List Deferred)(w:World):Prop:=
 ∃rs:List Nat,ds=rs.map (λr=>{ target:=.collected r,args:=#[] })++D0∧rs.Nodup∧∀r∈rs,n≤r∧w.heap[r]? = some (.deferred (some []))
def MK(D0:List Deferred)(m:Bool)(ro:Option Nat)(n:Nat)(ds:List Deferred)(w:World):Prop:=
 match m with
 |false=>ds=D0
 |true=>match ro with
  |some l=>ds=[]∧∃r,w.heap[l]? = some (.loop r)
  |none=>n≤w.heap.size∧(∀d∈D0,∀k,d.target≠.collected k)∧alm D0 n ds w
theorem MK.nc{D0:List Deferred}{m:Bool}{ro:Option Nat}{n:Nat}{ds:List Deferred}{w w':World}(h:MK D0 m ro n ds w)(hn:m=true→NC w w'):MK D0 m ro n ds w':=by
 cases m with
 |false=>exact h
 |true=>
  have hn:=hn rfl
  cases ro with
  |some l=>obtain ⟨h1,r,h2⟩:=h;exact⟨h1,r,hn.2 _ _ h2 rfl⟩
  |none=>
   obtain⟨h0,hd,rs,h1,h2,h3⟩:=h
   exact⟨Nat.le_trans h0 hn.1,hd,rs,h1,h2,λr hr=>⟨(h3 r hr).1,hn.2 _ _ (h3 r hr).2 rfl⟩⟩
theorem NC.drew(w:World):NC w w.drew:=⟨Nat.le_refl _,λ_ _ h _=>h⟩
theorem ahS{m:Bool}{w w':World}{K:Value→World→Prop}{v:Value}(h:kw m w K v w'):(m=true→NC w w')∧K v w':=by
 cases m with
 |false=>exact ⟨λh=>(by cases h),h⟩
 |true=>exact ⟨λ_=>h.1,h.2⟩
def Ag(ws:List Nat)(e e':Env):Prop:=e'.length=e.length∧∀t,t∉ws→e'[t]? = e[t]?
theorem Ag.refl(ws:List Nat)(e:Env):Ag ws e e:=⟨rfl,λ_ _=>rfl⟩
theorem Ag.mono{ws ws':List Nat}{e e':Env}(h:Ag ws e e')(hs:∀t∈ws,t∈ws'):Ag ws' e e':=⟨h.1,λt ht=>h.2 t λh'=>ht (hs t h')⟩
theorem Ag.trans{ws:List Nat}{a b c:Env}(h:Ag ws a b)(k:Ag ws b c):Ag ws a c:=⟨k.1.trans h.1,λt ht=>(k.2 t ht).trans (h.2 t ht)⟩
theorem Ag.st{ws:List Nat}(e:Env){d:Option Nat}(v:Value)(h:∀t,d=some t→t∈ws):Ag ws e (st e d v):=by
 cases d with
 |none=>exact .refl _ _
 |some d=>
  refine⟨by simp[Sh.st],λt ht=>?_⟩
  have :d≠t:=λhe=>ht (he▸h d rfl)
  simp[Sh.st,List.getElem?_set_ne this]
theorem aga:∀(l:List Nat)(t j k:Nat),idx l t j=some k→∃i,k=j+i∧l[i]? = some t
 |[],_,_,_,h=>by cases h
 |a::l,t,j,k,h=>by
  simp only[idx]at h
  cases hb:Nat.beq a t with
  |true=>rw [hb]at h;cases h;exact⟨0,rfl,by simp[Nat.eq_of_beq_eq_true hb]⟩
  |false=>
   rw[hb]at h
   obtain⟨i,hi,hl⟩:=aga l t (j+1) k h
   exact⟨i+1,by omega,by simpa using hl⟩
theorem ZP:∀(l:List Nat)(t:Nat),has l t=true↔t∈l
 |[],t=>by simp[has]
 |a::l,t=>by
  simp only[has,List.mem_cons]
  cases hb:Nat.beq a t with
  |true=>simp [Nat.eq_of_beq_eq_true hb]
  |false=>
   have hne:¬t=a:=λh=>by rw[h]at hb;simp at hb
   simp[ZP l t,hne]
theorem ajd{ws live:List Nat}{e':Env}:∀(r r':Env)(t:Nat),r'.length=r.length→(∀i,i<r.length→r'[i]? = e'[t+i]?)→(∀i,t+i∉ws→r'[i]? = r[i]?)→
  mix ws live (live.map λt=>e'.getD t u_) e' r t=r'
 |[],r',_,hl,_,_=>by simpa [mix]using(List.length_eq_zero_iff.1 (by simpa using hl)).symm
 |v::r,r',t,hl,h1,h2=>by
  cases r' with
  |nil=>simp at hl
  |cons v' r'=>
   simp only[mix]
   have h0:some v'=e'[t]?:=by simpa using h1 0 (by simp)
   have hv:e'.getD t u_=v':=by rw[ggd,← h0];rfl
   congr 1
   ·cases hi:idx live t 0 with
    |some k=>
     obtain⟨i,hk,hl'⟩:=aga _ _ _ _ hi
     simp only[Nat.zero_add]at hk
     subst hk
     simp[ggd,List.getElem?_map,hl',← h0]
    |none=>
     simp only
     cases hh:has ws t with
     |true=>exact hv
     |false=>
      have hn:t∉ws:=λh=>by rw[(ZP ws t).2 h]at hh;cases hh
      have:=h2 0 (by simpa using hn)
      simpa using this.symm
   ·refine ajd r r' (t+1) (by simpa using hl) (λi hi=>?_) (λi hi=>?_)
    ·have:=h1 (i+1) (by simpa using hi)
     simpa [Nat.add_assoc,Nat.add_comm 1 i]using this
    ·have:=h2 (i+1) (by simpa [Nat.add_assoc,Nat.add_comm 1 i]using hi)
     simpa using this
theorem agb{ws live:List Nat}{e e':Env}(h:Ag ws e e'):mix ws live (live.map λt=>e'.getD t u_) e' e 0=e':=
 ajd e e' 0 h.1 (λi _=>by simp) (λi hi=>h.2 i (by simpa using hi))
section ops
variable {P:Program} {ro:Option Nat} {n0:Nat}
theorem aip{s:Sem Value}{w w':World}{v:Value}(h:s.run P w=.ok v w'):(do pure (Next.value (← s)):Sem Next).run P w=.ok (.value v) w':=by
 rw[Sem.run_bind,h];rfl
theorem amU{s:Sem Unit}{w w':World}(h:s.run P w=.ok () w'):(do s;pure Next.skip:Sem Next).run P w=.ok .skip w':=by
 rw[Sem.run_bind,h];rfl
theorem abl{G:World→Prop}{R:Sem Value→(Value→Prop)→Prop}(hR:∀s K,R s K→∃v,(∀w,G w→s.run P w=.ok v w)∧K v){o:Oper}{e:Env}{ds:List Deferred}{K:Env→Prop}(h:X4 R o e K):
  ∃v,(∀w,G w→(execOp (act e ds).eval o).run P w=.ok (.value v) w)∧K (st e o.dst v):=by
 obtain⟨dst,op,type,pos,after,guard⟩:=o
 rw[Xj]
 cases op<;>simp only[X4]at h<;>simp only[execOp]
 case move x=>exact ⟨_,λ_ _=>rfl,h⟩
 case assign x=>exact ⟨_,λ_ _=>rfl,h⟩
 case pick c a b=>
  obtain⟨t,hc,hk⟩:=h
  refine⟨_,λw' _=>?_,hk⟩
  rw[hc];cases t<;>rfl
 case nilCheck x=>
  obtain⟨hx,hk⟩:=h
  refine⟨_,λw' _=>?_,hk⟩
  revert hx
  cases ev e x with
  |pointer a=>cases a<;>first|(intro h;cases h;done)|(intro _;rfl)
  |func f _ _=>cases f<;>first|(intro h;cases h;done)|(intro _;rfl)
  |nilIface=>simp [akd]
  |nilFunc=>simp [akd]
  |_=>intro _;rfl
 case binOp op t x y yt=>
  obtain⟨v,hr,hk⟩:=hR _ _ h
  refine⟨v,λw' hw=>?_,hk⟩
  rw[aja]
  exact aip (hr w' hw)
 case call c=>
  obtain⟨cal,args,ats⟩:=c
  cases cal with
  |builtin b=>
   cases b<;>simp only at h<;>first|exact h.elim|skip
   all_goals
    obtain⟨v,hr,hk⟩:=hR _ _ h
    refine⟨v,λw' hw=>?_,hk⟩
    simp only[resolve,Sem.run_bind,Sem.run,pure,Result.andThen,invoke,builtin,hr w' hw]
  |_=>exact h.elim
 all_goals
  first
  |exact h.elim
  |(obtain⟨v,hr,hk⟩:=hR _ _ h;exact⟨v,λw' hw=>aip (hr w' hw),hk⟩)
theorem jm{f:FuncId}(h:xr P f=true)(args:Array Value)(w:World):(callFunc f args).run P w=.ok (.enter f args) w:=by
 unfold xr at h
 cases hf:P.funcs[f]? with
 |none=>rw [hf]at h;cases h
 |some fn=>
  rw[hf]at h
  simp only[gba,Bool.not_eq_true']at h
  have h1 : fn.name ≠ "runtime.NumGoroutine" := by simpa using h.1
  have hb:fn.body≠none:=by intro hb;rw[hb]at h;simp at h
  simp[callFunc,program,Sem.run_bind,Sem.run,pure,Result.andThen,hf,h1,hb]
theorem acM{o:Oper}{a:Act}{K:Act→World→Prop}{Q:Exit→Act→World→Prop}{f:FuncId}{args:Array Value}{w:World}
  (h:Calls P f args w fun
   |.returned v,w''=>K (a.put o.dst v) w''
   |.panicked c,w''=>Q (.panic c) a w''
   |.outgrown,_=>LetsOut Q):o.uponIn (FW ro) 0 P a K Q (.ok (.enter f args) w):=
 ⟨λh=>(by cases h),(callsIn_wide (n:=0)).2 h⟩
theorem abm{cf:Cf}{Kp:List PanicEntry→World→Prop}{o:Oper}{k:yA}{e:Env}{ds:List Deferred}{w:World}{K:Value→World→Prop}{K':Act→World→Prop}{Q:Exit→Act→World→Prop}
  (hk:k≠.q∧k≠.p) (hok:adR P o k=true) (h:X5 cf P Kp o e w K)
  (hK:∀v w',(cf.marks=true→NC w w')→K v w'→K' (act (st e o.dst v) ds) w') (hQ:∀c w',(cf.marks=true→NC w w')→Kp c w'→Q (.panic c) (act e ds) w'):
  o.uponIn (FW ro) 0 P (act e ds) K' Q ((execOp (act e ds).eval o).run P w):=by
 rw[Xj]
 have fin:∀v w',kw cf.marks w K v w'→K' ((act e ds).put o.dst v) w':=λv w' h=>by rw[aaS];exact hK v w' (ahS h).1 (ahS h).2
 obtain⟨dst,op,type,pos,after,guard⟩:=o
 have value:∀s:Sem Value,opW P w s (kw cf.marks w K)→Oper.uponIn (FW ro) 0 P ⟨dst,op,type,pos,after,guard⟩ (act e ds) K' Q ((do pure (Next.value (← s)):Sem Next).run P w):=by
  rintro s ⟨v,w',hr,hk⟩
  rw[aip hr];exact fin v w' hk
 have unit:∀s:Sem Unit,opU P w s (kw cf.marks w K u_)→Oper.uponIn (FW ro) 0 P ⟨dst,op,type,pos,after,guard⟩ (act e ds) K' Q ((do s;pure Next.skip:Sem Next).run P w):=by
  rintro s ⟨w',hr,hk⟩
  rw[amU hr];exact fin u_ w' hk
 cases op<;>simp only[X5]at h<;>simp only[execOp]<;>try exact h.elim
 case binOp op t x y yt=>rw [aja];exact value _ h
 case panic x=>
  cases hp:cf.pan with
  |false=>rw [hp]at h;exact h.elim
  |true=>
   rw[hp]at h
   obtain⟨v,w',hr,hn,hk⟩:=h
   rw[Sem.run_bind,hr]
   exact hQ _ _ hn hk
 case call c=>
  obtain⟨cal,args,ats⟩:=c
  cases cal with
  |invoke r m=>exact h.elim
  |builtin b=>
   cases b<;>simp only at h<;>first|exact h.elim|skip
   all_goals
    obtain⟨v,w',hr,hk⟩:=h
    simp only[resolve,Sem.run_bind,Sem.run,pure,Result.andThen,invoke,builtin,hr]
    exact fin v w' hk
  |value f=>
   have plain:∀(g:FuncId)(as:Array Value),xr P g=true→
     (match cf.pan with
      |true=>acL P g as w (kw cf.marks w K) (λc' w'=>(cf.marks=true→NC w w')∧Kp c' w')
      |false=>zd P g as w (kw cf.marks w K))→
     Oper.uponIn (FW ro) 0 P ⟨dst,.call ⟨.value f,args,ats⟩,type,pos,after,guard⟩ (act e ds) K' Q (.ok (.enter g as) w):=by
    intro g as _ h
    refine acM ?_
    cases hp:cf.pan with
    |true=>
     rw[hp]at h
     refine h.mono λx w' hx=>?_
     cases x with
     |returned v=>exact fin v w' hx
     |panicked c=>exact hQ c w' hx.1 hx.2
     |outgrown=>exact hx.elim
    |false=>
     rw[hp]at h
     refine h.mono λx w' hx=>?_
     obtain⟨v,rfl,hx⟩:=hx
     exact fin v w' hx
   have dyn:(match cf.pan with
      |true=>ahR P (ev e f) (args.map (ev e)) w (kw cf.marks w K) (λc' w'=>(cf.marks=true→NC w w')∧Kp c' w')
      |false=>zF P (ev e f) (args.map (ev e)) w (kw cf.marks w K))→
     Oper.uponIn (FW ro) 0 P ⟨dst,.call ⟨.value f,args,ats⟩,type,pos,after,guard⟩ (act e ds) K' Q
      ((do let d ← resolve (ev e) ⟨.value f,args,ats⟩ type;invoke d.target d.args:Sem Next).run P w):=by
    intro h
    have plain':=plain
    revert h plain'
    simp only[resolve]
    generalize ev e f=fv
    intro h plain'
    cases fv with
    |func fn first cap=>
     cases fn with
     |func g=>
      simp only[Deferred.ofValue,Sem.run_bind,Sem.run,pure,Result.andThen,invoke]
      cases hp:cf.pan with
      |true=>
       rw[hp]at h
       obtain⟨he,h⟩:=h
       rw[jm he]
       exact plain' g _ he (by rw[hp];exact h)
      |false=>
       rw[hp]at h
       obtain⟨he,h⟩:=h
       rw[jm he]
       exact plain' g _ he (by rw[hp];exact h)
     |yield l=>
      cases hp:cf.pan with
      |true=>rw [hp]at h;exact h.elim
      |false=>
       rw[hp]at h
       obtain⟨f',tmps,assign,body,hy,hr⟩:=h
       simp only[Deferred.ofValue,Sem.run_bind,Sem.run,pure,Result.andThen,invoke]
       rw[hy]
       refine⟨λh=>(by cases h),?_⟩
       refine RoundIn.mono (F:=FW ro) (show RoundIn (FW ro) _ _ _ _ _ _ _ _ _ from hr) λx w' hx=>?_
       obtain⟨v,rfl,hx⟩:=hx
       exact fin v w' hx
     |_=>exfalso;revert h;cases cf.pan<;>exact id
    |_=>exfalso;revert h;cases cf.pan<;>exact id
   cases f with
   |func g=>
    simp only at h
    have he:xr P g=true:=by cases k<;>first|exact absurd rfl hk.1|exact absurd rfl hk.2|exact hok
    simp only[resolve,ev,Deferred.ofValue,Sem.run_bind,Sem.run,pure,Result.andThen,invoke]
    rw[jm he]
    exact plain g _ he (by revert h;cases cf.pan<;>simp)
   |tmp t=>exact dyn h
   |const v=>exact dyn h
   |global g=>exact dyn h
 all_goals first|exact value _ h|exact unit _ h
end ops
section
variable {D0:List Deferred} {cf:Cf} {P:Program} {ro:Option Nat} {n0:Nat} {Kp:List PanicEntry→World→Prop}
def acN(D0:List Deferred)(cf:Cf)(ro:Option Nat)(n0:Nat)(Kp:List PanicEntry→World→Prop)(ws:List Nat)(e0:Env)(ds:List Deferred)(K:Env→World→Prop):Exit→Act→World→Prop
 |.normal,a,w=>∃e,a=act e ds∧Ag ws e0 e∧MK D0 cf.marks ro n0 ds w∧K e w
 |.panic c,a,w=>(∃e,a=act e ds∧Ag ws e0 e∧MK D0 cf.marks ro n0 ds w)∧Kp c w
 |_,_,_=>False
theorem aiq{ops:Array Oper}{Q Q':Exit→Act→World→Prop}{i:Nat}{k:yA}{K K':Act→World→Prop}{a:Act}{w:World}(hK:∀a w,K a w→K' a w)
  (hp:∀c a w,Q (.panic c) a w→Q' (.panic c) a w) (ho:∀a w,¬Q .outgrown a w) (h:kC ro P ops Q i k K a w):kC ro P ops Q' i k K' a w:=by
 unfold kC at *
 cases hi:ops[i]? with
 |none=>rw [hi]at h;exact h.elim
 |some o=>
  rw[hi]at h
  simp only at h⊢
  have loud:∀(K K':Act→World→Prop),(∀a w,K a w→K' a w)→o.uponIn (FW ro) 0 P a K Q ((execOp a.eval o).run P w)→o.uponIn (FW ro) 0 P a K' Q' ((execOp a.eval o).run P w):=by
   intro K K' hK h
   generalize (execOp a.eval o).run P w=r at *
   cases r with
   |ok x w'=>
    cases x<;>simp only[Oper.uponIn]at h⊢ <;>
     first
      |exact hK _ _ h
      |(refine⟨h.1,CallsIn.mono h.2 (λe w'' he=>?_)⟩
        cases e with
        |returned v=>exact hK _ _ he
        |panicked c=>exact hp _ _ _ he
        |outgrown=>obtain ⟨a,w,he⟩:=he;exact absurd he (ho a w))
      |exact ⟨h.1,RowsIn.mono h.2 (λ_ _ he=>hK _ _ he)⟩
      |(refine⟨h.1,RoundIn.mono h.2 (λe w'' he=>?_)⟩
        cases e with
        |returned v=>exact hK _ _ he
        |panicked c=>exact hp _ _ _ he
        |outgrown=>obtain ⟨a,w,he⟩:=he;exact absurd he (ho a w))
   |halt x w'=>
    cases x<;>simp only[Oper.uponIn]at h⊢
    exact hp _ _ _ h
  split
  ·rename_i hw
   simp only[hw,if_true]at h
   cases k with
   |p=>obtain ⟨v,h1,h2⟩:=h;exact⟨v,h1,hK _ _ h2⟩
   |q=>obtain ⟨v,h1,h2⟩:=h;exact⟨v,h1,hK _ _ h2⟩
   |l=>exact loud _ _ hK h
   |u=>exact loud _ _ (λa w h=>⟨h.1,hK a w h.2⟩) h
  ·rename_i hw
   simp only[hw]at h
   exact hK _ _ h
theorem Xk{ops:Array Oper}{Q Q':Exit→Act→World→Prop}:∀(l:List (Nat×yA))(t:Tr)(a:Act)(w:World),chain ro P ops Q (pre l .nil) a w→
  (∀a w,Q .normal a w→chain ro P ops Q' t a w)→(∀c a w,Q (.panic c) a w→Q' (.panic c) a w)→(∀a w,¬Q .outgrown a w)→chain ro P ops Q' (pre l t) a w
 |[],_,a,w,h,hn,_,_=>hn a w h
 |(_,_)::l,t,_,_,h,hn,hp,ho=>aiq (λa w h=>Xk l t a w h hn hp ho) hp ho h
theorem aaT{ops:Array Oper}{i:Nat}{o:Oper}(h:ops[i]? = some o):∀t,o.dst=some t→t∈wrR ops:=λt ht=>
 List.mem_filterMap.2 ⟨o,by simpa using Array.mem_of_getElem? h,ht⟩
theorem JF{ops:Array Oper}:∀(its:List (Nat×yA)),∀t∈yM ops its,t∈wrR ops
 |[],t,h=>by cases h
 |(i,k)::its,t,h=>by
  simp only[yM]at h
  cases hi:ops[i]? with
  |none=>rw [hi]at h;exact JF its t h
  |some o=>
   rw[hi]at h
   simp only at h
   cases hd:o.dst with
   |none=>rw [hd]at h;exact JF its t h
   |some d=>
    rw[hd]at h
    rcases List.mem_cons.1 h with rfl|h
    ·exact aaT hi _ hd
    ·exact JF its t h
theorem agc{ops:Array Oper}{i:Nat}{o:Oper}{k:yA}{C:Act→World→Prop}{e0 e:Env}{ds:List Deferred}{w:World}{K:Env→World→Prop}{Q:Exit→Act→World→Prop}
  (hi:ops[i]? = some o) (hok:adR P o k=true) (hw:Region.wanted o (yielded ops (act e ds).tmps)=true) (hag:Ag (wrR ops) e0 e) (hmk:MK D0 cf.marks ro n0 ds w)
  (h:match k with
   |.p=>X4 (opP P) o e λe'=>K e' w
   |.q=>X4 (opQ P w) o e λe'=>K e' w
   |.l=>X5 cf P Kp o e w λv w'=>K (st e o.dst v) w'
   |.u=>X5 cf P Kp o e w λv w'=>Ext w w'∧K (st e o.dst v) w')
  (hK:∀v w',Ag (wrR ops) e0 (st e o.dst v)→MK D0 cf.marks ro n0 ds w'→K (st e o.dst v) w'→C (act (st e o.dst v) ds) w')
  (hQ:∀c w,MK D0 cf.marks ro n0 ds w→Kp c w→Q (.panic c) (act e ds) w):
  kC ro P ops Q i k C (act e ds) w:=by
 have hag':∀v,Ag (wrR ops) e0 (st e o.dst v):=λv=>hag.trans (Ag.st e v (aaT hi))
 simp only[kC,hi,hw,if_true]
 cases k with
 |p=>
  obtain⟨v,hy,hk⟩:=abl (G:=λ_=>True) (R:=opP P) (λs K h=>by obtain⟨v,h1,h2⟩:=h;exact⟨v,λw _=>h1 w,h2⟩) (ds:=ds) h
  exact⟨v,λw'=>hy w' trivial,by rw[aaS];exact hK v w (hag' v) hmk hk⟩
 |q=>
  obtain⟨v,hy,hk⟩:=abl (G:=λw'=>Ext w w') (R:=opQ P w) (λs K h=>h) (ds:=ds) h
  exact⟨v,hy,by rw[aaS];exact hK v w (hag' v) hmk hk⟩
 |l=>
  exact abm (ro:=ro) (k:=.l) (by simp) hok h (λv w' hn hk=>hK v w' (hag' v) (hmk.nc hn) hk) (λc w' hn hc=>hQ c w' (hmk.nc hn) hc)
 |u=>
  exact abm (ro:=ro) (k:=.u) (by simp) hok h (λv w' hn hk=>⟨hk.1,hK v w' (hag' v) (hmk.nc hn) hk.2⟩) (λc w' hn hc=>hQ c w' (hmk.nc hn) hc)
theorem abn{ops:Array Oper}{e:Env}{ds:List Deferred}{j v:Nat}{oj:Oper}(hj:ops[j]? = some oj)(hd:oj.dst=some v):
  yielded ops (act e ds).tmps j=match e.getD v u_ with|.bool b=>some b|_=>none:=by
 unfold yielded
 simp only[hj,Option.bind_some,hd,act]
 rw[List.getElem?_toArray,ggd]
 cases e[v]? with
 |none=>rfl
 |some x=>cases x<;>rfl
theorem acO{ops:Array Oper}{v:Nat}{want:Bool}{e0:Env}{ds:List Deferred}{K:Env→World→Prop}:
  ∀(its:List (Nat×yA))(e:Env)(w:World),
   (its.all λx=>match ops[x.1]? with
    |some o=>adR P o x.2&&(match o.guard with
     |some (j,b)=>b == want&&(match ops[j]? with|some oj=>oj.dst == some v|none=>false)
     |none=>false)
    |none=>false)=true→has (yM ops its) v=false→e.getD v u_=.bool want→Ag (wrR ops) e0 e→MK D0 cf.marks ro n0 ds w→
   VK cf P Kp ops its e w K→chain ro P ops (acN D0 cf ro n0 Kp (yM ops its) e ds λe' w'=>Ag (wrR ops) e0 e'∧K e' w') (pre its .nil) (act e ds) w
 |[],e,w,_,_,_,hag,hmk,h=>⟨e,rfl,.refl _ _,hmk,hag,h⟩
 |(i,k)::its,e,w,hall,hv,hev,hag,hmk,h=>by
  simp only[List.all_cons,gba]at hall
  obtain⟨h1,hall⟩:=hall
  cases hi:ops[i]? with
  |none=>simp [hi]at h1
  |some o=>
   simp only[hi,gba]at h1
   obtain⟨hok,hg⟩:=h1
   cases hgd:o.guard with
   |none=>simp [hgd]at hg
   |some jb=>
    obtain⟨j,b⟩:=jb
    simp only[hgd,gba,beq_iff_eq]at hg
    obtain⟨rfl,hg⟩:=hg
    cases hj:ops[j]? with
    |none=>simp [hj]at hg
    |some oj=>
     simp only[hj,beq_iff_eq]at hg
     have hw:Region.wanted o (yielded ops (act e ds).tmps)=true:=by
      simp only[Region.wanted,hgd,abn hj hg,hev];simp
     simp only[VK,hi]at h
     have hdst:yM ops ((i,k)::its)=(match o.dst with|some d=>d::yM ops its|none=>yM ops its):=by
      simp only[yM,hi];try (cases o.dst<;>rfl)
     have hv':has (yM ops its) v=false∧∀d,o.dst=some d→d≠v:=by
      rw[hdst]at hv
      cases hd:o.dst with
      |none=>rw [hd]at hv;exact⟨hv,λd h=>by cases h⟩
      |some d=>
       rw[hd]at hv
       have :¬v∈d::yM ops its:=λhm=>by rw[(ZP _ _).2 hm]at hv;cases hv
       simp only[List.mem_cons,not_or]at this
       exact⟨by cases hh:has (yM ops its) v with|false=>rfl|true=>exact absurd ((ZP _ _).1 hh) this.2,λd' h=>by cases h;exactλhe=>this.1 he.symm⟩
     refine agc (cf:=cf) (Kp:=Kp) (K:=λe' w'=>VK cf P Kp ops its e' w' K) hi hok hw hag hmk ?_ ?_ (λc w h1 h2=>⟨⟨e,rfl,.refl _ _,h1⟩,h2⟩)
     ·cases k<;>exact h
     ·intro x w' hag' hmk' hk
      have hev':(st e o.dst x).getD v u_=.bool b:=by
       cases hd:o.dst with
       |none=>exact hev
       |some d=>
        have:=hv'.2 d hd
        simp only[st,ggd]at hev⊢
        rw[List.getElem?_set_ne this];exact hev
      have:=acO its (st e o.dst x) w' hall hv'.1 hev' hag' hmk' hk
      have hst:Ag (yM ops ((i,k)::its)) e (st e o.dst x):=Ag.st e x (λt ht=>by rw[hdst,ht];exact List.mem_cons_self)
      have hsub:∀t∈yM ops its,t∈yM ops ((i,k)::its):=λt ht=>by rw[hdst];cases o.dst<;>simp [ht]
      have c:=Xk (Q':=acN D0 cf ro n0 Kp (yM ops ((i,k)::its)) e ds λe' w'=>Ag (wrR ops) e0 e'∧K e' w') its .nil _ _ this
       (λa w h=>by obtain⟨e',he,h1,h2⟩:=h;exact⟨e',he,hst.trans (h1.mono hsub),h2⟩)
       (λc a w h=>by obtain⟨⟨e',he,h1,h2⟩,h3⟩:=h;exact⟨⟨e',he,hst.trans (h1.mono hsub),h2⟩,h3⟩) (λa w h=>h)
      exact c
theorem acP{ops:Array Oper}{v:Nat}{want:Bool}{ds:List Deferred}{Q:Exit→Act→World→Prop}:
  ∀(its:List (Nat×yA))(r:Tr)(e:Env)(w:World),
   (its.all λx=>match ops[x.1]? with
    |some o=>adR P o x.2&&(match o.guard with
     |some (j,b)=>b == want&&(match ops[j]? with|some oj=>oj.dst == some v|none=>false)
     |none=>false)
    |none=>false)=true→has (yM ops its) v=false→(e.getD v u_≠.bool want)→
   (Ag (yM ops its) e (adS ops its e)→Ag (wrR ops) e (adS ops its e)→chain ro P ops Q r (act (adS ops its e) ds) w)→chain ro P ops Q (pre its r) (act e ds) w
 |[],r,e,w,_,_,_,h=>h (.refl _ _) (.refl _ _)
 |(i,k)::its,r,e,w,hall,hv,hev,h=>by
  simp only[List.all_cons,gba]at hall
  obtain⟨h1,hall⟩:=hall
  cases hi:ops[i]? with
  |none=>simp [hi]at h1
  |some o=>
   simp only[hi,gba]at h1
   obtain⟨hok,hg⟩:=h1
   cases hgd:o.guard with
   |none=>simp [hgd]at hg
   |some jb=>
    obtain⟨j,b⟩:=jb
    simp only[hgd,gba,beq_iff_eq]at hg
    obtain⟨rfl,hg⟩:=hg
    cases hj:ops[j]? with
    |none=>simp [hj]at hg
    |some oj=>
     simp only[hj,beq_iff_eq]at hg
     have hw:Region.wanted o (yielded ops (act e ds).tmps)=false:=by
      simp only[Region.wanted,hgd,abn hj hg]
      revert hev
      cases e.getD v u_<;>simp
     have hdst:yM ops ((i,k)::its)=(match o.dst with|some d=>d::yM ops its|none=>yM ops its):=by
      simp only[yM,hi];try (cases o.dst<;>rfl)
     have hv':has (yM ops its) v=false∧∀d,o.dst=some d→d≠v:=by
      rw[hdst]at hv
      cases hd:o.dst with
      |none=>rw [hd]at hv;exact⟨hv,λd h=>by cases h⟩
      |some d=>
       rw[hd]at hv
       have :¬v∈d::yM ops its:=λhm=>by rw[(ZP _ _).2 hm]at hv;cases hv
       simp only[List.mem_cons,not_or]at this
       exact⟨by cases hh:has (yM ops its) v with|false=>rfl|true=>exact absurd ((ZP _ _).1 hh) this.2,λd' h=>by cases h;exactλhe=>this.1 he.symm⟩
     simp only[pre,chain,kC,hi,hw,Bool.false_eq_true,if_false]
     rw[aaS]
     refine acP its r (st e o.dst u_) w hall hv'.1 ?_ ?_
     ·cases hd:o.dst with
      |none=>exact hev
      |some d=>
       have:=hv'.2 d hd
       simp only[st,ggd]at hev⊢
       rw[List.getElem?_set_ne this];exact hev
     ·intro h1 h2
      simp only[adS,hi]at h
      have hst:Ag (yM ops ((i,k)::its)) e (st e o.dst u_):=Ag.st e u_ (λt ht=>by rw[hdst,ht];exact List.mem_cons_self)
      have hsub:∀t∈yM ops its,t∈yM ops ((i,k)::its):=λt ht=>by rw[hdst];cases o.dst<;>simp [ht]
      exact h (hst.trans (h1.mono hsub)) ((Ag.st e u_ (aaT hi)).trans h2)
theorem akg{v:Value}{want:Bool}{A B:Prop}(h:gIf v want A B):(v=.bool want∧A)∨(v≠.bool want∧B):=by
 unfold gIf at h
 split at h
 ·rename_i b
  by_cases hb:b=want
  ·subst hb;simp only[if_true]at h;exact .inl ⟨rfl,h⟩
  ·simp only[hb,if_false]at h;exact .inr ⟨by simpa using hb,h⟩
 ·rename_i hn
  exact .inr ⟨λhe=>hn _ he,h⟩
theorem abo{ops:Array Oper}{i:Nat}{k:yA}{e0 e:Env}{ds:List Deferred}{w:World}{K:Env→World→Prop}{C:Act→World→Prop}{Q:Exit→Act→World→Prop}(hok:aio P ops i k=true)
  (hag:Ag (wrR ops) e0 e) (hmk:MK D0 cf.marks ro n0 ds w) (h:af1 cf P Kp ops i k e w K)
  (hK:∀e' w',Ag (wrR ops) e0 e'→MK D0 cf.marks ro n0 ds w'→K e' w'→C (act e' ds) w') (hQ:∀c w,MK D0 cf.marks ro n0 ds w→Kp c w→Q (.panic c) (act e ds) w):
  kC ro P ops Q i k C (act e ds) w:=by
 unfold aio at hok
 unfold af1 at h
 cases hi:ops[i]? with
 |none=>simp [hi]at hok
 |some o=>
  simp only[hi,gba,Option.isNone_iff_eq_none]at hok
  simp only[hi]at h
  refine agc (cf:=cf) (Kp:=Kp) (K:=K) hi hok.2 (by simp[Region.wanted,hok.1]) hag hmk ?_ (λv w'=>hK _ w') hQ
  cases k<;>exact h
theorem air{ro:Option Nat}{P:Program}{ops:Array Oper}{Q:Exit→Act→World→Prop}{a b:Tr}{x:Act}{w:World}(ha:chain ro P ops Q a x w)(hb:chain ro P ops Q b x w):chain ro P ops Q (alX a b) x w:=by
 cases a with
 |op i k t=>exact ⟨ha,hb⟩
 |nil=>exact ha
 |alt i k t r=>exact ha
theorem qd{ops:Array Oper}{e0:Env}{ds:List Deferred}:∀(its:RI)(e:Env)(w:World)(K:Env→World→Prop),jz P ops its=true→Ag (wrR ops) e0 e→MK D0 cf.marks ro n0 ds w→
  rsw cf P Kp ops its e w K→chain ro P ops (acN D0 cf ro n0 Kp (wrR ops) e0 ds K) (vk its) (act e ds) w
 |.nil,e,w,K,_,hag,hmk,h=>⟨e,rfl,hag,hmk,h⟩
 |.op i k t,e,w,K,hok,hag,hmk,h=>by
  simp only[jz,gba]at hok
  exact abo (K:=λe' w'=>rsw cf P Kp ops t e' w' K) hok.1 hag hmk h (λe' w' hag' hmk' hk=>qd t e' w' K hok.2 hag' hmk' hk) (λc w h1 h2=>⟨⟨e,rfl,hag,h1⟩,h2⟩)
 |.alt i k t r,e,w,K,hok,hag,hmk,h=>by
  simp only[jz,gba]at hok
  exact⟨abo (K:=λe' w'=>rsw cf P Kp ops t e' w' K) hok.1.1 hag hmk h.1 (λe' w' hag' hmk' hk=>qd t e' w' K hok.1.2 hag' hmk' hk) (λc w h1 h2=>⟨⟨e,rfl,hag,h1⟩,h2⟩),qd r e w K hok.2 hag hmk h.2⟩
 |.bth a b,e,w,K,hok,hag,hmk,h=>by
  simp only[jz,gba]at hok
  exact air (qd a e w K hok.1 hag hmk h.1) (qd b e w K hok.2 hag hmk h.2)
 |.grp v want its live r,e,w,K,hok,hag,hmk,h=>by
  simp only[jz,gba,Bool.not_eq_true']at hok
  obtain⟨⟨hall,hv⟩,hok⟩:=hok
  simp only[vk]
  have h:=h (λs w'=>∀e',s=live.map (λt=>e'.getD t u_)→Ag (yM ops its) e e'→Ag (wrR ops) e0 e'→MK D0 cf.marks ro n0 ds w'→chain ro P ops (acN D0 cf ro n0 Kp (wrR ops) e0 ds K) (vk r) (act e' ds) w')
   (λs w' hY=>λe' hs ha ha0 hm=>by
    subst hs
    have:=hY e'
    simp only[agb ha]at this
    exact qd r e' w' K hok ha0 hm this)
  rcases akg h with⟨hb,h⟩|⟨hb,h⟩
  ·exact Xk its (vk r) _ _ (acO its e w hall hv hb hag hmk h)
    (λa w' hq=>by obtain⟨e',rfl,h1,h2,h3,h4⟩:=hq;exact h4 e' rfl h1 h3 h2)
    (λc a w h=>by obtain⟨⟨e',he,h1,h2⟩,h3⟩:=h;exact⟨⟨e',he,hag.trans (h1.mono (JF its)),h2⟩,h3⟩) (λa w h=>h)
  ·exact acP its (vk r) e w hall hv hb (λh1 h2=>h _ rfl h1 (hag.trans h2) hmk)
end
section
variable {D0:List Deferred} {P:Program} {n0:Nat}
def Post(D0:List Deferred)(m:Bool)(ro:Option Nat)(n0:Nat)(Kp:List PanicEntry→World→Prop)(ws:List Nat)(e0:Env)(Q:Exit→Env→World→Prop):Exit→Act→World→Prop
 |.panic c,a,w=>(∃e ds,a=act e ds∧Ag ws e0 e∧MK D0 m ro n0 ds w)∧Kp c w
 |.outgrown,_,_=>False
 |x,a,w=>∃e ds,a=act e ds∧Ag ws e0 e∧MK D0 m ro n0 ds w∧Q x e w
theorem Post.mono{m:Bool}{ro:Option Nat}{Kp:List PanicEntry→World→Prop}{ws ws':List Nat}{e0 e1:Env}{Q Q':Exit→Env→World→Prop}(h0:Ag ws' e0 e1)(hs:∀t∈ws,t∈ws')
  (hq:∀x e w,Q x e w→Q' x e w) {x:Exit} {a:Act} {w:World} (h:Post D0 m ro n0 Kp ws e1 Q x a w):Post D0 m ro n0 Kp ws' e0 Q' x a w:=by
 cases x with
 |panic c=>obtain ⟨⟨e,ds,h1,h2,h3⟩,h4⟩:=h;exact⟨⟨e,ds,h1,h0.trans (h2.mono hs),h3⟩,h4⟩
 |outgrown=>exact h
 |_=>obtain ⟨e,ds,h1,h2,h3,h4⟩:=h;exact⟨e,ds,h1,h0.trans (h2.mono hs),h3,hq _ _ _ h4⟩
theorem agd{cf:Cf}{ro:Option Nat}{Kp:List PanicEntry→World→Prop}{its:RI}{id:Nat}{ops:Array Oper}{draw:Bool}{e:Env}{ds:List Deferred}{w:World}{Q:Exit→Env→World→Prop}
  (hm:P.follows .mixedOrders=true) (hc:af9 P its ops draw=true) (hmk:MK D0 cf.marks ro n0 ds w)
  (h:rsw cf P Kp ops its e (ald draw w) (Q .normal)):
  (Code.region id ops draw).wpIn (FW ro) 0 P (Post D0 cf.marks ro n0 Kp (wrR ops) e Q) (act e ds) w:=by
 simp only[af9,gba]at hc
 obtain⟨hi,hc⟩:=hc
 have up:∀x a w,acN D0 cf ro n0 Kp (wrR ops) e ds (Q .normal) x a w→Post D0 cf.marks ro n0 Kp (wrR ops) e Q x a w:=by
  intro x a w h
  cases x with
  |normal=>obtain ⟨e',h1,h2,h3,h4⟩:=h;exact⟨e',ds,h1,h2,h3,h4⟩
  |panic c=>obtain ⟨⟨e',h1,h2,h3⟩,h4⟩:=h;exact⟨⟨e',ds,h1,h2,h3⟩,h4⟩
  |_=>exact h.elim
 cases draw with
 |true=>
  refine wpIn_mono (ain hm ?_ hc (qd its e w.drew (Q .normal) hi (.refl _ _) (hmk.nc λ_=>NC.drew w) h)) up
  intro i o ho v c a w h
  obtain⟨⟨e',he,h1,h2⟩,h3⟩:=h
  refine⟨⟨a.tmps.toList,?_,?_,h2⟩,h3⟩
  ·cases hd:o.dst with
   |none=>rw [hd]at he;simp only[Act.put]at he;subst he;rfl
   |some d=>rw [hd]at he;cases a;simp only[Act.put,act,Act.mk.injEq]at he;simp[act,he.2]
  ·cases hd:o.dst with
   |none=>rw [hd]at he;simp only[Act.put]at he;subst he;exact h1
   |some d=>
    rw[hd]at he;cases a
    simp only[Act.put,act,Act.mk.injEq]at he
    have hl:e'=_:=(congrArg Array.toList he.1).symm
    simp only[Array.toList_setIfInBounds]at hl
    subst hl
    refine⟨by have:=h1.1;simpa using this,λt ht=>?_⟩
    have hne:d≠t:=λhh=>ht (hh▸aaT ho _ hd)
    have:=h1.2 t ht
    rw[List.getElem?_set_ne hne]at this
    exact this
 |false=>
  simp only[gba,beq_iff_eq]at hc
  exact wpIn_mono (af8 hc.1 hc.2 (qd its e w (Q .normal) hi (.refl _ _) hmk h)) up
theorem ais{v:Value}{A B:Prop}(h:zc v A B):(v=.bool true∧A)∨(v=.bool false∧B):=by
 unfold zc at h
 split at h
 ·exact .inl ⟨rfl,h⟩
 ·exact .inr ⟨rfl,h⟩
 ·exact h.elim
theorem aeK:∀(ps:List Nat)(x pre:List Value)(e:Env),x.length=ps.length→((ps.zip x).foldl (λ(t:Array Value) (p:Nat×Value)=>t.setIfInBounds p.1 p.2) e.toArray)=(abV ps (pre++x) pre.length e).toArray
 |[],x,pre,e,_=>by simp[abV]
 |p::ps,[],pre,e,h=>by simp at h
 |p::ps,v::x,pre,e,h=>by
  simp only[List.zip_cons_cons,List.foldl_cons,abV]
  have:=aeK ps x (pre++[v]) (e.set p v) (by simpa using h)
  simp only[List.append_assoc,List.singleton_append,gla,gls]at this
  rw[show (pre++v::x).getD pre.length u_=v by simp[ggd],← this]
  simp
theorem Nl.of_ext{n:Nat}{w w':World}(h:Ext w w'):Nl n w w':=
 ⟨h.os,h.tape,h.output,h.size,λk o hk _=>by rw[h.block k (Array.getElem?_eq_some_iff.1 hk).1];exact hk⟩
theorem Nl.putObj{n l:Nat}{w:World}{o:Obj}(o':Obj)(hl:n≤l)(h:w.heap[l]? = some o)(hb:Obj.isBook o=true):Nl n w (w.putObj l o'):=
 ⟨rfl,rfl,rfl,by simp[World.putObj],λk x hk hx=>by
  by_cases e:k=l
  ·subst e
   rw[h]at hk;cases hk
   rcases hx with hx|hx
   ·omega
   ·rw[hb]at hx;cases hx
  ·exact(World.putObj_heap_other e).trans hk⟩
theorem aeL(w:World)(o:Obj):Ext w (w.alloc o):=(Below.refl _ _).alloc (Nat.le_refl _) o
end
section
variable {D0:List Deferred} {P:Program} {n0:Nat}
def Rel(ro:Option Nat)(ds:List Deferred)(k:Nat):Prop:=(∃d∈ds,d.target=.collected k)∨ro=some k
theorem MK.keep{ro:Option Nat}{ds:List Deferred}{W W2:World}(h:MK D0 true ro n0 ds W)(hs:W.heap.size≤W2.heap.size)
  (hk:∀k,Rel ro ds k→k<W.heap.size→W2.heap[k]? = W.heap[k]?):MK D0 true ro n0 ds W2:=by
 cases ro with
 |some l=>obtain ⟨h1,r,h2⟩:=h;exact⟨h1,r,by rw[hk l (.inr rfl) (Array.getElem?_eq_some_iff.1 h2).1];exact h2⟩
 |none=>
  obtain⟨h0,hd,rs,rfl,h2,h3⟩:=h
  exact⟨Nat.le_trans h0 hs,hd,rs,rfl,h2,λr hr=>⟨(h3 r hr).1,by
   rw[hk r (.inl ⟨_,List.mem_append_left _ (List.mem_map.2 ⟨r,hr,rfl⟩),rfl⟩) (Array.getElem?_eq_some_iff.1 (h3 r hr).2).1];exact(h3 r hr).2⟩⟩
theorem alY{ro:Option Nat}{ds:List Deferred}{W:World}(h:MK D0 true ro n0 ds W):∀k,Rel ro ds k→k<W.heap.size:=by
 cases ro with
 |some l=>
  obtain⟨h1,r,h2⟩:=h
  rintro k (⟨d,hd,hk⟩|hk)
  ·rw[h1]at hd;cases hd
  ·cases hk;exact(Array.getElem?_eq_some_iff.1 h2).1
 |none=>
  obtain⟨h0,hd,rs,rfl,h2,h3⟩:=h
  rintro k (⟨d,hd',hk⟩|hk)
  ·rcases List.mem_append.1 hd' with hd'|hd'
   ·obtain⟨r,hr,rfl⟩:=List.mem_map.1 hd'
    simp only[Target.collected.injEq]at hk;subst hk
    exact(Array.getElem?_eq_some_iff.1 (h3 r hr).2).1
   ·exact absurd hk (hd d hd' k)
  ·cases hk
def age:Exit→Option Code
 |.ret=>some .ret
 |.exit id=>some (.exit id)
 |.goto l=>some (.goto l)
 |_=>none
theorem ait{ro:Option Nat}{ds:List Deferred}{w:World}(fn:FuncId)(e:Env)(ps:Array Tmp)(assign body:Code)(hmk:MK D0 true ro n0 ds w):
  ∃(l:Nat)(mark:List Deferred)(W1:World)(D:Nat),(Instr.enterLoop fn e.toArray ps assign body ro).run P w=.ok (l,mark) W1∧Ext w W1∧w.heap.size≤l∧
   W1.heap[l]? = some (.loop { state:=.ready,pending:=none,fn,tmps:=e.toArray,params:=ps,assign,body,defers:=D })∧MK D0 true ro n0 (mark++ds) W1∧
   ∀k,Rel ro (mark++ds) k→k≠l∧(w.heap.size≤k∨∃o,w.heap[k]? = some o∧Obj.isBook o=true):=by
 cases ro with
 |none=>
  obtain⟨hn,hD,rs,hds,hnd,hrs⟩:=hmk
  have hext:Ext w ((w.alloc (.deferred (some []))).alloc (.loop { state:=.ready,pending:=none,fn,tmps:=e.toArray,params:=ps,assign,body,defers:=w.heap.size })):=
   ((Below.refl _ w).alloc (Nat.le_refl _) _).alloc (by simp) _
  refine⟨_,_,_,w.heap.size,run_enterLoop_outer fn e.toArray ps assign body,hext,by omega,?_,?_,?_⟩
  ·have:=World.alloc_heap_new (w.alloc (.deferred (some []))) (.loop { state:=.ready,pending:=none,fn,tmps:=e.toArray,params:=ps,assign,body,defers:=w.heap.size })
   rwa[World.size_alloc]at this
  ·refine⟨Nat.le_trans hn hext.size,hD,w.heap.size::rs,by rw[hds];rfl,List.nodup_cons.2 ⟨λh=>?_,hnd⟩,λr hr=>?_⟩
   ·have:=(Array.getElem?_eq_some_iff.1 (hrs _ h).2).1;omega
   ·rcases List.mem_cons.1 hr with rfl|hr
    ·exact⟨hn,(Below.heap_alloc _ _ _ (by simp)).trans (World.alloc_heap_new w _)⟩
    ·exact⟨(hrs r hr).1,by rw[hext.block r (Array.getElem?_eq_some_iff.1 (hrs r hr).2).1];exact(hrs r hr).2⟩
  ·rintro k (⟨d,hd,hk⟩|hk)
   ·rcases List.mem_append.1 hd with hd|hd
    ·rw[List.mem_singleton]at hd;subst hd
     simp only[Target.collected.injEq]at hk;subst hk
     exact⟨by omega,.inl (Nat.le_refl _)⟩
    ·rw[hds]at hd
     rcases List.mem_append.1 hd with hd|hd
     rotate_left
     ·exact absurd hk (hD d hd k)
     obtain⟨r,hr,rfl⟩:=List.mem_map.1 hd
     simp only[Target.collected.injEq]at hk;subst hk
     have:=(Array.getElem?_eq_some_iff.1 (hrs r hr).2).1
     exact⟨by omega,.inr ⟨_,(hrs r hr).2,rfl⟩⟩
   ·cases hk
 |some l0=>
  obtain⟨rfl,r,hr⟩:=hmk
  have hl0:=(Array.getElem?_eq_some_iff.1 hr).1
  have hext:=aeL w (.loop { state:=.ready,pending:=none,fn,tmps:=e.toArray,params:=ps,assign,body,defers:=r.defers })
  refine⟨_,_,_,r.defers,run_enterLoop_inner hr fn e.toArray ps assign body,hext,Nat.le_refl _,World.alloc_heap_new w _,?_,?_⟩
  ·exact⟨rfl,r,by rw[hext.block l0 hl0];exact hr⟩
  ·rintro k (⟨d,hd,hk⟩|hk)
   ·cases hd
   ·cases hk;exact⟨by omega,.inr ⟨_,hr,rfl⟩⟩
theorem ahu{ro:Option Nat}{Kp:List PanicEntry→World→Prop}{g:Operand}{ps:Array Tmp}{assign body:Code}{e:Env}{ds:List Deferred}{w:World}{Q:Exit→Env→World→Prop}
  {rA:Env→World→(Exit→Env→World→Prop)→Prop} {rB:Env→World→(Exit→Env→World→Prop)→Prop} {ids:List Nat}
  (hA:∀(l:Nat)(e1:Env)(w1:World)(Q1:Exit→Env→World→Prop),MK D0 true (some l) n0 [] w1→rA e1 w1 Q1→assign.wpIn (FW (some l)) 0 P (Post D0 true (some l) n0 (λ_ _=>False) (wr assign) e1 Q1) (act e1 []) w1)
  (hB:∀(l:Nat)(e1:Env)(w1:World)(Q1:Exit→Env→World→Prop),MK D0 true (some l) n0 [] w1→rB e1 w1 Q1→body.wpIn (FW (some l)) 0 P (Post D0 true (some l) n0 (λ_ _=>False) (wr body) e1 Q1) (act e1 []) w1)
  (hmk:MK D0 true ro n0 ds w)
  (h:ajc P ps.size (ev e g) w
   (λx w1 S KR=>rA (abV ps.toList x 0 e) w1 fun
    |.normal,e2,w2=>Ext w1 w2∧∀w3,Nl w.heap.size w2 w3→rB e2 w3 λy _ w4=>ExtBut S w3 w4∧KR y w4
    |_,_,_=>False)
   (λw'=>Q .normal e w') (λw'=>Q .ret e w') (ids.map λid=>(id,λw'=>Q (.exit id) e w'))):
  (Code.rangeFunc g ps assign body).wpIn (FW ro) 0 P (Post D0 true ro n0 Kp [] e Q) (act e ds) w:=by
 obtain⟨xs,D0',J,Jx,hS,hit,hlen,hJ,hJx,hJ0,hround,hKn,hKr,hKx,hKg⟩:=h
 obtain⟨gf,cap,hg,hent,hit⟩:=hit
 refine wpIn_rangeFunc ?_
 intro fn _
 obtain⟨l,mark,W1,D,hrun,hext,hl,hl1,hmk1,hrel⟩:=ait (P:=P) fn e ps assign body hmk
 obtain⟨rec,hrec⟩:∃rec:LoopState→Option Code→Loop,rec=λst pe=>{ state:=st,pending:=pe,fn,tmps:=e.toArray,params:=ps,assign,body,defers:=D }:=⟨_,rfl⟩
 have hl1':W1.heap[l]? = some (.loop (rec .ready none)):=by rw[hrec];exact hl1
 have hlW1:l<W1.heap.size:=(Array.getElem?_eq_some_iff.1 hl1).1
 have hrS:∀k,Rel ro (mark++ds) k→¬D0' k:=λk hk hs=>by
  obtain⟨o,ho,hb⟩:=hS k hs
  have:=(Array.getElem?_eq_some_iff.1 ho).1
  rcases(hrel k hk).2 with h|⟨o',ho',hb'⟩
  ·omega
  ·rw[ho]at ho';cases ho';rw[hb]at hb';cases hb'
 have hlS:¬D0' l:=λhs=>by
  obtain⟨o,ho,_⟩:=hS l hs
  have:=(Array.getElem?_eq_some_iff.1 ho).1
  omega
 have hgv:(act e ds).eval g=.func (.func gf) #[] cap:=by rw[Xj,hg]
 refine⟨l,mark,W1,{ target:=.fn (.func gf) cap,args:=#[.func (.yield l) #[] #[]] },W1,gf,#[.func (.yield l) #[] #[]]++cap,W1,hrun,?_,λ_ _=>trivial,?_,λh=>(by cases h),?_⟩
 ·simp only[resolve,hgv]
  simp[go_sem]
 ·simp only[invoke];rw[jm hent]
 ·refine(callsIn_wide (n:=0)).2 ((hit l W1
   (λk S W=>J k S W∧W.heap[l]? = some (.loop (rec .ready none))∧MK D0 true ro n0 (mark++ds) W∧¬S l∧∀k,Rel ro (mark++ds) k→¬S k)
   (λW=>∃x c,Jx x W∧age x=some c∧W.heap[l]? = some (.loop (rec .done (some c)))∧MK D0 true ro n0 (mark++ds) W)
   hext hl hlW1 ?_ ?_ ?_ ⟨hJ 0 _ _ _ hJ0 (.of_ext hext),hl1',hmk1,hlS,hrS⟩).mono ?_)
  ·rintro k S A B ⟨h1,h2,h3,h4⟩ hx
   exact⟨hJ k _ _ _ h1 (.of_ext hx),by rw[hx.block l (Array.getElem?_eq_some_iff.1 h2).1];exact h2,h3.keep hx.size λk _ hk=>hx.block k hk,h4⟩
  ·rintro A B ⟨x,c,h1,hc,h2,h3⟩ hx
   exact⟨x,c,hJx x _ _ h1 (.of_ext hx),hc,by rw[hx.block l (Array.getElem?_eq_some_iff.1 h2).1];exact h2,h3.keep hx.size λk _ hk=>hx.block k hk⟩
  ·rintro k x S W hx ⟨hj,hlW,hmW,hlS,hrS⟩
   have hrl:=alY hmW
   have hxl:x.length=ps.toList.length:=by rw[hlen x (List.mem_of_getElem? hx)];simp
   have hy:=run_yield (P:=P) (args:=x.toArray) hlW (by rw[hrec];simpa using hxl)
   have hr:=hround k x S W hx hj
   refine⟨_,_,_,_,hy,?_⟩
   rw[hrec]
   have htm:((ps.zip x.toArray).foldl (λtmps (t,a)=>tmps.setIfInBounds t a) e.toArray)=(abV ps.toList x 0 e).toArray:=by
    have:=aeK ps.toList x [] e hxl
    simp only[List.nil_append,List.length_nil]at this
    rw[← this]
    have hz:ps.zip x.toArray=(ps.toList.zip x).toArray:=by
     conv=>lhs;rw[show ps=ps.toList.toArray by simp]
     rw[List.zip_toArray]
    rw[hz,List.foldl_toArray]
   simp only[htm]
   have hF:(FW none).fn fn:=trivial
   refine roundIn_of_wpIn (F:=FW none) hF (wpIn_mono (hA l _ W _ ⟨rfl,_,hlW⟩ hr) ?_)
   intro y a w2 hp
   cases y with
   |normal=>
    obtain⟨e2,ds2,rfl,_,⟨rfl,r2,hr2⟩,hx2,hbody⟩:=hp
    have hlw2:w2.heap[l]? = some (.loop (rec .ready none)):=by rw[hx2.block l (Array.getElem?_eq_some_iff.1 hlW).1];exact hlW
    refine⟨_,run_beginRound hlw2 (by rw[hrec]),?_⟩
    have hl2:l<w2.heap.size:=(Array.getElem?_eq_some_iff.1 hlw2).1
    obtain⟨w3,hw3⟩:∃w3,w2.putObj l (.loop { rec .ready none with state:=.busy })=w3:=⟨_,rfl⟩
    rw[hw3]
    have hlw3:w3.heap[l]? = some (.loop { rec .ready none with state:=.busy }):=by rw[← hw3];exact World.putObj_heap_same hl2
    have hnl:Nl w.heap.size w2 w3:=by rw[← hw3];exact .putObj _ hl hlw2 rfl
    have hoth:∀k,k≠l→w3.heap[k]? = w2.heap[k]?:=λk hk=>by rw[← hw3];exact World.putObj_heap_other hk
    have hsz3:w3.heap.size=w2.heap.size:=by rw[← hw3];simp
    refine wpIn_mono (hB l e2 w3 _ ⟨rfl,_,hlw3⟩ (hbody w3 hnl)) ?_
    intro z a4 w4 hz
    have fin:∀(jump:Option Code),ExtBut S w3 w4→
      ∃w5,(Instr.endRound l jump).run P w4=.ok (.bool jump.isNone) w5∧w5.heap[l]? = some (.loop (rec (if jump.isNone then .ready else .done) jump))∧Nl w.heap.size w4 w5∧
       MK D0 true ro n0 (mark++ds) w5∧ExtBut (λb=>S b∨b=l) W w5:=by
     intro jump hx4
     have hlw4:w4.heap[l]? = some (.loop { rec .ready none with state:=.busy }):=by rw[hx4.block l (by rw[hsz3];exact hl2) hlS];exact hlw3
     have hl4:l<w4.heap.size:=(Array.getElem?_eq_some_iff.1 hlw4).1
     have he:=run_endRound (P:=P) jump hlw4
     refine⟨_,he,?_,.putObj _ hl hlw4 rfl,?_,?_⟩
     ·rw[hrec];exact World.putObj_heap_same hl4
     ·refine hmW.keep (by simp;have:=hx4.size;have:=hx2.size;omega) λk hk hlt=>?_
      have h1:=hx2.size
      rw[World.putObj_heap_other (hrel k hk).1,hx4.block k (by omega) (hrS k hk),hoth k (hrel k hk).1,hx2.block k hlt]
     ·refine⟨?_,?_,?_,by simp;have:=hx4.size;have:=hx2.size;omega,λk hk hn=>?_⟩
      ·exact hx4.os.trans (hnl.os.trans hx2.os)
      ·exact hx4.tape.trans (hnl.tape.trans hx2.tape)
      ·exact hx4.output.trans (hnl.output.trans hx2.output)
      ·simp only[not_or]at hn
       have h1:=hx2.size
       rw[World.putObj_heap_other hn.2,hx4.block k (by omega) hn.1,hoth k hn.2,hx2.block k hk]
    cases z with
    |normal=>
     obtain⟨e4,ds4,rfl,_,_,hx4,hj4⟩:=hz
     obtain⟨w5,hr5,hl5,hn5,hm5,hx5⟩:=fin none hx4
     obtain⟨S2,hS2,hj4⟩:=hj4
     exact⟨_,w5,hr5,true,rfl,hx5,S2,λd hd=>(hS2 d hd).imp id λh=>⟨h.1,Nat.lt_of_lt_of_le h.2 hn5.size⟩,hJ _ _ _ _ hj4 hn5,(by rw[hrec]at hl5;exact hl5),hm5,
      λhs=>(hS2 _ hs).elim hlS λh=>by have:=(Array.getElem?_eq_some_iff.1 hlW).1;have:=h.1;omega,λk hk hs=>(hS2 _ hs).elim (hrS k hk) λh=>by have:=hrl k hk;have:=h.1;omega⟩
    |ret=>
     obtain⟨e4,ds4,rfl,_,_,hx4,hj4⟩:=hz
     obtain⟨w5,hr5,hl5,hn5,hm5,hx5⟩:=fin (some .ret) hx4
     exact⟨_,w5,hr5,false,rfl,hx5,.ret,_,hJx _ _ _ hj4 hn5,rfl,(by rw[hrec]at hl5;exact hl5),hm5⟩
    |exit id=>
     obtain⟨e4,ds4,rfl,_,_,hx4,hj4⟩:=hz
     obtain⟨w5,hr5,hl5,hn5,hm5,hx5⟩:=fin (some (.exit id)) hx4
     exact⟨_,w5,hr5,false,rfl,hx5,.exit id,_,hJx _ _ _ hj4 hn5,rfl,(by rw[hrec]at hl5;exact hl5),hm5⟩
    |goto t=>
     obtain⟨e4,ds4,rfl,_,_,hx4,hj4⟩:=hz
     obtain⟨w5,hr5,hl5,hn5,hm5,hx5⟩:=fin (some (.goto t)) hx4
     exact⟨_,w5,hr5,false,rfl,hx5,.goto t,_,hJx _ _ _ hj4 hn5,rfl,(by rw[hrec]at hl5;exact hl5),hm5⟩
    |panic ch=>exact hz.2.elim
    |outgrown=>exact hz.elim
   |panic ch=>exact hp.2.elim
   |outgrown=>exact hp.elim
   |ret=>obtain ⟨_,_,_,_,_,h⟩:=hp;exact h.elim
   |exit id=>obtain ⟨_,_,_,_,_,h⟩:=hp;exact h.elim
   |goto t=>obtain ⟨_,_,_,_,_,h⟩:=hp;exact h.elim
  ·rintro y W2 ⟨⟨v,rfl⟩,(⟨S,hj,hlW,hmW,_⟩|⟨x,c,hj,hc,hlW,hmW⟩)⟩
   ·have he:=run_endLoop (P:=P) hlW (by rw[hrec];simp)
    refine⟨none,W2.putObj l (.loop { rec .ready none with state:=.exhausted }),by rw[hrec]at he⊢;exact he,e,mark++ds,rfl,.refl _ _,?_,hKn _ _ (hJ _ _ _ _ hj (.putObj _ hl hlW rfl))⟩
    exact hmW.keep (by simp) λk hk _=>World.putObj_heap_other (hrel k hk).1
   ·have he:=run_endLoop (P:=P) hlW (by rw[hrec];simp)
    have hmW':=hmW.keep (n0:=n0) (W2:=W2.putObj l (.loop { rec .done (some c)with state:=.exhausted })) (by simp) λk hk _=>World.putObj_heap_other (hrel k hk).1
    have hj':=hJx _ _ _ hj (.putObj (.loop { rec .done (some c)with state:=.exhausted }) hl hlW rfl)
    refine⟨some c,W2.putObj l (.loop { rec .done (some c)with state:=.exhausted }),by rw[hrec]at he⊢;exact he,?_⟩
    cases x with
    |ret=>simp only[age,Option.some.injEq]at hc;subst hc;exact wpIn_ret ⟨e,mark++ds,rfl,.refl _ _,hmW',hKr _ hj'⟩
    |exit id=>
     simp only[age,Option.some.injEq]at hc;subst hc
     obtain⟨K,hK,hk⟩:=hKx id _ hj'
     obtain⟨id',_,hid⟩:=List.mem_map.1 hK
     simp only[Prod.mk.injEq]at hid
     obtain⟨rfl,rfl⟩:=hid
     exact wpIn_exit ⟨e,mark++ds,rfl,.refl _ _,hmW',hk⟩
    |goto t=>exact absurd hj' (hKg t _)
    |normal=>cases hc
    |panic ch=>cases hc
    |outgrown=>cases hc
theorem qQ{a b:Code}{t:Nat}:(t∈wr a→t∈wr a++wr b)∧(t∈wr b→t∈wr a++wr b):=⟨λh=>List.mem_append_left _ h,λh=>List.mem_append_right _ h⟩
theorem qR{b:Frame}{a:Act}{k:List Item}{cs:List Frame}{w:World}{c:Code}:step P (lone (b.atR a (.code (.scope c)::k)) cs w)=.next (lone (b.atR a (.code c::.inScope c::k)) cs w):=
 step_lone_go (by simp[stepG,stepG.exec,Frame.atR])
theorem afg{b:Frame}{a:Act}{k:List Item}{cs:List Frame}{w:World}{c:Code}:step P (lone (b.atR a (.inScope c::k)) cs w)=.next (lone (b.atR a k) cs w):=
 step_lone_go (by simp[stepG,stepG.exec,Frame.atR])
theorem aiu{F:Fence}{n:Nat}{Q:Exit→Act→World→Prop}{a:Act}{w:World}{c:Code}(h:c.wpIn F n P (λx a w=>(∀l,x≠.goto l)∧Q x a w) a w):(Code.scope c).wpIn F n P Q a w:=by
 intro b k cs hro hb hr
 have h0:(lone (b.atR a (.code (.scope c)::k)) cs w).fenced P F:=fenced_calm hb hr rfl
 obtain⟨e,a₁,w₁,⟨hg,hq⟩,harr⟩:=h b (.inScope c::k) cs hro hb hr
 cases e with
 |normal=>exact ⟨.normal,a₁,w₁,hq,.head h0 qR (StepsIn.trans harr (.one (fenced_calm hb hr rfl) afg))⟩
 |exit id'=>
  have hx:exitTo id' (.inScope c::k)=exitTo id' k:=by simp[exitTo]
  exact⟨.exit id',a₁,w₁,hq,λk' hk=>.head h0 qR (harr.1 k' (by rw[hx];exact hk)),
   λhr' hk=>let ⟨k₁,h1,h2⟩:=harr.2 hr' (by rw[hx];exact hk);⟨k₁,h1,.head h0 qR h2⟩⟩
 |goto l=>exact absurd rfl (hg l)
 |ret=>exact ⟨_,a₁,w₁,hq,.of_steps (.one h0 qR) harr⟩
 |panic ch=>exact ⟨_,a₁,w₁,hq,.of_steps (.one h0 qR) harr⟩
 |outgrown=>exact ⟨_,a₁,w₁,hq,.of_steps (.one h0 qR) harr⟩
theorem akh(hm:P.follows .mixedOrders=true):∀(c:Code)(A:Ann)(cf:Cf)(ro:Option Nat)(Kp:List PanicEntry→World→Prop)(e:Env)(ds:List Deferred)(w:World)(Q:Exit→Env→World→Prop),
  chk cf P ro.isSome A c=true→MK D0 cf.marks ro n0 ds w→sw cf P Kp A c e w Q→c.wpIn (FW ro) 0 P (Post D0 cf.marks ro n0 Kp (wr c) e Q) (act e ds) w:=by
 intro c
 induction c with
 |skip=>intro A cf ro Kp e ds w Q _ hmk h;refine wpIn_skip ⟨e,ds,rfl,.refl _ _,hmk,?_⟩;cases A<;>exact h
 |label l=>intro A cf ro Kp e ds w Q _ hmk h;refine wpIn_label ⟨e,ds,rfl,.refl _ _,hmk,?_⟩;cases A<;>exact h
 |exit id=>intro A cf ro Kp e ds w Q _ hmk h;refine wpIn_exit ⟨e,ds,rfl,.refl _ _,hmk,?_⟩;cases A<;>exact h
 |ret=>intro A cf ro Kp e ds w Q _ hmk h;refine wpIn_ret ⟨e,ds,rfl,.refl _ _,hmk,?_⟩;cases A<;>exact h
 |goto l=>intro A cf ro Kp e ds w Q hc;cases A<;>cases hc
 |refuse y=>intro A cf ro Kp e ds w Q hc;cases A<;>cases hc
 |scope a iha=>
  intro A cf ro Kp e ds w Q hc hmk h
  cases A<;>first|cases hc|skip
  rename_i A
  refine aiu (wpIn_mono (iha A cf ro Kp e ds w _ hc hmk h) ?_)
  intro x a1 w1 hx
  cases x with
  |goto l=>obtain ⟨_,_,_,_,_,h3⟩:=hx;exact h3.elim
  |_=>exact ⟨λ_ h=>(nomatch h),hx⟩
 |region id ops draw=>
  intro A cf ro Kp e ds w Q hc hmk h
  cases A<;>first|cases hc|skip
  rename_i its
  exact agd hm hc hmk h
 |seq a b iha ihb=>
  intro A cf ro Kp e ds w Q hc hmk h
  cases A<;>first|cases hc|skip
  ·rename_i A B
   simp only[chk,gba]at hc
   refine wpIn_seq (wpIn_mono (iha A cf ro Kp e ds w _ hc.1 hmk h) ?_)
   intro x a1 w1 hx
   cases x with
   |normal=>
    obtain⟨e1,ds1,rfl,h1,h2,h3⟩:=hx
    exact wpIn_mono (ihb B cf ro Kp e1 ds1 w1 Q hc.2 h2 h3) λx a w h=>h.mono (h1.mono λt=>qQ.1) (λt=>qQ.2) λ_ _ _ h=>h
   |panic ch=>obtain ⟨⟨e1,ds1,h0,h1,h2⟩,h3⟩:=hx;exact⟨⟨e1,ds1,h0,h1.mono λt=>qQ.1,h2⟩,h3⟩
   |outgrown=>exact hx
   |_=>obtain ⟨e1,ds1,h0,h1,h2,h3⟩:=hx;exact⟨e1,ds1,h0,h1.mono λt=>qQ.1,h2,h3⟩
  ·rename_i live A B
   simp only[chk,gba]at hc
   have h:=h (λs w1=>∀e1 ds1,s=live.map (λt=>e1.getD t u_)→Ag (wr a) e e1→MK D0 cf.marks ro n0 ds1 w1→b.wpIn (FW ro) 0 P (Post D0 cf.marks ro n0 Kp (wr a++wr b) e Q) (act e1 ds1) w1)
    (λs w1 hY=>λe1 ds1 hs ha hm1=>by
     subst hs
     have:=hY e1
     simp only[agb ha]at this
     exact wpIn_mono (ihb B cf ro Kp e1 ds1 w1 Q hc.2 hm1 this) λx a w h=>h.mono (ha.mono λt=>qQ.1) (λt=>qQ.2) λ_ _ _ h=>h)
   refine wpIn_seq (wpIn_mono (iha A cf ro Kp e ds w _ hc.1 hmk h) ?_)
   intro x a1 w1 hx
   cases x with
   |normal=>obtain ⟨e1,ds1,rfl,h1,h2,h3⟩:=hx;exact h3 e1 ds1 rfl h1 h2
   |panic ch=>obtain ⟨⟨e1,ds1,h0,h1,h2⟩,h3⟩:=hx;exact⟨⟨e1,ds1,h0,h1.mono λt=>qQ.1,h2⟩,h3⟩
   |outgrown=>exact hx
   |_=>obtain ⟨e1,ds1,h0,h1,h2,h3⟩:=hx;exact⟨e1,ds1,h0,h1.mono λt=>qQ.1,h2,h3⟩
 |cond c a b iha ihb=>
  intro A cf ro Kp e ds w Q hc hmk h
  cases A<;>first|cases hc|skip
  rename_i A B
  simp only[chk,gba]at hc
  rcases ais h with⟨hb,h⟩|⟨hb,h⟩
  ·exact wpIn_cond_true (by rw[Xj];exact hb) (wpIn_mono (iha A cf ro Kp e ds w Q hc.1 hmk h) λx a w h=>h.mono (.refl _ _) (λt=>qQ.1) λ_ _ _ h=>h)
  ·exact wpIn_cond_false (by rw[Xj];exact hb) (wpIn_mono (ihb B cf ro Kp e ds w Q hc.2 hmk h) λx a w h=>h.mono (.refl _ _) (λt=>qQ.2) λ_ _ _ h=>h)
 |block id a iha=>
  intro A cf ro Kp e ds w Q hc hmk h
  cases A<;>first|cases hc|skip
  rename_i A
  refine wpIn_block (wpIn_mono (iha A cf ro Kp e ds w _ hc hmk h) ?_)
  intro x a1 w1 hx
  cases x with
  |exit id'=>
   obtain⟨e1,ds1,h0,h1,h2,h3⟩:=hx
   simp only[Exit.inBlock]
   cases hb:Nat.beq id' id with
   |true=>rw [if_pos (Nat.eq_of_beq_eq_true hb)];simp only[hb]at h3;exact⟨e1,ds1,h0,h1,h2,h3⟩
   |false=>rw [if_neg (Nat.ne_of_beq_eq_false hb)];simp only[hb]at h3;exact⟨e1,ds1,h0,h1,h2,h3⟩
  |panic ch=>exact hx
  |outgrown=>exact hx
  |_=>exact hx
 |loop a iha=>
  intro A cf ro Kp e ds w Q hc hmk h
  cases A<;>first|cases hc|skip
  rename_i live A
  obtain⟨ι,f,I,μ,i₀,hi0,hI0,hround⟩:=h
  have hcl:∃C:Act→Option ι,∀a,(∃i,∃e1 ds1,a=act e1 ds1∧live.map (λt=>e1.getD t u_)=f i)→True:=⟨λ_=>none,λ_ _=>trivial⟩
  clear hcl
  intro b k cs hro hb hr
  have key:∀j i e1 ds1 w1,μ i=j→live.map (λt=>e1.getD t u_)=f i→Ag (wr a) e e1→MK D0 cf.marks ro n0 ds1 w1→I i w1→
    ∃x a' w',Post D0 cf.marks ro n0 Kp (wr a) e Q x a' w'∧ArrivesIn (Machine.fenced P (FW ro)) P (lone (b.atR (act e1 ds1) (.code a::.inLoop a::k)) cs w1) b k cs x a' w':=by
   intro j
   induction j using Nat.strongRecOn with
   |_ j ih=>
    intro i e1 ds1 w1 hj hl hag hm1 hI
    have hbody:=hround i e1 w1 hI
    rw[← hl]at hbody
    simp only[agb hag]at hbody
    obtain⟨x,a1,w2,hq,harr⟩:=iha A cf ro Kp e1 ds1 w1 _ hc hm1 hbody b (.inLoop a::k) cs hro hb hr
    have pass:∀x,x≠.normal→x≠.outgrown→ArrivesIn (Machine.fenced P (FW ro)) P (lone (b.atR (act e1 ds1) (.code a::.inLoop a::k)) cs w1) b (.inLoop a::k) cs x a1 w2→
      ArrivesIn (Machine.fenced P (FW ro)) P (lone (b.atR (act e1 ds1) (.code a::.inLoop a::k)) cs w1) b k cs x a1 w2:=
     λx hx _ h=>.pass (x:=.inLoop a) rfl (λ_ _=>.inl hx) h
    cases x with
    |normal=>
     obtain⟨e2,ds2,rfl,hag2,hm2,i',hl2,hI2,hlt⟩:=hq
     obtain⟨x,a',w',hq',harr'⟩:=ih (μ i') (hj▸hlt) i' e2 ds2 w2 rfl hl2 (hag.trans hag2) hm2 hI2
     exact⟨x,a',w',hq',.of_steps (StepsIn.trans harr (.one (fenced_calm hb hr rfl) stepR_inLoop)) harr'⟩
    |panic ch=>obtain ⟨⟨e2,ds2,h0,h1,h2⟩,h3⟩:=hq;exact⟨.panic ch,a1,w2,⟨⟨e2,ds2,h0,hag.trans h1,h2⟩,h3⟩,pass _ (by simp) (by simp) harr⟩
    |outgrown=>exact hq.elim
    |exit id=>obtain ⟨e2,ds2,h0,h1,h2,h3⟩:=hq;exact⟨.exit id,a1,w2,⟨e2,ds2,h0,hag.trans h1,h2,h3⟩,pass _ (by simp) (by simp) harr⟩
    |goto l=>obtain ⟨e2,ds2,h0,h1,h2,h3⟩:=hq;exact⟨.goto l,a1,w2,⟨e2,ds2,h0,hag.trans h1,h2,h3⟩,pass _ (by simp) (by simp) harr⟩
    |ret=>obtain ⟨e2,ds2,h0,h1,h2,h3⟩:=hq;exact⟨.ret,a1,w2,⟨e2,ds2,h0,hag.trans h1,h2,h3⟩,pass _ (by simp) (by simp) harr⟩
  obtain⟨x,a',w',hq,harr⟩:=key _ i₀ e ds w rfl hi0 (.refl _ _) hmk hI0
  exact⟨x,a',w',hq,.of_steps (.one (fenced_calm hb hr rfl) stepR_loop) harr⟩
 |rangeFunc g ps assign body iha ihb=>
  intro A cf ro Kp e ds w Q hc hmk h
  cases A<;>first|cases hc|skip
  rename_i ids A B
  simp only[chk,gba]at hc
  obtain⟨⟨hmarks,hcA⟩,hcB⟩:=hc
  have hmk':MK D0 true ro n0 ds w:=by rw[hmarks]at hmk;exact hmk
  rw[hmarks]
  have hc':({ cf with pan:=false }:Cf).marks=true:=hmarks
  refine ahu (rA:=λe1 w1 Q1=>sw { cf with pan:=false } P (λ_ _=>False) A assign e1 w1 Q1) (rB:=λe1 w1 Q1=>sw { cf with pan:=false } P (λ_ _=>False) B body e1 w1 Q1) (ids:=ids) ?_ ?_ hmk' h
  ·intro l e1 w1 Q1 hm1 h1
   have:=iha A { cf with pan:=false } (some l) (λ_ _=>False) e1 [] w1 Q1 hcA (by rw[hc'];exact hm1) h1
   rw[hc']at this;exact this
  ·intro l e1 w1 Q1 hm1 h1
   have:=ihb B { cf with pan:=false } (some l) (λ_ _=>False) e1 [] w1 Q1 hcB (by rw[hc'];exact hm1) h1
   rw[hc']at this;exact this
def adU(tm:Array Value):ResultVar→Sem Value
 |.tmp t=>pure (tm.getD t u_)
 |.cell a t=>do loadVar t (← asAddr (tm.getD a u_))
theorem abW{w:World}{e:Env}:∀(rs:List ResultVar)(K:List Value→Prop),adT P w e rs K→
  ∃vs,(rs.mapM (adU e.toArray)).run P w=.ok vs w∧K vs
 |[],K,h=>⟨[],rfl,h⟩
 |.tmp t::r,K,h=>by
  obtain⟨vs,h1,h2⟩:=abW r _ h
  refine⟨_,?_,h2⟩
  have h0:(adU e.toArray (.tmp t)).run P w=.ok (e.getD t u_) w:=by simp[adU,pure]
  simp only[List.mapM_cons,Sem.run_bind,h0,Result.andThen,h1]
  rfl
 |.cell a t::r,K,h=>by
  obtain⟨v,hv,h⟩:=h
  obtain⟨vs,h1,h2⟩:=abW r _ h
  refine⟨_,?_,h2⟩
  have hv':=hv w (Ext.refl w)
  have h0:(adU e.toArray (.cell a t)).run P w=.ok v w:=by
   have :e.toArray.getD a u_=e.getD a u_:=by simp
   simp only[adU,this];exact hv'
  simp only[List.mapM_cons,Sem.run_bind,h0,Result.andThen,h1]
  rfl
theorem acQ{f:Func}{w:World}{e:Env}{K:List Value→Prop}(h:adT P w e f.results.toList K):∃vs,(results f e.toArray).run P w=.ok (tup vs) w∧K vs:=by
 obtain⟨vs,h1,h2⟩:=abW _ _ h
 refine⟨vs,?_,h2⟩
 have hr:results f e.toArray=(do let vs ← f.results.mapM (adU e.toArray);pure (if h:vs.size=1 then vs[0]else .tuple vs)):=rfl
 rw[hr,Array.mapM_eq_mapM_toList]
 simp only[Sem.run_bind,map_eq_pure_bind,h1,Result.andThen]
 match vs with
 |[]=>rfl
 |[v]=>rfl
 |a::b::r=>rfl
theorem Shuts.refl(n:Nat)(w:World):Shuts n w w:=⟨rfl,rfl,rfl,rfl,λ_ _=>rfl⟩
theorem Shuts.trans{n:Nat}{a b c:World}(h:Shuts n a b)(k:Shuts n b c):Shuts n a c:=
 ⟨k.os.trans h.os,k.tape.trans h.tape,k.output.trans h.output,k.size.trans h.size,λi hi=>by
  have h1:=h.block i hi
  rw[k.block i (hi.imp id λhd ds=>by rw[h1];exact hd ds),h1]⟩
theorem Shuts.put{n r:Nat}{w:World}{ds:Option (List Deferred)}(hr:n≤r)(h:w.heap[r]? = some (.deferred ds)):Shuts n w (w.putObj r (.deferred none)):=
 ⟨rfl,rfl,rfl,by simp,λk hk=>by
  refine World.putObj_heap_other λe=>?_
  subst e
  rcases hk with hk|hk
  ·omega
  ·exact hk _ h⟩
theorem Xl{fn:Func}{tmps:Array Value}{R:Ending→World→Prop}{n:Nat}{u:FrameMode}(hu:u≠.run):∀(rs:List Nat)(w:World),rs.Nodup→(∀r∈rs,n≤r∧w.heap[r]? = some (.deferred (some [])))→
  (∀w',Shuts n w w'→LeavesIn (FW none) 0 P fn tmps R [] u w')→LeavesInM (FW none) 0 P fn tmps R (rs.map λr=>{ target:=.collected r,args:=#[] }) u w
 |[],w,_,_,h=>h w (.refl _ _)
 |r::rs,w,hn,hr,h=>by
  obtain⟨h1,h2⟩:=hr r List.mem_cons_self
  rw[List.nodup_cons]at hn
  refine⟨hu,.inl ⟨r,_,rfl,run_takeDeferred h2,Xl hu rs _ hn.2 (λr' hr'=>⟨(hr r' (List.mem_cons_of_mem _ hr')).1,?_⟩) λw' hw'=>h w' ((Shuts.put h1 h2).trans hw')⟩⟩
  rw[World.putObj_heap_other λe=>hn.1 (by rw[← e];exact hr')]
  exact(hr r' (List.mem_cons_of_mem _ hr')).2
def amV(m:Bool)(n:Nat)(Kp:List PanicEntry→World→Prop):List PanicEntry→World→Prop:=
 match m with
 |false=>Kp
 |true=>λc w=>∀w',Shuts n w w'→Kp c w'
theorem agf{cf:Cf}{f:FuncId}{fn:Func}{A:Ann}{args:Array Value}{w:World}{K:Value→World→Prop}{Kp Kp0:List PanicEntry→World→Prop}
  (hkp:∀c w',Kp0 c w'→amV cf.marks w.heap.size Kp c w') (hm:P.follows .mixedOrders=true) (hf:P.funcs[f]? = some fn) (hb:fn.body.isSome=true) (hc:chk cf P false A (Ym fn)=true)
  (h:sw cf P Kp0 A (Ym fn) (args.toList++List.replicate (fn.ntmps-args.size) u_) w (akf cf.marks P fn w K)):acL P f args w K Kp:=by
 obtain⟨c,hbc⟩:=Option.isSome_iff_exists.1 hb
 have hbody:Ym fn=c:=by simp[Ym,hbc]
 rw[hbody]at hc h
 refine(callsIn_wide (n:=0)).1 (callsIn_of_wp_marks (F:=FW none) hf hbc trivial ?_)
 have hact:({ tmps:=args++Array.replicate (fn.ntmps-args.size) u_,defers:=[] }:Act)=act (args.toList++List.replicate (fn.ntmps-args.size) u_) []:=by
  simp only[act,Act.mk.injEq,and_true]
  apply Array.ext'
  simp
 rw[hact]
 have hmk:MK [] cf.marks none w.heap.size [] w:=by
  cases hmm:cf.marks with
  |false=>rfl
  |true=>exact ⟨Nat.le_refl _,(λd hd=>by cases hd),[],rfl,List.nodup_nil,(λr hr=>by cases hr)⟩
 refine wpIn_mono (akh (n0:=w.heap.size) hm c A cf none _ _ [] w _ hc hmk h) ?_
 have leave:∀(a:Act)(w':World),(∃e ds,a=act e ds∧Ag (wr c) (args.toList++List.replicate (fn.ntmps-args.size) u_) e∧MK [] cf.marks none w.heap.size ds w'∧ake cf.marks P fn w.heap.size e w' K)→
   LeavesInM (FW none) 0 P fn a.tmps (fun
    |.returned v,w'=>K v w'
    |.panicked c,w'=>Kp c w'
    |.outgrown,_=>False) a.defers .returning w':=by
  rintro a w' ⟨e,ds,rfl,_,hmk,hq⟩
  cases hmm:cf.marks with
  |false=>
   rw[hmm]at hmk hq
   have hds:ds=[]:=hmk
   subst hds
   obtain⟨vs,h1,h2⟩:=acQ hq
   exact⟨_,h1,h2⟩
  |true=>
   rw[hmm]at hmk hq
   obtain⟨_,_,rs,hds,hnd,hrs⟩:=hmk
   rw[List.append_nil]at hds
   subst hds
   refine Xl (by simp) rs w' hnd hrs λw'' hw=>?_
   obtain⟨vs,h1,h2⟩:=acQ (hq w'' hw)
   exact⟨_,h1,h2⟩
 intro x a w' hx
 cases x with
 |normal=>exact leave a w' hx
 |ret=>exact leave a w' hx
 |panic ch=>
  obtain⟨⟨e,ds,rfl,_,hmk⟩,hk⟩:=hx
  have hk:=hkp _ _ hk
  show LeavesInM _ _ _ _ _ _ _ _ _
  cases hmm:cf.marks with
  |false=>
   rw[hmm]at hmk hk
   have hds:ds=[]:=hmk
   subst hds;exact hk
  |true=>
   rw[hmm]at hmk hk
   obtain⟨_,_,rs,hds,hnd,hrs⟩:=hmk
   rw[List.append_nil]at hds
   subst hds
   exact Xl (by simp) rs w' hnd hrs λw'' hw=>hk w'' hw
 |outgrown=>exact hx.elim
 |exit id=>obtain ⟨_,_,_,_,_,h⟩:=hx;exact h.elim
 |goto l=>obtain ⟨_,_,_,_,_,h⟩:=hx;exact h.elim
theorem ahv{cf:Cf}{f:FuncId}{fn:Func}{A:Ann}{args:Array Value}{w:World}{K:Value→World→Prop}
  (hm:P.follows .mixedOrders=true) (hf:P.funcs[f]? = some fn) (hb:fn.body.isSome=true) (hc:chk cf P false A (Ym fn)=true)
  (h:sw cf P (λ_ _=>False) A (Ym fn) (args.toList++List.replicate (fn.ntmps-args.size) u_) w (akf cf.marks P fn w K)):zd P f args w K:=by
 have hp:=agf (Kp:=λ_ _=>False) (λ_ _ h=>h.elim) hm hf hb hc h
 refine hp.mono λx w' hx=>?_
 cases x with
 |returned v=>exact ⟨v,rfl,hx⟩
 |panicked c=>exact hx.elim
 |outgrown=>exact hx.elim
end
section
variable {P:Program} {w:World} {K:Value→Prop} {t:TypeId} {c:Bool}
theorem yS{s:Sem Value}{v:Value}(h:∀w,s.run P w=.ok v w)(k:K v):opP P s K:=⟨v,h,k⟩
theorem alZ{s:Sem Value}{v:Value}(h:∀w',Ext w w'→s.run P w'=.ok v w')(k:K v):opQ P w s K:=⟨v,h,k⟩
theorem kK{op:BinOp}{k:IntKind}{a b:Int}{k':IntKind}(w:World):(yR op t c (.int k a) (.int k' b)).run P w=(binOp op t (.int k a) (.int k' b)).run P w:=by
 cases op<;>rfl
theorem VL{n:Int}(h: -9223372036854775808≤n∧n<9223372036854775808):IntKind.i64.wrap n=n:=by
 rw[IntKind.wrap_i64];omega
theorem aiv{a b:Int}(h: -9223372036854775808≤a+b∧a+b<9223372036854775808)(k:K (.int .i64 (a+b))):opP P (yR .add t c (.int .i64 a) (.int .i64 b)) K:=
 yS (λw=>by rw[kK];simp[binOp,Op.intArith,VL h]) k
theorem amW{a b:Int}(h: -9223372036854775808≤a-b∧a-b<9223372036854775808)(k:K (.int .i64 (a-b))):opP P (yR .sub t c (.int .i64 a) (.int .i64 b)) K:=
 yS (λw=>by rw[kK];simp[binOp,Op.intArith,VL h]) k
theorem amX{i:IntKind}{a b:Int}(k:K (.bool (decide (a<b)))):opP P (yR .lss t c (.int i a) (.int i b)) K:=yS (λw=>by rw[kK];simp[binOp,Op.intCmp]) k
theorem amY{i:IntKind}{a b:Int}(k:K (.bool (decide (a≤b)))):opP P (yR .leq t c (.int i a) (.int i b)) K:=yS (λw=>by rw[kK];simp[binOp,Op.intCmp]) k
theorem amZ{i:IntKind}{a b:Int}(k:K (.bool (decide (b<a)))):opP P (yR .gtr t c (.int i a) (.int i b)) K:=yS (λw=>by rw[kK];simp[binOp,Op.intCmp]) k
theorem am0{i:IntKind}{a b:Int}(k:K (.bool (decide (b≤a)))):opP P (yR .geq t c (.int i a) (.int i b)) K:=yS (λw=>by rw[kK];simp[binOp,Op.intCmp]) k
theorem am1{i:IntKind}{a b:Int}(k:K (.bool (decide (a=b)))):opP P (yR .eql t c (.int i a) (.int i b)) K:=
 yS (λw=>by rw[kK];simp[binOp,Op.intCmp];rfl) k
theorem am2{i:IntKind}{a b:Int}(k:K (.bool (decide (a≠b)))):opP P (yR .neq t c (.int i a) (.int i b)) K:=
 yS (λw=>by rw[kK];simp[binOp,Op.intCmp,bne];rfl) k
theorem am3{b:Bool}(k:K (.bool (!b))):opP P (Op.unary .not (.bool b)) K:=yS (λ_=>rfl) k
def ld1(P:Program)(t:TypeId):Bool:=
 match P.underlying t with|some (.struct _)=>false|some (.array _ _)=>false|some _=>true|none=>false
def ldN(P:Program)(t:TypeId):Option Nat:=
 match P.underlying t with|some (.struct _)=>(P.info? t).map (·.size)|some (.array _ _)=>(P.info? t).map (·.size)|_=>none
def szT(P:Program)(t:TypeId):Option Nat:=(P.info? t).map (·.size)
def aki(P:Program)(t:TypeId)(i:Nat):Option Nat:=
 match P.underlying t with
 |some (.struct fs)=>(fs[i]?).bind λf=>match szT P f.type with|some (_+1)=>some f.offset|_=>none
 |_=>none
def slT(P:Program)(t:TypeId):Option (TypeId×Nat):=
 match P.underlying t with|some (.slice e)=>(szT P e).map λn=>(e,n)|_=>none
def kdT(P:Program)(t:TypeId):Option IntKind:=match P.underlying t with|some (.int k)=>some k|_=>none
def zrT(P:Program)(t:TypeId):Option (List Value):=(P.info? t).bind λi=>i.zero.map (·.cells.toList)
theorem zA{d:TypeDesc}(h:P.underlying t=some d)(w:World):(underlying t).run P w=.ok d w:=by
 simp[underlying,program,Sem.run_bind,Sem.run,pure,Result.andThen,h]
theorem z6{n:Nat}(h:szT P t=some n)(w:World):(sizeOf t).run P w=.ok n w:=by
 unfold szT at h
 cases hi:P.info? t with
 |none=>rw [hi]at h;cases h
 |some i=>
  rw[hi]at h;simp only[Option.map_some,Option.some.injEq]at h
  simp[sizeOf,typeInfo,program,Sem.run_bind,Sem.run,pure,Result.andThen,hi,h]
theorem aln{b off n i:Nat}(h:aki P t i=some n)(k:K (.pointer (some ⟨b,off+n,none⟩))):opP P (Instr.fieldAt t (.pointer (some ⟨b,off,none⟩)) i) K:=by
 refine yS (λw=>?_) k
 unfold aki at h
 cases hu:P.underlying t with
 |none=>rw [hu]at h;cases h
 |some d=>
  rw[hu]at h
  cases d<;>first|cases h|skip
  rename_i fs
  simp only at h
  cases hf:fs[i]? with
  |none=>rw [hf]at h;cases h
  |some f=>
   rw[hf]at h
   simp only[Option.bind_some]at h
   cases hs:szT P f.type with
   |none=>rw [hs]at h;cases h
   |some m=>
    rw[hs]at h
    cases m with
    |zero=>cases h
    |succ m=>
     simp only[Option.some.injEq]at h
     subst h
     have hadd:(⟨b,off,none⟩:Addr).add f.offset=⟨b,off+f.offset,none⟩:=by
      unfold Addr.add;split
      ·rename_i h0;rw[h0];rfl
      ·rfl
     simp[Instr.fieldAt,Sem.run_bind,zA hu,Result.andThen,hf,Instr.sureAddr,fieldPlace,z6 hs,Sem.run,pure,hadd]
theorem ahT{b off len cap:Nat}{k:IntKind}{i:Int}{e:TypeId}{n:Nat}(h:slT P t=some (e,n))(h0:0≤i)(h1:i<len)
  (hk:K (.pointer (some ⟨b,off+i.toNat*n,none⟩))):opP P (Instr.indexAt t (.slice (some ⟨b,off,none⟩) len cap) (.int k i)) K:=by
 refine yS (λw=>?_) hk
 unfold slT at h
 cases hu:P.underlying t with
 |none=>rw [hu]at h;cases h
 |some d=>
  rw[hu]at h
  cases d<;>first|cases h|skip
  rename_i e'
  simp only[Option.map_eq_some_iff,Prod.mk.injEq]at h
  obtain⟨m,hs,rfl,rfl⟩:=h
  have hadd:(⟨b,off,none⟩:Addr).add (i.toNat*m)=⟨b,off+i.toNat*m,none⟩:=by
   unfold Addr.add;split
   ·rename_i h0;rw[h0];rfl
   ·rfl
  simp[Instr.indexAt,Sem.run_bind,asIntOf,zA hu,Result.andThen,Sem.run,pure,h0,h1,z6 hs,hadd]
end
def Blk(w:World)(b:Nat)(c:List Value)(T:TypeId):Prop:=w.heap[b]? = some (.cells c.toArray T (0,0))
theorem Blk.lt{w:World}{b:Nat}{c:List Value}{T:TypeId}(h:Blk w b c T):b<w.heap.size:=(Array.getElem?_eq_some_iff.1 h).1
theorem Blk.cell{w:World}{b:Nat}{c:List Value}{T:TypeId}(h:Blk w b c T)(i:Nat):w.cell? ⟨b,i,none⟩=c[i]?:=by
 simp[World.cell?,show w.heap[b]? = _ from h]
theorem Blk.unfrozen{w:World}{b:Nat}{c:List Value}{T:TypeId}(h:Blk w b c T)(i:Nat):w.frozen? ⟨b,i,none⟩=false:=by
 simp[World.frozen?,show w.heap[b]? = _ from h]
theorem Blk.ext{w w':World}{b:Nat}{c:List Value}{T:TypeId}(h:Blk w b c T)(e:Ext w w'):Blk w' b c T:=(e.block b h.lt).trans h
theorem ahU{w:World}{a:Addr}{v:Value}(h:w.cell? a=some v):a.block<w.heap.size:=by
 unfold World.cell? at h
 cases ho:w.heap[a.block]? with
 |none=>rw [ho]at h;cases h
 |some o=>exact (Array.getElem?_eq_some_iff.1 ho).1
theorem agh{w w':World}{a:Addr}{v:Value}(h:w.cell? a=some v)(e:Ext w w'):w'.cell? a=some v:=by
 rw[World.cell?_of_block (w:=w) (e.block _ (ahU h))];exact h
theorem ExtBut.of_ext{S:Nat→Prop}{w w':World}(e:Ext w w'):ExtBut S w w':=⟨e.os,e.tape,e.output,e.size,λk hk _=>e.block k hk⟩
theorem ExtBut.refl(S:Nat→Prop)(w:World):ExtBut S w w:=⟨rfl,rfl,rfl,Nat.le_refl _,λ_ _ _=>rfl⟩
theorem ExtBut.trans{S:Nat→Prop}{a b c:World}(h:ExtBut S a b)(k:ExtBut S b c):ExtBut S a c:=
 ⟨k.os.trans h.os,k.tape.trans h.tape,k.output.trans h.output,Nat.le_trans h.size k.size,λi hi hn=>by
  have:=h.size
  rw[k.block i (by omega) hn,h.block i hi hn]⟩
theorem ExtBut.mono{S S':Nat→Prop}{w w':World}(h:ExtBut S w w')(hs:∀k,k<w.heap.size→S k→S' k):ExtBut S' w w':=
 ⟨h.os,h.tape,h.output,h.size,λk hk hn=>h.block k hk λhS=>hn (hs k hk hS)⟩
theorem Ext.drew(w:World):Ext w w.drew:=(Below.refl _ w).drew
theorem NC.of_ext{w w':World}(e:Ext w w'):NC w w':=⟨e.size,λb _ hb _=>by rw[e.block b (Array.getElem?_eq_some_iff.1 hb).1];exact hb⟩
def Sl(w:World)(p:Option Addr)(vs:List Value):Prop:=
 ∀i v,vs[i]? = some v→∃b off,p=some ⟨b,off,none⟩∧w.cell? ⟨b,off+i,none⟩=some v
theorem Sl.nil(w:World)(p:Option Addr):Sl w p []:=λi v h=>by cases h
theorem Sl.take{w:World}{p:Option Addr}{vs:List Value}(h:Sl w p vs)(n:Nat):Sl w p (vs.take n):=λi v hv=>h i v (by
 rw[List.getElem?_take]at hv;split at hv<;>first|exact hv|cases hv)
theorem Sl.blk{w:World}{b:Nat}{c:List Value}{T:TypeId}(h:Blk w b c T):Sl w (some ⟨b,0,none⟩) c:=λi v hv=>⟨b,0,rfl,by rw[Nat.zero_add,h.cell i];exact hv⟩
theorem Sl.at{w:World}{p:Option Addr}{vs:List Value}(h:Sl w p vs){i:Nat}(hi:i<vs.length):∃b off,p=some ⟨b,off,none⟩∧w.cell? ⟨b,off+i,none⟩=some vs[i]:=
 h i _ (gqg hi)
section
variable {P:Program} {w:World} {t:TypeId}
theorem aje{a:Addr}{v:Value}(ht:ld1 P t=true)(h:w.cell? a=some v):(Instr.loadAt t (.pointer (some a))).run P w=.ok v w:=by
 unfold ld1 at ht
 cases hu:P.underlying t with
 |none=>rw [hu]at ht;cases ht
 |some d=>
  rw[hu]at ht
  have hag:(isAgg t).run P w=.ok false w:=by
   simp only[isAgg,Sem.run_bind,zA hu,Result.andThen]
   cases d<;>first|(cases ht;done)|rfl
  simp[Instr.loadAt,Instr.sureAddr,loadVar,Sem.run_bind,Sem.run,pure,Result.andThen,hag,load,h]
theorem ajf{K:Value→Prop}{a:Addr}{v:Value}(ht:ld1 P t=true)(h:w.cell? a=some v)(k:K v):opQ P w (Instr.loadAt t (.pointer (some a))) K:=
 alZ (λ_ e=>aje ht (agh h e)) k
theorem YV{a:Addr}:∀(vs:List Value)(i:Nat)(acc:Array Value),(∀j v,vs[j]? = some v→w.cell? (a.add (i+j))=some v)→
  (loadCellsFrom a i vs.length acc).run P w=.ok (acc++vs.toArray) w
 |[],i,acc,_=>by simp[loadCellsFrom,pure]
 |v::vs,i,acc,h=>by
  have h0:w.cell? (a.add i)=some v:=h 0 v rfl
  have:=YV vs (i+1) (acc.push v) λj u hj=>by
   have:=h (j+1) u (by simpa using hj)
   rwa[show i+1+j=i+(j+1)by omega]
  simp only[List.length_cons,loadCellsFrom,Sem.run_bind,load,Sem.run,h0,Result.andThen,this]
  simp
theorem xv(b off n:Nat):(⟨b,off,none⟩:Addr).add n=⟨b,off+n,none⟩:=by
 unfold Addr.add;split
 ·rename_i h;rw[h];rfl
 ·rfl
theorem ajg{b off:Nat}{vs:List Value}(ht:ldN P t=some vs.length)(h:∀j v,vs[j]? = some v→w.cell? ⟨b,off+j,none⟩=some v):
  (Instr.loadAt t (.pointer (some ⟨b,off,none⟩))).run P w=.ok (.agg vs.toArray) w:=by
 have hc:=YV (P:=P) (w:=w) (a:=⟨b,off,none⟩) vs 0 #[] λj v hj=>by rw[xv,Nat.zero_add];exact h j v hj
 have hag:(isAgg t).run P w=.ok true w∧szT P t=some vs.length:=by
  unfold ldN at ht
  cases hu:P.underlying t with
  |none=>rw [hu]at ht;cases ht
  |some d=>
   rw[hu]at ht
   cases d<;>first|(cases ht;done)|exact ⟨by simp[isAgg,Sem.run_bind,zA hu,Result.andThen,Sem.run,pure],ht⟩
 simp[Instr.loadAt,Instr.sureAddr,loadVar,Sem.run_bind,Sem.run,pure,Result.andThen,hag.1,z6 hag.2,loadCells,hc]
theorem adV{K:Value→Prop}{b off:Nat}{vs:List Value}(ht:ldN P t=some vs.length)(h:∀j v,vs[j]? = some v→w.cell? ⟨b,off+j,none⟩=some v)(k:K (.agg vs.toArray)):
  opQ P w (Instr.loadAt t (.pointer (some ⟨b,off,none⟩))) K:=
 alZ (λ_ e=>ajg ht λj v hj=>agh (h j v hj) e) k
theorem ahV{K:Value→Prop}{b:Nat}{c:List Value}{T:TypeId}(ht:ldN P t=some c.length)(h:Blk w b c T)(k:K (.agg c.toArray)):
  opQ P w (Instr.loadAt t (.pointer (some ⟨b,0,none⟩))) K:=adV ht (λj v hj=>by rw[Nat.zero_add,h.cell];exact hj) k
theorem alo{K:Value→Prop}{b:Nat}{c:List Value}{T:TypeId}(ht:ldN P t=some c.length)(h:Blk w b c T)(k:K (.agg c.toArray)):
  opQ P w (zk t (.pointer (some ⟨b,0,none⟩))) K:=ahV ht h k
theorem qS(w:World)(c:List Value)(T:TypeId):Ext w (w.alloc (.cells c.toArray T))∧(w.alloc (.cells c.toArray T)).heap.size=w.heap.size+1∧Blk (w.alloc (.cells c.toArray T)) w.heap.size c T:=
 ⟨aeL w _,by simp,World.alloc_heap_new w _⟩
theorem am4{K:Value→World→Prop}{v:Value}
  (h:∀b w',b=w.heap.size→Ext w w'→w'.heap.size=w.heap.size+1→Blk w' b v.cells.toList t→K (.pointer (some ⟨b,0,none⟩)) w'):opW P w (Instr.box t v) K:=by
 obtain⟨h1,h2,h3⟩:=qS w v.cells.toList t
 exact⟨_,_,by simp[Instr.box,newVar,newRow,newObj,Sem.run_bind,Sem.run,pure,Result.andThen],h _ _ rfl h1 h2 h3⟩
theorem Xm{c:List Value}(hz:zrT P t=some c):∃z:Value,z.cells.toList=c∧∀w,(zeroValue t).run P w=.ok z w:=by
 unfold zrT at hz
 cases hi:P.info? t with
 |none=>rw [hi]at hz;cases hz
 |some i=>
  rw[hi]at hz
  simp only[Option.bind_some,Option.map_eq_some_iff]at hz
  obtain⟨z,hz,hc⟩:=hz
  exact⟨z,hc,λw=>by simp[zeroValue,typeInfo,program,Sem.run_bind,Sem.run,pure,Result.andThen,hi,hz]⟩
theorem ahW{K:Value→World→Prop}{c:List Value}(hz:zrT P t=some c)
  (h:∀b w',b=w.heap.size→Ext w w'→w'.heap.size=w.heap.size+1→Blk w' b c t→K (.pointer (some ⟨b,0,none⟩)) w'):opW P w (Instr.alloc t true (.tuple #[])) K:=by
 obtain⟨z,hzc,hz⟩:=Xm hz
 obtain⟨h1,h2,h3⟩:=qS w c t
 refine⟨_,_,?_,h _ _ rfl h1 h2 h3⟩
 simp only[Instr.alloc,Sem.run_bind,hz,Result.andThen,newVar,newRow,newObj,Sem.run,pure]
 subst hzc
 simp
end
end
section
section
variable {P:Program} {w:World} {t:TypeId}
theorem Xn{b:Nat}{c:List Value}{T:TypeId}(B:Blk w b c T)(c':List Value):
  ExtBut (· = b) w (w.setRow b c'.toArray)∧(w.setRow b c'.toArray).heap.size=w.heap.size∧Blk (w.setRow b c'.toArray) b c' T:=
 ⟨⟨rfl,rfl,rfl,by simp[World.setRow],λk _ hk=>setRow_other w b k _ hk⟩,by simp[World.setRow],setRow_heap w b _ _ T (0,0) B⟩
theorem adW{K:World→Prop}{v:Value}{b off:Nat}{c:List Value}{T:TypeId}(hs:szT P t=some v.cells.size)(B:Blk w b c T)(hfit:off+v.cells.size≤c.length)
  (h1:∀u∈v.cells.toList,u.oneCell'=true)
  (h:∀w',ExtBut (· = b) w w'→w'.heap.size=w.heap.size→Blk w' b (c.take off++v.cells.toList++c.drop (off+v.cells.size)) T→K w'):
  opU P w (Instr.storeAt t (.pointer (some ⟨b,off,none⟩)) v) K:=by
 obtain⟨h2,h3,h4⟩:=Xn B (c.take off++v.cells.toList++c.drop (off+v.cells.size))
 refine⟨_,?_,h _ h2 h3 h4⟩
 have hst:=run_storeCells_at P b off T v.cells.toList 0 c.toArray w B (by simpa using hfit) h1
 simp only[Nat.add_zero,Array.length_toList]at hst
 simp[Instr.storeAt,Instr.sureAddr,storeVar,Sem.run_bind,Sem.run,pure,Result.andThen,z6 hs,hst]
theorem akj{K:World→Prop}{v:Value}{b:Nat}{c:List Value}{T:TypeId}(hs:szT P t=some v.cells.size)(B:Blk w b c T)(hfit:v.cells.size=c.length)
  (h1:∀u∈v.cells.toList,u.oneCell'=true)
  (h:∀w',ExtBut (· = b) w w'→w'.heap.size=w.heap.size→Blk w' b v.cells.toList T→K w'):
  opU P w (Instr.storeAt t (.pointer (some ⟨b,0,none⟩)) v) K:=
 adW hs B (by omega) h1 λw' h2 h3 h4=>h w' h2 h3 (by simpa [hfit]using h4)
theorem akk{K:World→Prop}{v:Value}{b off:Nat}{c:List Value}{T:TypeId}(hs:szT P t=some 1)(B:Blk w b c T)(hfit:off<c.length)(h1:v.oneCell'=true)
  (h:∀w',ExtBut (· = b) w w'→w'.heap.size=w.heap.size→Blk w' b (c.set off v) T→K w'):
  opU P w (Instr.storeAt t (.pointer (some ⟨b,off,none⟩)) v) K:=by
 have hv:v.cells=#[v]:=by cases v<;>first|rfl|cases h1
 refine adW (by rw[hv];exact hs) B (by rw[hv];exact hfit) (by rw[hv];simpa using h1) λw' h2 h3 h4=>h w' h2 h3 ?_
 rw[hv]at h4
 have :c.take off++[v]++c.drop (off+1)=c.set off v:=by
  rw[List.set_eq_take_append_cons_drop,if_pos hfit];simp
 simpa [this]using h4
section
variable {K:Value→Prop}
theorem al0{ty e:TypeId}{n:Nat}{p:Option Addr}{len cap:Nat}(h:slT P t=some (e,n))(k:K (.int .i64 len)):opP P (Builtin.len_ #[t] ty #[.slice p len cap]) K:=by
 refine yS (λw=>?_) k
 unfold slT at h
 cases hu:P.underlying t with
 |none=>rw [hu]at h;cases h
 |some d=>
  rw[hu]at h
  cases d<;>first|cases h|skip
  simp[Builtin.len_,Sem.run_bind,zA hu,Result.andThen,Sem.run,pure,goInt]
def agi(P:Program)(t:TypeId):Bool:=match P.underlying t with|some .string=>true|_=>false
theorem aeM(h:agi P t=true):P.underlying t=some .string:=by
 unfold agi at h
 cases hu:P.underlying t with
 |none=>rw [hu]at h;cases h
 |some d=>rw [hu]at h;cases d<;>first|rfl|cases h
theorem akl{ty:TypeId}{s:ByteArray}(h:agi P t=true)(k:K (.int .i64 s.size)):opP P (Builtin.len_ #[t] ty #[.string s]) K:=
 yS (λw=>by simp[Builtin.len_,Sem.run_bind,zA (aeM h),Result.andThen,Sem.run,pure,goInt]) k
theorem al1{s:ByteArray}{kd:IntKind}{i:Int}(h:agi P t=true)(h0:0≤i)(h1:i.toNat<s.size)(k:K (.int .u8 (s[i.toNat].toNat:Int))):opP P (Instr.index t (.string s) (.int kd i)) K:=
 yS (λw=>by simp[Instr.index,asIntOf,Sem.run_bind,zA (aeM h),Result.andThen,Sem.run,pure,h0,h1]) k
theorem ajh{e:TypeId}{n:Nat}{p:Option Addr}{len cap:Nat}{kd:IntKind}{i:Int}(h:slT P t=some (e,n))(h0:0≤i)(h1:i≤cap)
  (k:K (.slice p i.toNat cap)):opP P (Instr.sliceAt t (.slice p len cap) none (some (.int kd i)) none) K:=by
 refine yS (λw=>?_) k
 unfold slT at h
 cases hu:P.underlying t with
 |none=>rw [hu]at h;cases h
 |some d=>
  rw[hu]at h
  cases d<;>first|cases h|skip
  rename_i e'
  simp only[Option.map_eq_some_iff,Prod.mk.injEq]at h
  obtain⟨m,hs,rfl,rfl⟩:=h
  cases p with
  |none=>simp [Instr.sliceAt,Instr.slice,Instr.sliceBounds,Instr.sliceBound,asIntOf,Sem.run_bind,zA hu,Result.andThen,Sem.run,pure,h0,h1,z6 hs]
  |some a=>simp [Instr.sliceAt,Instr.slice,Instr.sliceBounds,Instr.sliceBound,asIntOf,Sem.run_bind,zA hu,Result.andThen,Sem.run,pure,h0,h1,z6 hs,Addr.add]
theorem aeN{e:TypeId}{n:Nat}{p:Option Addr}{len cap:Nat}{kd:IntKind}{i:Int}(h:slT P t=some (e,n))(h0:0≤i)(h1:i≤len)
  (k:K (.slice (if cap=i.toNat then p else p.map (·.add (i.toNat*n))) (len-i.toNat) (cap-i.toNat))):opP P (Instr.sliceAt t (.slice p len cap) (some (.int kd i)) none none) K:=by
 refine yS (λw=>?_) k
 unfold slT at h
 cases hu:P.underlying t with
 |none=>rw [hu]at h;cases h
 |some d=>
  rw[hu]at h
  cases d<;>first|cases h|skip
  rename_i e'
  simp only[Option.map_eq_some_iff,Prod.mk.injEq]at h
  obtain⟨m,hs,rfl,rfl⟩:=h
  simp[Instr.sliceAt,Instr.slice,Instr.sliceBounds,Instr.sliceBound,asIntOf,Sem.run_bind,zA hu,Result.andThen,Sem.run,pure,h0,h1,z6 hs]
theorem JG{vs:Array Value}{i:Nat}{v:Value}(h:vs[i]? = some v)(k:K v):opP P (Instr.extract (.tuple vs) i) K:=
 yS (λw=>by simp[Instr.extract,h,pure]) k
theorem al2{fn:Fn}{f c:Array Value}(k:K (.func fn f c)):opP P (Instr.makeFunc fn f c) K:=yS (λ_=>rfl) k
def al3(P:Program)(t:TypeId)(parts:Array (Nat×Value)):Option (Array Value):=
 match P.underlying t,zrT P t with
 |some (.struct fields),some z=>(fields.mapM λf=>(szT P f.type).map λn=>(f.offset,n)).bind λplaces=>Instr.fill (places[·]?) z.toArray parts.toList
 |some (.array _ e),some z=>(szT P e).bind λn=>Instr.fill (λi=>some (i*n,n)) z.toArray parts.toList
 |_,_=>none
theorem aiw{fields:List Field}:∀{ps:List (Nat×Nat)},(fields.mapM λf=>(szT P f.type).map λn=>(f.offset,n))=some ps→
  (fields.mapM (m:=Sem) λf=>do pure (f.offset,← sizeOf f.type)).run P w=.ok ps w:=by
 induction fields with
 |nil=>intro ps h;simp only[List.mapM_nil]at h;cases h;rfl
 |cons f fs ih=>
  intro ps h
  simp only[List.mapM_cons,Option.bind_eq_bind,Option.bind_eq_some_iff,Option.map_eq_some_iff]at h
  obtain⟨x,⟨n,hn,rfl⟩,y,hy,h⟩:=h
  cases h
  simp only[List.mapM_cons,Sem.run_bind,z6 hn,Result.andThen,Sem.run_pure,ih hy]
theorem zy{parts:Array (Nat×Value)}{cs:Array Value}(h:al3 P t parts=some cs)(k:K (.agg cs)):opP P (Instr.build t parts) K:=by
 refine yS (λw=>?_) k
 unfold al3 at h
 cases hu:P.underlying t with
 |none=>rw [hu]at h;cases h
 |some d=>
  rw[hu]at h
  cases hz:zrT P t with
  |none=>rw [hz]at h;cases d<;>cases h
  |some z=>
   rw[hz]at h
   obtain⟨zv,hzv,hzr⟩:=Xm hz
   cases d<;>first|(cases h;done)|skip
   ·rename_i e
    simp only[Option.bind_eq_some_iff]at h
    obtain⟨n,hn,h⟩:=h
    have hzc:z.toArray=zv.cells:=by rw[← hzv]
    rw[hzc]at h
    simp[Instr.build,Sem.run_bind,hzr,Result.andThen,zA hu,z6 hn,h,pure]
   ·rename_i fields
    simp only[Option.bind_eq_some_iff]at h
    obtain⟨ps,hps,h⟩:=h
    have hzc:z.toArray=zv.cells:=by rw[← hzv]
    rw[hzc]at h
    have hl:(fields.toList.mapM λf=>(szT P f.type).map λn=>(f.offset,n))=some ps.toList:=by
     rw[← Array.toList_mapM,hps];rfl
    have hr:=aiw (w:=w) hl
    have hr':(fields.mapM (m:=Sem) λf=>do pure (f.offset,← sizeOf f.type)).run P w=.ok ps w:=by
     rw[Array.mapM_eq_mapM_toList,map_eq_pure_bind,Sem.run_bind,hr]
     simp[Result.andThen]
    simp only[Instr.build,Sem.run_bind,hzr,Result.andThen,zA hu,hr',h,Sem.run_pure]
end
def apT(P:Program)(t:TypeId):Option (TypeId×Nat×Nat):=
 match P.underlying t with
 |some (.slice e)=>(P.info? e).bind λi=>match i.zero with|some z=>if z.cells.size=i.size∧0<i.size∧0<i.bytes then some (e,i.size,i.bytes)else none|none=>none
 |_=>none
theorem agj{K:Value→World→Prop}{base:Nat}{ty e:TypeId}{size bytes:Nat}{v:Value}{n:Nat}{xs:List Value}{p:Option Addr}{m c:Nat}{news:List Value}
  (hT:apT P t=some (e,size,bytes)) (hown:w.ownsRow base e size v n xs) (hs:Sl w p news) (hl:news.length=m*size) (hp:p=none→c=0) (h1:∀u∈news,u.oneCell'=true)
  (hb:(n+m)*bytes≤140737488355328) (hbase:base≤w.heap.size)
  (h:∀v' w',w'.ownsRow base e size v' (n+m) (xs++news)→ExtBut (λk=>v.ownBlock=some k) w w'→(v'.ownBlock=v.ownBlock∨v'.ownBlock=some w.heap.size)→
   (v'=.slice none 0 0↔v=.slice none 0 0∧m=0)→K v' w'):
  opW P w (Builtin.append_ #[t,t] ty #[v,.slice p m c]) K:=by
 unfold apT at hT
 cases hu:P.underlying t with
 |none=>rw [hu]at hT;cases hT
 |some d=>
  rw[hu]at hT
  cases d<;>first|(cases hT;done)|skip
  rename_i e'
  simp only[Option.bind_eq_some_iff]at hT
  obtain⟨i,hi,hT⟩:=hT
  cases hz:i.zero with
  |none=>rw [hz]at hT;cases hT
  |some z=>
   rw[hz]at hT
   simp only at hT
   split at hT
   ·rename_i hc
    obtain⟨hzs,hsz,hbp⟩:=hc
    simp only[Option.some.injEq,Prod.mk.injEq]at hT
    obtain⟨rfl,rfl,rfl⟩:=hT
    cases p with
    |none=>
     have hn:news=[]:=by
      cases news with
      |nil=>rfl
      |cons a l=>obtain ⟨b,off,hp,_⟩:=hs 0 a rfl;cases hp
     subst hn
     have hm:m=0:=by
      rcases Nat.eq_zero_or_pos m with h|h
      ·exact h
      ·have:=Nat.mul_pos h hsz;simp at hl;omega
     subst hm
     rw[hp rfl]
     exact⟨v,w,run_append_owned_none w base t ty e' i i.size hu hi v n xs hown,h v w (by simpa using hown) (.refl _ _) (.inl rfl) (by simp)⟩
    |some a=>
     have h63:n+m≤maxLen:=by
      have :(n+m)*1≤(n+m)*i.bytes:=Nat.mul_le_mul_left _ hbp
      simp only[maxLen];omega
     obtain⟨v',w',hr,ho,hg,hnil,hblk⟩:=run_append_own_at (P:=P) w base t ty e' i z i.size i.bytes hu hi hz rfl rfl hzs hsz v n xs hown a m c news hl
      (λj u hj=>by obtain⟨b,off,hp,hc⟩:=hs j u hj;cases hp;rw[xv];exact hc) h1 h63 hb hbase
     exact⟨v',w',hr,h v' w' ho ⟨hg.os,hg.tape,hg.output,hg.size,λk hk hn=>hg.block k hk λhe=>hn he.symm⟩ hblk hnil⟩
   ·cases hT
theorem vE{base:Nat}{e:TypeId}{size:Nat}{v:Value}{n:Nat}{xs:List Value}(h:w.ownsRow base e size v n xs):
  (v=.slice none 0 0∧n=0∧xs=[])∨∃g cap c,v=.slice (some ⟨g,0,none⟩) n cap∧base≤g∧Blk w g c e∧n≤cap∧cap≤maxLen∧c.length=cap*size∧c.take (n*size)=xs:=by
 rcases h with⟨hl,⟨rfl,rfl⟩|⟨g,cap,cur,rfl,hb,hg,hn,hm,hc,ht⟩⟩
 ·exact .inl ⟨rfl,rfl,by simpa using hl⟩
 ·exact .inr ⟨g,cap,cur.toList,rfl,hb,by simpa [Blk]using hg,hn,hm,by simpa using hc,ht⟩
theorem Za{base:Nat}{e:TypeId}{size:Nat}{n g cap:Nat}{c:List Value}(hb:base≤g)(B:Blk w g c e)(hn:n≤cap)(hm:cap≤maxLen)(hc:c.length=cap*size):
  w.ownsRow base e size (.slice (some ⟨g,0,none⟩) n cap) n (c.take (n*size)):=
 ⟨by rw[List.length_take,hc];exact Nat.min_eq_left (Nat.mul_le_mul_right _ hn),.inr ⟨g,cap,c.toArray,rfl,hb,B,hn,hm,by simpa using hc,by simp⟩⟩
theorem aix(z:Value)(n:Nat)(hz:z.cells.size=1):(madeCells z.cells n).toList=List.replicate n (z.cells[0]!):=by
 apply List.ext_getElem
 ·simp[madeCells]
 ·intro i h1 h2
  simp[madeCells,hz,Nat.mod_one]
theorem aji{K:Value→World→Prop}{e:TypeId}{bytes:Nat}{kl:IntKind}{n:Int}{z:Value}(hT:apT P t=some (e,1,bytes))(hz:zrT P e=some [z])(h0:0≤n)(hb:(bytes:Int)*n≤281474976710656)
  (h:∀b w',b=w.heap.size→Ext w w'→w'.heap.size=w.heap.size+1→Blk w' b (List.replicate n.toNat z) e→K (.slice (some ⟨b,0,none⟩) n.toNat n.toNat) w'):
  opW P w (Instr.makeSlice t (.int kl n) (.int kl n)) K:=by
 unfold apT at hT
 cases hu:P.underlying t with
 |none=>rw [hu]at hT;cases hT
 |some d=>
  rw[hu]at hT
  cases d<;>first|(cases hT;done)|skip
  rename_i e'
  simp only[Option.bind_eq_some_iff]at hT
  obtain⟨i,hi,hT⟩:=hT
  cases hzz:i.zero with
  |none=>rw [hzz]at hT;cases hT
  |some zv=>
   rw[hzz]at hT
   simp only at hT
   split at hT
   ·rename_i hc
    obtain⟨hzs,hsz,hbp⟩:=hc
    simp only[Option.some.injEq,Prod.mk.injEq]at hT
    obtain⟨rfl,h1,rfl⟩:=hT
    have hzl:zv.cells.toList=[z]:=by
     unfold zrT at hz
     rw[hi]at hz
     simpa [hzz]using hz
    have hr:=run_make (P:=P) w t e' i zv hu hi hzz kl kl n n h0 (Int.le_refl _) hb (by
     have :(1:Int)*n≤(i.bytes:Int)*n:=Int.mul_le_mul_of_nonneg_right (by omega) h0
     omega)
    have hm:madeCells zv.cells (n.toNat*i.size)=(List.replicate n.toNat z).toArray:=by
     apply Array.ext'
     rw[h1,Nat.mul_one,aix zv _ (by rw[hzs,h1])]
     have :zv.cells[0]! = z:=by
      have :zv.cells=#[z]:=by apply Array.ext';simpa using hzl
      rw[this];rfl
     rw[this]
    rw[hm]at hr
    obtain⟨h2,h3,h4⟩:=qS w (List.replicate n.toNat z) e'
    exact⟨_,_,hr,h _ _ rfl h2 h3 h4⟩
   ·cases hT
def abX(P:Program)(t:TypeId)(len:Nat)(parts:Array (Nat×Value)):Option (TypeId×List Value):=
 match P.underlying t with
 |some (.slice e)=>(szT P e).bind λn=>if len*n>2 ^ 24 then none else
  (if len*n=0 then some #[]else(zrT P e).map (·.toArray)).bind λzero=>
   (Instr.fill (λi=>some (i*n,n)) ((Array.range (len*n)).map (zero[· % zero.size]!)) parts.toList).map λcs=>(e,cs.toList)
 |_=>none
theorem ale{K:Value→World→Prop}{e:TypeId}{len:Nat}{parts:Array (Nat×Value)}{cs:List Value}(hT:abX P t len parts=some (e,cs))
  (h:∀b w',b=w.heap.size→Ext w w'→w'.heap.size=w.heap.size+1→Blk w' b cs e→K (.slice (some ⟨b,0,none⟩) len len) w'):
  opW P w (Instr.buildSlice t len parts) K:=by
 unfold abX at hT
 cases hu:P.underlying t with
 |none=>rw [hu]at hT;cases hT
 |some d=>
  rw[hu]at hT
  cases d<;>first|(cases hT;done)|skip
  rename_i e'
  simp only[Option.bind_eq_some_iff]at hT
  obtain⟨n,hn,hT⟩:=hT
  split at hT
  ·cases hT
  rename_i hbig
  simp only[Option.bind_eq_some_iff,Option.map_eq_some_iff,Prod.mk.injEq]at hT
  obtain⟨zero,hzero,cs',hfill,rfl,rfl⟩:=hT
  obtain⟨h2,h3,h4⟩:=qS w cs'.toList e'
  refine⟨_,_,?_,h _ _ rfl h2 h3 h4⟩
  have hnew:∀cs:Array Value,(do pure (Value.slice (some (← newRow e' cs)) len len):Sem Value).run P w=.ok (.slice (some ⟨w.heap.size,0,none⟩) len len) (w.alloc (.cells cs e')):=λcs=>by
   simp only[Sem.run_bind,newRow,newObj,Sem.run,pure,Result.andThen];rfl
  have hcs:cs'.toList.toArray=cs':=by simp
  rw[hcs]
  by_cases h0:len*n=0
  ·rw[if_pos h0]at hzero
   cases hzero
   have :(Instr.buildSlice t len parts).run P w=(do pure (Value.slice (some (← newRow e' cs')) len len):Sem Value).run P w:=by
    simp only[Instr.buildSlice,Sem.run_bind,zA hu,Result.andThen,z6 hn,hbig,if_false]
    rw[if_pos h0]
    simp only[Sem.run_bind,Sem.run_pure,Result.andThen]
    rw[hfill]
    rfl
   rw[this];exact hnew cs'
  ·rw[if_neg h0]at hzero
   simp only[Option.map_eq_some_iff]at hzero
   obtain⟨zl,hzl,rfl⟩:=hzero
   obtain⟨zv,hzv,hzr⟩:=Xm hzl
   have hzc:zl.toArray=zv.cells:=by rw[← hzv]
   rw[hzc]at hfill
   have :(Instr.buildSlice t len parts).run P w=(do pure (Value.slice (some (← newRow e' cs')) len len):Sem Value).run P w:=by
    simp only[Instr.buildSlice,Sem.run_bind,zA hu,Result.andThen,z6 hn,hbig,if_false]
    rw[if_neg h0]
    simp only[Sem.run_bind,Sem.run_pure,Result.andThen,hzr]
    rw[hfill]
    rfl
   rw[this];exact hnew cs'
end
theorem k_pickT{x y:Value}{K:Value→Prop}(k:K x):zb (.bool true) x y K:=⟨true,rfl,k⟩
theorem k_pickF{x y:Value}{K:Value→Prop}(k:K y):zb (.bool false) x y K:=⟨false,rfl,k⟩
theorem zf{p:Prop}[Decidable p]{A B:Prop}(a:p→A)(b:¬p→B):zc (.bool (decide p)) A B:=by
 by_cases h:p
 ·simp only[h,decide_true,zc];exact a h
 ·simp only[h,decide_false,zc];exact b h
theorem c_b{c:Bool}{A B:Prop}(a:c=true→A)(b:c=false→B):zc (.bool c) A B:=by
 cases c
 ·exact b rfl
 ·exact a rfl
def al4(A:(List Value→World→Prop)→Prop)(Z:Value→World→Prop):Prop:=∀K:List Value→World→Prop,(∀v w,Z v w→K [v] w)→A K
section
variable {w:World} {A:(List Value→World→Prop)→Prop} {Z:Value→World→Prop}
theorem al5{p:Prop}[Decidable p](h1:p→Z (.bool true) w)(h2:¬p→al4 A Z):
  za (λK=>gIf (.bool (decide p)) false (A K) (K [u_] w)) λs _ w'=>zb (.bool (decide p)) (.bool true) (s.getD 0 u_) λt=>Z t w':=by
 intro K hK
 by_cases h:p
 ·simp only[h,decide_true]at hK⊢
  exact hK [u_] w λ_=>k_pickT (h1 h)
 ·simp only[h,decide_false]at hK⊢
  exact h2 h K λv w hz=>hK [v] w λ_=>k_pickF hz
end
theorem zh{ι:Type}(f:ι→List Value)(I:ι→World→Prop)(μ:ι→Nat)(i₀:ι){init:List Value}{w:World}{body:List Value→List Value→World→(List Value→World→Prop)→Prop}
  (h0:init=f i₀) (hI:I i₀ w) (hr:∀i d w',I i w'→∀K:List Value→World→Prop,(∀i' w'',I i' w''→μ i'<μ i→K (f i') w'')→body (f i) d w' K):zo init w body:=
 ⟨ι,f,I,μ,i₀,h0,hI,λi d w' hi=>hr i d w' hi _ λi' _ h1 h2=>⟨i',rfl,h1,h2⟩⟩
theorem zn{X:(List Value→World→Prop)→Prop}{Y:List Value→List Value→World→Prop}(R:List Value→World→Prop)(hX:∀K:List Value→World→Prop,(∀s w,R s w→K s w)→X K)
  (hY:∀s w,R s w→∀d,Y s d w):za X Y:=λK hK=>hX K λs w h=>hK s w (hY s w h)
end
section
section
variable {P:Program} {w:World} {t:TypeId} {c:Bool} {K:Value→Prop}
theorem akm{e:TypeId}{n:Nat}{p:Option Addr}{len cap l' c':Nat}(h:slT P t=some (e,n))(k:K (.bool p.isNone)):opP P (yR .eql t c (.slice p len cap) (.slice none l' c')) K:=by
 refine yS (λw=>?_) k
 unfold slT at h
 cases hu:P.underlying t with
 |none=>rw [hu]at h;cases h
 |some d=>
  rw[hu]at h
  cases d<;>first|cases h|skip
  rename_i e'
  have :(yR .eql t c (.slice p len cap) (.slice none l' c')).run P w=(binOp .eql t (.slice p len cap) (.slice none l' c')).run P w:=rfl
  rw[this]
  simp only[binOp]
  simp[Op.equal,Op.maxDepth,Lib.run_equalIn_slice_nil w 9999 t e' p len cap l' c' hu]
theorem am5{a:Addr}(k:K (.pointer (some a))):abU (.pointer (some a)) K:=⟨rfl,k⟩
theorem kD{f:FuncId}{fs args cap:Array Value}{K:Value→World→Prop}(he:xr P f=true)(h:zd P f (fs++args++cap) w K):zF P (.func (.func f) fs cap) args w K:=⟨he,h⟩
theorem x20{a b:Value}(k:K a):opP P (Instr.extract (.tuple #[a,b]) 0) K:=JG rfl k
theorem x21{a b:Value}(k:K b):opP P (Instr.extract (.tuple #[a,b]) 1) K:=JG rfl k
theorem x30{a b c':Value}(k:K a):opP P (Instr.extract (.tuple #[a,b,c']) 0) K:=JG rfl k
theorem x31{a b c':Value}(k:K b):opP P (Instr.extract (.tuple #[a,b,c']) 1) K:=JG rfl k
theorem x32{a b c':Value}(k:K c'):opP P (Instr.extract (.tuple #[a,b,c']) 2) K:=JG rfl k
end
section
variable {P:Program} {w:World} {t:TypeId} {c:Bool} {K:Value→Prop}
def arT(P:Program)(t:TypeId):Option (Nat×TypeId×Nat):=
 match P.underlying t with|some (.array l e)=>(szT P e).map λn=>(l,e,n)|_=>none
theorem VM(b off n:Nat):(⟨b,off,none⟩:Addr).add n=⟨b,off+n,none⟩:=by
 unfold Addr.add;split
 ·rename_i h0;rw[h0];rfl
 ·rfl
theorem akn{b off:Nat}{k:IntKind}{i:Int}{l:Nat}{e:TypeId}{n:Nat}(h:arT P t=some (l,e,n))(h0:0≤i)(h1:i<l)
  (hk:K (.pointer (some ⟨b,off+i.toNat*n,none⟩))):opP P (Instr.indexAt t (.pointer (some ⟨b,off,none⟩)) (.int k i)) K:=by
 refine yS (λw=>?_) hk
 unfold arT at h
 cases hu:P.underlying t with
 |none=>rw [hu]at h;cases h
 |some d=>
  rw[hu]at h
  cases d<;>first|cases h|skip
  simp only[Option.map_eq_some_iff,Prod.mk.injEq]at h
  obtain⟨m,hs,rfl,rfl,rfl⟩:=h
  simp[Instr.indexAt,Sem.run_bind,asIntOf,zA hu,Result.andThen,Sem.run,pure,h0,h1,z6 hs,Instr.sureAddr,VM]
theorem agk{k:IntKind}(h:kdT P t=some k):P.underlying t=some (.int k):=by
 unfold kdT at h
 cases hu:P.underlying t with
 |none=>rw [hu]at h;cases h
 |some d=>rw [hu]at h;cases d<;>first|(cases h;rfl)|cases h
theorem alf{s d:TypeId}{k1 k2 k3:IntKind}{n:Int}(hs:kdT P s=some k1)(hd:kdT P d=some k2)(k:K (.int k2 (k2.wrap n))):opP P (convert s d (.int k3 n)) K:=
 yS (λw=>by
  simp[convert,Sem.run_bind,zA (agk hs),zA (agk hd),Result.andThen,Conv.intToInt,Sem.run,pure]) k
theorem alp{s d:TypeId}{k1 k3:IntKind}{n:Int}(hs:kdT P s=some k1)(hd:kdT P d=some .i64)(h: -9223372036854775808≤n∧n<9223372036854775808)(k:K (.int .i64 n)):
  opP P (convert s d (.int k3 n)) K:=alf hs hd (by rw[VL h];exact k)
end
section
variable {P:Program} {w w':World}
theorem NC.of_but{S:Nat→Prop}(e:ExtBut S w w')(hS:∀b,S b→∃c T,Blk w b c T):NC w w':=by
 refine⟨e.size,λb o hb ho=>?_⟩
 have hlt:=(Array.getElem?_eq_some_iff.1 hb).1
 rw[e.block b hlt]
 ·exact hb
 ·intro hs
  obtain⟨c,T,B⟩:=hS b hs
  have:=hb.symm.trans B
  cases this;cases ho
theorem NC.of_b{b:Nat}{c:List Value}{T:TypeId}(B:Blk w b c T)(e:ExtBut (· = b) w w'):NC w w':=NC.of_but e λ_ h=>h▸⟨c,T,B⟩
theorem am6{K:Value→Prop}{t1 t2 ty:TypeId}{a b:Int}(k:K (.int .i64 (min a b))):opP P (Builtin.min_ #[t1,t2] ty #[.int .i64 a,.int .i64 b]) K:=
 yS (λw=>Lib.run_min_ints w _ _ _ _ _ _) k
end
section
variable {P:Program} {w:World} {t:TypeId} {c:Bool} {K:Value→Prop}
theorem aiy(h:P.underlying t=some .bool)(a b:Bool)(d:Nat)(w:World):(Op.equalIn (d+1) t (.bool a) (.bool b)).run P w=.ok (a == b) w:=by
 simp[Op.equalIn,run_underlying h]
theorem agl(h:P.underlying t=some .bool)(a b:Bool)(w:World):(Op.equal t (.bool a) (.bool b)).run P w=.ok (a == b) w:=aiy h a b 9999 w
def kdB(P:Program)(t:TypeId):Bool:=match P.underlying t with|some .bool=>true|_=>false
theorem agm(h:kdB P t=true):P.underlying t=some .bool:=by
 unfold kdB at h
 cases hu:P.underlying t with
 |none=>rw [hu]at h;cases h
 |some d=>rw [hu]at h;cases d<;>first|rfl|cases h
theorem al6{a b:Bool}(h:kdB P t=true)(k:K (.bool (a == b))):opP P (yR .eql t c (.bool a) (.bool b)) K:=
 yS (λw=>by
  show(binOp .eql t (.bool a) (.bool b)).run P w=_
  simp[binOp,agl (agm h)]) k
theorem al7{a b:Bool}(h:kdB P t=true)(k:K (.bool (!(a == b)))):opP P (yR .neq t c (.bool a) (.bool b)) K:=
 yS (λw=>by
  show(binOp .neq t (.bool a) (.bool b)).run P w=_
  simp[binOp,agl (agm h)]) k
end
class PStep(P:Program)(s:Sem Value)(v:outParam Value):Prop where
 yields:∀w,s.run P w=.ok v w
class PCond(P:Program)(s:Sem Value)(v:outParam Value)(c:outParam Prop):Prop where
 yields:c→∀w,s.run P w=.ok v w
section
variable {P:Program} {s:Sem Value} {v:Value} {c:Prop}
theorem s_p{K:Value→Prop}[i:PStep P s v](k:K v):opP P s K:=yS i.yields k
theorem s_c{K:Value→Prop}[i:PCond P s v c](h:c)(k:K v):opP P s K:=yS (i.yields h) k
theorem PStep.of(h:∀K:Value→Prop,K v→opP P s K):PStep P s v:=⟨by
 obtain⟨v',h1,rfl⟩:=h (λx=>x=v) rfl
 exact h1⟩
theorem PCond.of(h:c→∀K:Value→Prop,K v→opP P s K):PCond P s v c:=⟨λhc=>by
 obtain⟨v',h1,rfl⟩:=h hc (λx=>x=v) rfl
 exact h1⟩
end
class zI(P:Program)(t:TypeId)(i:Nat)(n:outParam Nat):Prop where
 h:aki P t i=some n
class SlT(P:Program)(t:TypeId)(e:outParam TypeId)(n:outParam Nat):Prop where
 h:slT P t=some (e,n)
class ako(P:Program)(t:TypeId):Prop where
 h:agi P t=true
class Ld1(P:Program)(t:TypeId):Prop where
 h:ld1 P t=true
class LdN(P:Program)(t:TypeId)(n:outParam Nat):Prop where
 h:ldN P t=some n
class SzT(P:Program)(t:TypeId)(n:outParam Nat):Prop where
 h:szT P t=some n
class ZrT(P:Program)(t:TypeId)(c:outParam (List Value)):Prop where
 h:zrT P t=some c
class ApT(P:Program)(t:TypeId)(e:outParam TypeId)(n b:outParam Nat):Prop where
 h:apT P t=some (e,n,b)
class ArT(P:Program)(t:TypeId)(l:outParam Nat)(e:outParam TypeId)(n:outParam Nat):Prop where
 h:arT P t=some (l,e,n)
class KdB(P:Program)(t:TypeId):Prop where
 h:kdB P t=true
section
variable {P:Program} {t ty e:TypeId} {c:Bool} {i j:IntKind} {a b:Int} {n l:Nat}
instance:PStep P (yR .lss t c (.int i a) (.int i b)) (.bool (decide (a<b))):=.of λ_ k=>amX k
instance:PStep P (yR .leq t c (.int i a) (.int i b)) (.bool (decide (a≤b))):=.of λ_ k=>amY k
instance:PStep P (yR .gtr t c (.int i a) (.int i b)) (.bool (decide (b<a))):=.of λ_ k=>amZ k
instance:PStep P (yR .geq t c (.int i a) (.int i b)) (.bool (decide (b≤a))):=.of λ_ k=>am0 k
instance:PStep P (yR .eql t c (.int i a) (.int i b)) (.bool (decide (a=b))):=.of λ_ k=>am1 k
instance:PStep P (yR .neq t c (.int i a) (.int i b)) (.bool (decide (a≠b))):=.of λ_ k=>am2 k
instance {x:Bool}:PStep P (Op.unary .not (.bool x)) (.bool (!x)):=.of λ_ k=>am3 k
instance:PCond P (yR .add t c (.int .i64 a) (.int .i64 b)) (.int .i64 (a+b)) (-9223372036854775808≤a+b∧a+b<9223372036854775808):=.of λh _ k=>aiv h k
instance:PCond P (yR .sub t c (.int .i64 a) (.int .i64 b)) (.int .i64 (a-b)) (-9223372036854775808≤a-b∧a-b<9223372036854775808):=.of λh _ k=>amW h k
instance {f:Fn} {x y:Array Value}:PStep P (Instr.makeFunc f x y) (.func f x y):=.of λ_ k=>al2 k
instance {b off k:Nat} [h:zI P t k n]:PStep P (Instr.fieldAt t (.pointer (some ⟨b,off,none⟩)) k) (.pointer (some ⟨b,off+n,none⟩)):=.of λ_ k=>aln h.h k
instance {p:Option Addr} {len cap:Nat} [h:SlT P t e n]:PStep P (Builtin.len_ #[t] ty #[.slice p len cap]) (.int .i64 len):=.of λ_ k=>al0 h.h k
instance:PStep P (Builtin.min_ #[t,e] ty #[.int .i64 a,.int .i64 b]) (.int .i64 (min a b)):=.of λ_ k=>am6 k
instance {b off len cap:Nat} [h:SlT P t e 1]:PCond P (Instr.indexAt t (.slice (some ⟨b,off,none⟩) len cap) (.int i a)) (.pointer (some ⟨b,off+a.toNat,none⟩)) (0≤a∧a<len):=
 .of λx _ k=>ahT (e:=e) (n:=1) h.h x.1 x.2 (by rw[Nat.mul_one];exact k)
instance (priority:=low) {b off len cap:Nat} [h:SlT P t e n]:PCond P (Instr.indexAt t (.slice (some ⟨b,off,none⟩) len cap) (.int i a)) (.pointer (some ⟨b,off+a.toNat*n,none⟩)) (0≤a∧a<len):=
 .of λx _ k=>ahT (e:=e) (n:=n) h.h x.1 x.2 k
instance {b off:Nat} [h:ArT P t l e n]:PCond P (Instr.indexAt t (.pointer (some ⟨b,off,none⟩)) (.int i a)) (.pointer (some ⟨b,off+a.toNat*n,none⟩)) (0≤a∧a<l):=
 .of λx _ k=>akn h.h x.1 x.2 k
instance {p:Option Addr} {len cap:Nat} [h:SlT P t e n]:PCond P (Instr.sliceAt t (.slice p len cap) none (some (.int i a)) none) (.slice p a.toNat cap) (0≤a∧a≤cap):=
 .of λx _ k=>ajh (e:=e) (n:=n) h.h x.1 x.2 k
instance {p:Option Addr} {len cap:Nat} [h:SlT P t e n]:PCond P (Instr.sliceAt t (.slice p len cap) (some (.int i a)) none none) (.slice (if cap=a.toNat then p else p.map (·.add (a.toNat*n))) (len-a.toNat) (cap-a.toNat)) (0≤a∧a≤len):=
 .of λx _ k=>aeN (e:=e) (n:=n) h.h x.1 x.2 k
instance {x y:Bool} [h:KdB P t]:PStep P (yR .eql t c (.bool x) (.bool y)) (.bool (x == y)):=.of λ_ k=>al6 h.h k
instance {x y:Bool} [h:KdB P t]:PStep P (yR .neq t c (.bool x) (.bool y)) (.bool (!(x == y))):=.of λ_ k=>al7 h.h k
instance {a b:Value}:PStep P (Instr.extract (.tuple #[a,b]) 0) a:=.of λ_ k=>x20 k
instance {a b:Value}:PStep P (Instr.extract (.tuple #[a,b]) 1) b:=.of λ_ k=>x21 k
instance {a b d:Value}:PStep P (Instr.extract (.tuple #[a,b,d]) 0) a:=.of λ_ k=>x30 k
instance {a b d:Value}:PStep P (Instr.extract (.tuple #[a,b,d]) 1) b:=.of λ_ k=>x31 k
instance {a b d:Value}:PStep P (Instr.extract (.tuple #[a,b,d]) 2) d:=.of λ_ k=>x32 k
end
abbrev Gh:=Nat→Obj→Prop
def Gh.or(r s:Gh):Gh:=λb o=>r b o∨s b o
def Holds(r:Gh)(w:World):Prop:=∀b o,r b o→w.heap[b]? = some o
theorem Holds.lt{r:Gh}{w:World}(h:Holds r w){b:Nat}{o:Obj}(hb:r b o):b<w.heap.size:=(Array.getElem?_eq_some_iff.1 (h b o hb)).1
theorem Holds.ext{r:Gh}{w w':World}(h:Holds r w)(e:Ext w w'):Holds r w':=λb o hb=>(e.block b (h.lt hb)).trans (h b o hb)
theorem Holds.but{r:Gh}{S:Nat→Prop}{w w':World}(h:Holds r w)(e:ExtBut S w w')(hS:∀b o,r b o→¬S b):Holds r w':=λb o hb=>(e.block b (h.lt hb) (hS b o hb)).trans (h b o hb)
theorem Holds.or{r s:Gh}{w:World}(h:Holds r w)(k:Holds s w):Holds (r.or s) w:=λb o hb=>hb.elim (h b o) (k b o)
class Le(r s:Gh):Prop where
 le:∀b o,r b o→s b o
instance {r:Gh}:Le r r:=⟨λ_ _ h=>h⟩
instance (priority:=high) {r s t:Gh} [h:Le r t] [k:Le s t]:Le (r.or s) t:=⟨λb o x=>x.elim (h.le b o) (k.le b o)⟩
instance {r s t:Gh} [h:Le r s]:Le r (s.or t):=⟨λb o k=>.inl (h.le b o k)⟩
instance {r s t:Gh} [h:Le r t]:Le r (s.or t):=⟨λb o k=>.inr (h.le b o k)⟩
theorem Holds.le{r s:Gh}{w:World}[h:Le r s](k:Holds s w):Holds r w:=λb o hb=>k b o (h.le b o hb)
def Ob(r:Gh)(p:World→Prop):Prop:=∀w,Holds r w→p w
theorem Ob.up{r s:Gh}{p:World→Prop}(h:Ob r p)[l:Le r s]:Ob s p:=λw k=>h w (k.le (h:=l))
def all(w:World):Gh:=λb o=>w.heap[b]? = some o
theorem aeO(w:World):Holds (all w) w:=λ_ _ h=>h
theorem akp{w:World}{a:Addr}{v:Value}(h:w.cell? a=some v):Ob (all w) λw'=>w'.cell? a=some v:=λw' k=>by
 have hl:=ahU h
 show w'.cell? a=some v
 rw[World.cell?_of_block (w:=w) ((k a.block _ (Array.getElem?_eq_getElem hl)).trans (Array.getElem?_eq_getElem hl).symm)];exact h
def one(b:Nat)(c:List Value)(T:TypeId):Gh:=λk o=>k=b∧o=.cells c.toArray T (0,0)
theorem qe{w:World}{b:Nat}{c:List Value}{T:TypeId}(h:Blk w b c T):Holds (Go.Sh.one b c T) w:=by rintro _ _ ⟨rfl,rfl⟩;exact h
theorem yH{b:Nat}{c:List Value}{T:TypeId}:Ob (Go.Sh.one b c T) λw=>Blk w b c T:=λ_ h=>h b _ ⟨rfl,rfl⟩
structure New(w:World)(s:Gh)(w':World):Prop where
 holds:Holds s w'
 fresh:∀b o,s b o→w.heap.size≤b
theorem New.one{w w':World}{b:Nat}{c:List Value}{T:TypeId}(h:Blk w' b c T)(hb:w.heap.size≤b):New w (Go.Sh.one b c T) w':=⟨qe h,by rintro _ _ ⟨rfl,_⟩;exact hb⟩
def Dis(r s:Gh):Prop:=∀b o o',r b o→¬s b o'
def Above(w:World)(s:Gh):Prop:=∀b o,s b o→w.heap.size≤b
def nothing:Gh:=λ_ _=>False
theorem New.nothing{w w':World}:New w nothing w':=⟨λ_ _ h=>h.elim,λ_ _ h=>h.elim⟩
instance {r:Gh}:Le nothing r:=⟨λ_ _ h=>h.elim⟩
inductive Asr where
 |cell (b:Nat) (c:List Value) (T:TypeId)
 |row (v:Value) (e:TypeId) (sz n:Nat) (xs:List Value)
 |que (v:Value) (e:TypeId) (sz n:Nat) (xs:List Value)
 |obj (g:Nat) (Q:Obj→Prop)
def Que(w:World)(e:TypeId)(sz:Nat)(v:Value)(n:Nat)(xs:List Value):Prop:=
 xs.length=n*sz∧((v=.slice none 0 0∧n=0)∨
  ∃g off cap c,v=.slice (some ⟨g,off,none⟩) n cap∧Blk w g c e∧n≤cap∧cap≤maxLen∧off+cap*sz≤c.length∧(c.drop off).take (n*sz)=xs)
def Asr.has(base:Nat):Asr→World→Prop
 |.cell b c T,w=>Blk w b c T
 |.row v e sz n xs,w=>w.ownsRow base e sz v n xs
 |.que v e sz n xs,w=>Que w e sz v n xs
 |.obj g Q,w=>∃o,w.heap[g]? = some o∧Obj.isBook o=false∧Q o
def Asr.dom:Asr→Nat→Prop
 |.cell b _ _,k=>k=b
 |.row v _ _ _ _,k=>v.ownBlock=some k
 |.que v _ _ _ _,k=>v.ownBlock=some k
 |.obj g _,k=>k=g
theorem ajj{w:World}{e:TypeId}{size:Nat}{v:Value}{n:Nat}{xs:List Value}(h:Que w e size v n xs):
  v.ownBlock=none∨∃g c,v.ownBlock=some g∧Blk w g c e:=by
 rcases h.2 with⟨rfl,_⟩|⟨g,off,cap,c,rfl,B,_⟩
 ·exact .inl rfl
 ·exact .inr ⟨g,c,rfl,B⟩
theorem akq{w w':World}{e:TypeId}{size:Nat}{v:Value}{n:Nat}{xs:List Value}(h:Que w e size v n xs)
  (hk:∀g,v.ownBlock=some g→w'.heap[g]? = w.heap[g]?):Que w' e size v n xs:=by
 rcases h with⟨hl,h|⟨g,off,cap,c,rfl,B,hr⟩⟩
 ·exact⟨hl,.inl h⟩
 ·exact⟨hl,.inr ⟨g,off,cap,c,rfl,(hk g rfl).trans B,hr⟩⟩
theorem VN{w:World}{base:Nat}{e:TypeId}{size:Nat}{v:Value}{n:Nat}{xs:List Value}(h:w.ownsRow base e size v n xs):
  v.ownBlock=none∨∃g cap c,v.ownBlock=some g∧v=.slice (some ⟨g,0,none⟩) n cap∧Blk w g c e∧base≤g:=by
 rcases vE h with⟨rfl,_,_⟩|⟨g,cap,c,rfl,hb,B,_⟩
 ·exact .inl rfl
 ·exact .inr ⟨g,cap,c,rfl,rfl,B,hb⟩
theorem akr{w w':World}{base:Nat}{e:TypeId}{size:Nat}{v:Value}{n:Nat}{xs:List Value}(h:w.ownsRow base e size v n xs)
  (hk:∀g,v.ownBlock=some g→w'.heap[g]? = w.heap[g]?):w'.ownsRow base e size v n xs:=by
 rcases h with⟨hl,h|⟨g,cap,cur,rfl,hb,hg,hr⟩⟩
 ·exact⟨hl,.inl h⟩
 ·exact⟨hl,.inr ⟨g,cap,cur,rfl,hb,(hk g rfl).trans hg,hr⟩⟩
theorem Asr.lt{base:Nat}{x:Asr}{w:World}(h:x.has base w){k:Nat}(hk:x.dom k):k<w.heap.size:=by
 cases x with
 |cell b c T=>cases hk;exact Blk.lt h
 |row v e sz n xs=>
  rcases VN h with h0|⟨g,cap,c,h1,h2,B,_⟩
  ·rw[Asr.dom,h0]at hk;cases hk
  ·rw[Asr.dom,h1]at hk;cases hk;exact B.lt
 |que v e sz n xs=>
  rcases ajj h with h0|⟨g,c,h1,B⟩
  ·rw[Asr.dom,h0]at hk;cases hk
  ·rw[Asr.dom,h1]at hk;cases hk;exact B.lt
 |obj g Q=>cases hk;obtain⟨o,ho,_⟩:=h;exact(Array.getElem?_eq_some_iff.1 ho).1
theorem Asr.keep{base:Nat}{x:Asr}{w w':World}(h:x.has base w)(hk:∀k,x.dom k→w'.heap[k]? = w.heap[k]?):x.has base w':=by
 cases x with
 |cell b c T=>exact (hk b rfl).trans h
 |row v e sz n xs=>exact akr h hk
 |que v e sz n xs=>exact akq h hk
 |obj g Q=>obtain ⟨o,h1,h2⟩:=h;exact⟨o,(hk g rfl).trans h1,h2⟩
structure StX(X:Nat→Prop)(w0:World)(r:Gh)(w:World)(L:List Asr):Prop where
 x:ExtBut X w0 w
 holds:Holds r w
 has:∀x∈L,x.has 0 w
 mine:∀x∈L,∀k,x.dom k→(w0.heap.size≤k∨X k)∧∀o,¬r k o
 apart:L.Pairwise λx y=>∀k,x.dom k→¬y.dom k
abbrev noX:Nat→Prop:=λ_=>False
abbrev St:=StX noX
theorem ExtBut.ext{w w':World}(h:ExtBut noX w w'):Ext w w':=⟨h.os,h.tape,h.output,h.size,λk hk=>h.block k hk (λhf=>hf)⟩
theorem ExtBut.but{X Y:Nat→Prop}{w0 w w':World}(h:ExtBut X w0 w)(e:ExtBut Y w w')(hY:∀k,Y k→w0.heap.size≤k∨X k):ExtBut X w0 w':=
 ⟨e.os.trans h.os,e.tape.trans h.tape,e.output.trans h.output,Nat.le_trans h.size e.size,λk hk hx=>
  (e.block k (Nat.lt_of_lt_of_le hk h.size) (λhy=>(hY k hy).elim (λh=>by omega) hx)).trans (h.block k hk hx)⟩
section
variable {X:Nat→Prop} {w0 w w':World} {r s:Gh} {L:List Asr}
theorem StX.ext(S:StX noX w0 r w L):Ext w0 w:=S.x.ext
theorem St.start(h:Holds r w):St w r w []:=⟨.refl _ _,h,by simp,by simp,.nil⟩
theorem StX.at(S:StX X w0 r w L){q:Gh}{p:World→Prop}(h:Ob q p)[l:Le q r]:p w:=h w (S.holds.le (h:=l))
theorem StX.go(S:StX X w0 r w L)(e:Ext w w'):StX X w0 r w' L:=
 ⟨S.x.trans (.of_ext e),S.holds.ext e,λx hx=>Asr.keep (S.has x hx) λk hk=>e.block k (Asr.lt (S.has x hx) hk),S.mine,S.apart⟩
theorem StX.new(S:StX X w0 r w L)(e:Ext w w')(n:New w s w'):StX X w0 (r.or s) w' L:=
 { S.go e with
  holds:=(S.holds.ext e).or n.holds
  mine:=λx hx k hk=>⟨(S.mine x hx k hk).1,λo ho=>ho.elim ((S.mine x hx k hk).2 o) λh=>by
   have:=n.fresh k o h;have:=Asr.lt (S.has x hx) hk;omega⟩ }
theorem StX.tell(S:StX X w0 r w L)(e:Ext w w')(n:New w s w'):StX X w0 (r.or s) w' L∧Dis s r∧Above w0 s:=
 ⟨S.new e n,λb o o' h h'=>by have:=n.fresh b o h;have:=S.holds.lt h';omega,λb o h=>by have:=n.fresh b o h;have:=S.x.size;omega⟩
theorem StX.less(S:StX X w0 r w L){q:Gh}{M:List Asr}(hq:∀b o,q b o→r b o)(hM:M.Sublist L):StX X w0 q w M:=
 ⟨S.x,λb o h=>S.holds b o (hq b o h),λx hx=>S.has x (hM.subset hx),λx hx k hk=>⟨(S.mine x (hM.subset hx) k hk).1,λo ho=>(S.mine x (hM.subset hx) k hk).2 o (hq k o ho)⟩,S.apart.sublist hM⟩
theorem StX.add(S:StX X w0 r w L)(e:Ext w w'){b:Nat}{c:List Value}{T:TypeId}(hb:w.heap.size≤b)(B:Blk w' b c T):StX X w0 r w' (.cell b c T::L):=by
 have S':=S.go e
 refine⟨S'.x,S'.holds,?_,?_,.cons ?_ S'.apart⟩
 ·intro x hx;rcases List.mem_cons.1 hx with rfl|hx
  ·exact B
  ·exact S'.has x hx
 ·intro x hx;rcases List.mem_cons.1 hx with rfl|hx
  ·rintro k rfl
   exact⟨.inl (by have:=S.x.size;omega),λo ho=>by have:=S.holds.lt ho;omega⟩
  ·exact S'.mine x hx
 ·rintro y hy k rfl hk
  have:=Asr.lt (S.has y hy) hk;omega
theorem StX.turn{p q:List Asr}{x y:Asr}(S:StX X w0 r w (p++x::q))(e:ExtBut x.dom w w')(hy:y.has 0 w')(hd:∀k,y.dom k→x.dom k∨w.heap.size≤k):StX X w0 r w' (p++y::q):=by
 have hx:=S.has x (by simp)
 have hap:=List.pairwise_append.1 S.apart
 have hap2:=List.pairwise_cons.1 hap.2.1
 have hmx:∀k,y.dom k→(w0.heap.size≤k∨X k)∧∀o,¬r k o:=λk hk=>by
  rcases hd k hk with h|h
  ·exact S.mine x (by simp) k h
  ·exact⟨.inl (by have:=S.x.size;omega),λo ho=>by have:=S.holds.lt ho;omega⟩
 have hother:∀z,z∈p∨z∈q→∀k,z.dom k→¬x.dom k:=by
  rintro z (hz|hz) k hk hx
  ·exact hap.2.2 z hz x (by simp) k hk hx
  ·exact hap2.1 z hz k hx hk
 have hmem:∀z,z∈p++y::q→z=y∨((z∈p∨z∈q)∧z∈p++x::q):=by
  intro z hz
  simp only[List.mem_append,List.mem_cons]at hz⊢
  rcases hz with h|rfl|h
  ·exact .inr ⟨.inl h,.inl h⟩
  ·exact .inl rfl
  ·exact .inr ⟨.inr h,.inr (.inr h)⟩
 have hyo:∀z,z∈p∨z∈q→z∈p++x::q→∀k,z.dom k→¬y.dom k:=λz hz hm k hk hy=>by
  rcases hd k hy with h|h
  ·exact hother z hz k hk h
  ·have:=Asr.lt (S.has z hm) hk;omega
 refine⟨S.x.but e λk hk=>(S.mine x (by simp) k hk).1,S.holds.but e λb o hb hk=>(S.mine x (by simp) b hk).2 o hb,?_,?_,?_⟩
 ·intro z hz
  rcases hmem z hz with rfl|⟨h,hm⟩
  ·exact hy
  ·exact Asr.keep (S.has z hm) λk hk=>e.block k (Asr.lt (S.has z hm) hk) (hother z h k hk)
 ·intro z hz
  rcases hmem z hz with rfl|⟨h,hm⟩
  ·exact hmx
  ·exact S.mine z hm
 ·refine List.pairwise_append.2 ⟨hap.1,.cons (λz hz k hk hk2=>hyo z (.inr hz) (by simp[hz]) k hk2 hk) hap2.2,λz hz u hu k hk=>?_⟩
  rcases List.mem_cons.1 hu with rfl|hu
  ·exact hyo z (.inl hz) (by simp[hz]) k hk
  ·exact hap.2.2 z hz u (by simp[hu]) k hk
end
class At(b:Nat)(L:List Asr)(c:outParam (List Value))(T:outParam TypeId)(f:outParam (List Value→List Asr)):Prop where
 h:∃p q,L=p++.cell b c T::q∧∀c',f c'=p++.cell b c' T::q
instance {b:Nat} {c:List Value} {T:TypeId} {L:List Asr}:At b (.cell b c T::L) c T λc'=>.cell b c' T::L:=⟨[],L,rfl,λ_=>rfl⟩
instance (priority:=low) {b:Nat} {c:List Value} {T:TypeId} {x:Asr} {L:List Asr} {f:List Value→List Asr} [h:At b L c T f]:At b (x::L) c T λc'=>x::f c':=⟨by
 obtain⟨p,q,h1,h2⟩:=h.h
 exact⟨x::p,q,by rw[h1];rfl,λc'=>by rw[h2];rfl⟩⟩
class Zb(v:Value)(L:List Asr)(e:outParam TypeId)(sz n:outParam Nat)(xs:outParam (List Value))(f:outParam (Asr→List Asr)):Prop where
 h:∃p q,L=p++.row v e sz n xs::q∧∀y,f y=p++y::q
instance {v:Value} {e:TypeId} {sz n:Nat} {xs:List Value} {L:List Asr}:Zb v (.row v e sz n xs::L) e sz n xs λy=>y::L:=⟨[],L,rfl,λ_=>rfl⟩
instance (priority:=low) {v:Value} {e:TypeId} {sz n:Nat} {xs:List Value} {x:Asr} {L:List Asr} {f:Asr→List Asr} [h:Zb v L e sz n xs f]:Zb v (x::L) e sz n xs λy=>x::f y:=⟨by
 obtain⟨p,q,h1,h2⟩:=h.h
 exact⟨x::p,q,by rw[h1];rfl,λc'=>by rw[h2];rfl⟩⟩
section
variable {P:Program} {X:Nat→Prop} {w0 w:World} {r:Gh} {L:List Asr} {t T:TypeId} {b i n:Nat} {c:List Value} {v:Value} {f:List Value→List Asr}
theorem StX.blk(S:StX X w0 r w L)(b:Nat)[h:At b L c T f]:Blk w b c T:=by
 obtain⟨p,q,h1,_⟩:=h.h
 exact S.has (.cell b c T) (by rw[h1];simp)
theorem StX.ld(S:StX X w0 r w L)[h:At b L c T f][k:Ld1 P t]{K:Value→Prop}(hk:K v)(hc:c[i]? = some v:=by rfl):opQ P w (Instr.loadAt t (.pointer (some ⟨b,i,none⟩))) K:=
 ajf k.h (((S.blk b (h:=h)).cell i).trans hc) hk
theorem StX.ldB(S:StX X w0 r w L)[h:At b L c T f][k:LdN P t n]{K:Value→Prop}(hk:K (.agg c.toArray))(hc:c.length=n:=by rfl):opQ P w (Instr.loadAt t (.pointer (some ⟨b,0,none⟩))) K:=
 ahV (by rw[hc];exact k.h) (S.blk b (h:=h)) hk
theorem StX.ldN(S:StX X w0 r w L)[h:At b L c T f][k:LdN P t n]{K:Value→Prop}{vs:List Value}(hk:K (.agg vs.toArray))(hv:(c.drop i).take n=vs:=by rfl)(hl:vs.length=n:=by rfl):opQ P w (Instr.loadAt t (.pointer (some ⟨b,i,none⟩))) K:=
 adV (by rw[hl];exact k.h) (λj u hu=>by
  rw[(S.blk b (h:=h)).cell]
  rw[← hv,List.getElem?_take]at hu
  split at hu
  ·rw[← List.getElem?_drop];exact hu
  ·cases hu) hk
theorem StX.ceB(S:StX X w0 r w L)[h:At b L c T f][k:LdN P t n]{K:Value→Prop}(hk:K (.agg c.toArray))(hc:c.length=n:=by rfl):opQ P w (zk t (.pointer (some ⟨b,0,none⟩))) K:=
 alo (by rw[hc];exact k.h) (S.blk b (h:=h)) hk
theorem StX.alM(S:StX X w0 r w L)[z:ZrT P t c]{K:Value→World→Prop}(h:∀b w',b=w.heap.size→NC w w'→StX X w0 r w' (.cell b c t::L)→K (.pointer (some ⟨b,0,none⟩)) w'):opW P w (Instr.alloc t true (.tuple #[])) K:=
 ahW z.h λb w' hb e _ B=>h b w' hb (NC.of_ext e) (S.add e (by omega) B)
theorem StX.al(S:StX X w0 r w L)[z:ZrT P t c]{K:Value→World→Prop}(h:∀b w',StX X w0 r w' (.cell b c t::L)→K (.pointer (some ⟨b,0,none⟩)) w'):opW P w (Instr.alloc t true (.tuple #[])) K:=
 S.alM λb w' _ _=>h b w'
theorem StX.boxM(S:StX X w0 r w L){K:Value→World→Prop}(h:∀b w',b=w.heap.size→NC w w'→StX X w0 r w' (.cell b v.cells.toList t::L)→K (.pointer (some ⟨b,0,none⟩)) w'):opW P w (Instr.box t v) K:=
 am4 λb w' hb e _ B=>h b w' hb (NC.of_ext e) (S.add e (by omega) B)
theorem StX.box(S:StX X w0 r w L){K:Value→World→Prop}(h:∀b w',StX X w0 r w' (.cell b v.cells.toList t::L)→K (.pointer (some ⟨b,0,none⟩)) w'):opW P w (Instr.box t v) K:=
 S.boxM λb w' _ _=>h b w'
theorem StX.turnC(S:StX X w0 r w L)[h:At b L c T f]{w':World}{c':List Value}(e:ExtBut (· = b) w w')(B:Blk w' b c' T):StX X w0 r w' (f c'):=by
 obtain⟨p,q,h1,h2⟩:=h.h
 rw[h2]
 rw[h1]at S
 exact S.turn (x:=.cell b c T) (y:=.cell b c' T) e B λk hk=>.inl hk
theorem StX.stM(S:StX X w0 r w L)[h:At b L c T f][z:SzT P t 1]{K:World→Prop}(k:∀w',NC w w'→StX X w0 r w' (f (c.set i v))→K w')(hl:i<c.length:=by simp)(h1:v.oneCell'=true:=by rfl):opU P w (Instr.storeAt t (.pointer (some ⟨b,i,none⟩)) v) K:=
 akk z.h (S.blk b (h:=h)) hl h1 λw' x _ B=>k w' (NC.of_b (S.blk b (h:=h)) x) (S.turnC (h:=h) x B)
theorem StX.st(S:StX X w0 r w L)[h:At b L c T f][z:SzT P t 1]{K:World→Prop}(k:∀w',StX X w0 r w' (f (c.set i v))→K w')(hl:i<c.length:=by simp)(h1:v.oneCell'=true:=by rfl):opU P w (Instr.storeAt t (.pointer (some ⟨b,i,none⟩)) v) K:=
 S.stM (h:=h) (λw' _=>k w') hl h1
theorem StX.stBM(S:StX X w0 r w L)[h:At b L c T f][z:SzT P t n]{cs:Array Value}{K:World→Prop}(k:∀w',NC w w'→StX X w0 r w' (f cs.toList)→K w')(hl:c.length=n:=by rfl)(hc:cs.size=n:=by rfl)(h1:∀u∈cs.toList,u.oneCell'=true:=by simp[Value.oneCell']):opU P w (Instr.storeAt t (.pointer (some ⟨b,0,none⟩)) (.agg cs)) K:=
 akj (v:=.agg cs) (by rw[show (Value.agg cs).cells.size=n from hc];exact z.h) (S.blk b (h:=h)) (by rw[hl];exact hc) h1 λw' x _ B=>k w' (NC.of_b (S.blk b (h:=h)) x) (S.turnC (h:=h) x B)
theorem StX.stB(S:StX X w0 r w L)[h:At b L c T f][z:SzT P t n]{cs:Array Value}{K:World→Prop}(k:∀w',StX X w0 r w' (f cs.toList)→K w')(hl:c.length=n:=by rfl)(hc:cs.size=n:=by rfl)(h1:∀u∈cs.toList,u.oneCell'=true:=by simp[Value.oneCell']):opU P w (Instr.storeAt t (.pointer (some ⟨b,0,none⟩)) (.agg cs)) K:=
 S.stBM (h:=h) (λw' _=>k w') hl hc h1
theorem StX.stN(S:StX X w0 r w L)[h:At b L c T f][z:SzT P t n]{cs:Array Value}{K:World→Prop}(k:∀w',StX X w0 r w' (f (c.take i++cs.toList++c.drop (i+n)))→K w')(hl:i+n≤c.length:=by simp)(hc:cs.size=n:=by rfl)(h1:∀u∈cs.toList,u.oneCell'=true:=by simp[Value.oneCell']):opU P w (Instr.storeAt t (.pointer (some ⟨b,i,none⟩)) (.agg cs)) K:=
 adW (v:=.agg cs) (by rw[show (Value.agg cs).cells.size=n from hc];exact z.h) (S.blk b (h:=h)) (by rw[show (Value.agg cs).cells.size=n from hc];exact hl) h1 λw' x _ B=>k w' (S.turnC (h:=h) x (by rw[show (Value.agg cs).cells.size=n from hc]at B;exact B))
theorem StX.lit(S:StX X w0 r w L){e:TypeId}{len:Nat}{parts:Array (Nat×Value)}{cs:List Value}{K:Value→World→Prop}(hT:abX P t len parts=some (e,cs))
  (h:∀b w',StX X w0 r w' (.cell b cs e::L)→K (.slice (some ⟨b,0,none⟩) len len) w'):opW P w (Instr.buildSlice t len parts) K:=
 ale hT λb w' hb e' _ B=>h b w' (S.add e' (by omega) B)
theorem StX.ownNil(S:StX X w0 r w L)(e:TypeId)(sz:Nat):StX X w0 r w (.row (.slice none 0 0) e sz 0 []::L):=by
 refine⟨S.x,S.holds,?_,?_,.cons (λy _ k hk=>by cases hk) S.apart⟩
 ·intro x hx;rcases List.mem_cons.1 hx with rfl|hx
  ·exact World.ownsRow_nil _ _ _ _
  ·exact S.has x hx
 ·intro x hx;rcases List.mem_cons.1 hx with rfl|hx
  ·intro k hk;cases hk
  ·exact S.mine x hx
theorem StX.apM(S:StX X w0 r w L){e ty:TypeId}{sz by' m m' cap:Nat}{xs news:List Value}{p:Option Addr}{g:Asr→List Asr}[h:Zb v L e sz m xs g][z:ApT P t e sz by']{K:Value→World→Prop}
  (hs:Sl w p news) (k:∀v' w',NC w w'→(v'=.slice none 0 0↔v=.slice none 0 0∧m'=0)→StX X w0 r w' (g (.row v' e sz (m+m') (xs++news)))→K v' w')
  (hb:(m+m')*by'≤140737488355328) (hl:news.length=m'*sz:=by simp) (hp:p=none→cap=0:=by simp) (h1:∀u∈news,u.oneCell'=true:=by simp[Value.oneCell']):opW P w (Builtin.append_ #[t,t] ty #[v,.slice p m' cap]) K:=by
 obtain⟨pp,qq,h2,h3⟩:=h.h
 have hr:=S.has (.row v e sz m xs) (by rw[h2];simp)
 refine agj z.h hr hs hl hp h1 hb (gzl _) λv' w' h4 h5 h6 h7=>k v' w' ?_ h7 ?_
 ·refine NC.of_but h5 λb hb=>?_
  rcases VN hr with h0|⟨g',cap',c',h8,h9,B,_⟩
  ·rw[h0]at hb;cases hb
  ·rw[h8]at hb;cases hb;exact⟨_,_,B⟩
 ·rw[h3]
  rw[h2]at S
  refine S.turn (x:=.row v e sz m xs) (y:=.row v' e sz (m+m') (xs++news)) h5 h4 λj hj=>?_
  rw[Asr.dom]at hj
  rcases h6 with h6|h6
  ·rw[h6]at hj;exact .inl hj
  ·rw[h6]at hj;cases hj;exact .inr (Nat.le_refl _)
theorem StX.ap(S:StX X w0 r w L){e ty:TypeId}{sz by' m m' cap:Nat}{xs news:List Value}{p:Option Addr}{g:Asr→List Asr}[h:Zb v L e sz m xs g][z:ApT P t e sz by']{K:Value→World→Prop}
  (hs:Sl w p news) (k:∀v' w',StX X w0 r w' (g (.row v' e sz (m+m') (xs++news)))→K v' w')
  (hb:(m+m')*by'≤140737488355328) (hl:news.length=m'*sz:=by simp) (hp:p=none→cap=0:=by simp) (h1:∀u∈news,u.oneCell'=true:=by simp[Value.oneCell']):opW P w (Builtin.append_ #[t,t] ty #[v,.slice p m' cap]) K:=
 S.apM (h:=h) hs (λv' w' _ _=>k v' w') hb hl hp h1
theorem StX.rowSl(S:StX X w0 r w L){e:TypeId}{sz m:Nat}{xs:List Value}{g:Asr→List Asr}(v:Value)[h:Zb v L e sz m xs g]:w.ownsRow 0 e sz v m xs:=by
 obtain⟨pp,qq,h2,h3⟩:=h.h
 exact S.has (.row v e sz m xs) (by rw[h2];simp)
end
end
section
class agn(r:Gh):Prop where
 h:∀b o,r b o→Obj.isBook o=false
instance {b:Nat} {c:List Value} {T:TypeId}:agn (Go.Sh.one b c T):=⟨λ_ _ h=>by rw[h.2];rfl⟩
instance:agn nothing:=⟨λ_ _ h=>h.elim⟩
theorem c_t{c:Bool}{A B:Prop}(h:c=true)(a:A):zc (.bool c) A B:=by subst h;exact a
theorem c_f{c:Bool}{A B:Prop}(h:c=false)(b:B):zc (.bool c) A B:=by subst h;exact b
section
variable {P:Program} {X:Nat→Prop} {w0 w:World} {r:Gh} {L:List Asr}
theorem StX.rowCell(S:StX X w0 r w L){e:TypeId}{sz m:Nat}{xs:List Value}{g:Asr→List Asr}(v:Value)[h:Zb v L e sz m xs g](hm:m≠0):
  ∃b cap c,v=.slice (some ⟨b,0,none⟩) m cap∧m≤cap∧c.length=cap*sz∧c.take (m*sz)=xs∧StX X w0 r w (g (.cell b c e)):=by
 obtain⟨pp,qq,h2,h3⟩:=h.h
 have hr:=S.has (.row v e sz m xs) (by rw[h2];simp)
 rcases vE hr with⟨_,h0,_⟩|⟨b,cap,c,rfl,hb,B,hn,_,hc,ht⟩
 ·exact absurd h0 hm
 ·refine⟨b,cap,c,rfl,hn,hc,ht,?_⟩
  rw[h3]
  rw[h2]at S
  exact S.turn (x:=.row _ e sz m xs) (y:=.cell b c e) (ExtBut.refl _ _) B λk hk=>.inl (by cases hk;rfl)
theorem StX.swap{x y:Asr}(S:StX X w0 r w (x::y::L)):StX X w0 r w (y::x::L):=by
 have hp:(y::x::L).Perm (x::y::L):=.swap x y L
 have ha:=S.apart
 refine⟨S.x,S.holds,λz hz=>S.has z (hp.subset hz),λz hz=>S.mine z (hp.subset hz),?_⟩
 rw[List.pairwise_cons,List.pairwise_cons]at ha
 refine .cons (λz hz k hk hk2=>?_) (.cons (λz hz=>ha.1 z (List.mem_cons_of_mem _ hz)) ha.2.2)
 rcases List.mem_cons.1 hz with rfl|hz
 ·exact ha.1 y List.mem_cons_self k hk2 hk
 ·exact ha.2.1 z hz k hk hk2
theorem StX.tl{x:Asr}(S:StX X w0 r w (x::L)):StX X w0 r w L:=S.less (λ_ _ h=>h) (List.sublist_cons_self _ _)
theorem StX.to(S:StX X w0 r w L)(q:Gh)[l:Le q r]:StX X w0 q w L:=S.less l.le (List.Sublist.refl _)
theorem StX.alU(S:StX X w0 r w L){t:TypeId}{c:List Value}[z:ZrT P t c]{K:Value→World→Prop}(h:∀b w',StX X w0 r w' (.cell b c t::L)→K (.pointer (some ⟨b,0,none⟩)) w'):
  opW P w (Instr.alloc t true (.tuple #[])) λt' w'=>Ext w w'∧K t' w':=
 ahW z.h λb w' hb e _ B=>⟨e,h b w' (S.add e (by omega) B)⟩
theorem ago{w w':World}{e:TypeId}{sz n:Nat}{v:Value}{xs:List Value}(h:w'.ownsRow w.heap.size e sz v n xs):
  ∃s p cap,New w s w'∧agn s∧v=.slice p n cap∧(p=none→cap=0)∧n≤cap∧(Ob s λw=>Sl w p xs):=by
 rcases vE h with⟨rfl,rfl,rfl⟩|⟨g,cap,c,rfl,hg,B,h1,_,h3,h4⟩
 ·exact⟨nothing,none,0,New.nothing,inferInstance,rfl,λ_=>rfl,Nat.le_refl _,λw _=>Sl.nil w _⟩
 ·refine⟨one g c e,_,cap,New.one B hg,inferInstance,rfl,by simp,h1,λw k=>?_⟩
  rw[← h4];exact(Sl.blk (yH w k)).take _
end
end
inductive Dat where
 |int (k:IntKind) (n:Int)
 |bool (b:Bool)
 |str (s:ByteArray)
 |agg (fs:List Dat)
 |sl (sz:Nat) (es:List Dat)
def CellsAt(r:Gh)(p:Option Addr)(n:Nat)(c:List Value):Prop:=
 ∀j v,c[j]? = some v→∃b off,p=some ⟨b,off,none⟩∧Ob r λw=>w.cell? ⟨b,off+n+j,none⟩=some v
mutual
def Rep(r:Gh):Dat→List Value→Prop
 |.int k n,cs=>cs=[.int k n]
 |.bool b,cs=>cs=[.bool b]
 |.str s,cs=>cs=[.string s]
 |.agg fs,cs=>RepA r fs cs
 |.sl sz es,cs=>∃p cap,cs=[.slice p es.length cap]∧(p=none→cap=0)∧es.length≤cap∧RepS r sz p 0 es
def RepA(r:Gh):List Dat→List Value→Prop
 |[],cs=>cs=[]
 |d::ds,cs=>∃a b,cs=a++b∧Rep r d a∧RepA r ds b
def RepS(r:Gh)(sz:Nat)(p:Option Addr):Nat→List Dat→Prop
 |_,[]=>True
 |i,d::ds=>(∃c,c.length=sz∧CellsAt r p (i*sz) c∧Rep r d c)∧RepS r sz p (i+1) ds
end
theorem CellsAt.up{r s:Gh}{p:Option Addr}{n:Nat}{c:List Value}(h:CellsAt r p n c)(l:Le r s):CellsAt s p n c:=λj v hj=>by
 obtain⟨b,off,h1,h2⟩:=h j v hj
 exact⟨b,off,h1,h2.up⟩
mutual
theorem Rep.up'{r s:Gh}(l:Le r s):∀{d:Dat}{cs:List Value},Rep r d cs→Rep s d cs
 |.int _ _,_,h=>h
 |.bool _,_,h=>h
 |.str _,_,h=>h
 |.agg fs,_,h=>RepA.up' l (fs:=fs) h
 |.sl _ es,_,h=>by
  obtain⟨p,cap,h1,h2,h3,h4⟩:=h
  exact⟨p,cap,h1,h2,h3,RepS.up' l (es:=es) h4⟩
theorem RepA.up'{r s:Gh}(l:Le r s):∀{fs:List Dat}{cs:List Value},RepA r fs cs→RepA s fs cs
 |[],_,h=>h
 |d::ds,_,h=>by
  obtain⟨a,b,h1,h2,h3⟩:=h
  exact⟨a,b,h1,Rep.up' l (d:=d) h2,RepA.up' l (fs:=ds) h3⟩
theorem RepS.up'{r s:Gh}(l:Le r s){sz:Nat}{p:Option Addr}:∀{i:Nat}{es:List Dat},RepS r sz p i es→RepS s sz p i es
 |_,[],_=>trivial
 |_,d::ds,h=>by
  obtain⟨⟨c,h1,h2,h3⟩,h4⟩:=h
  exact⟨⟨c,h1,h2.up l,Rep.up' l (d:=d) h3⟩,RepS.up' l (es:=ds) h4⟩
end
theorem Rep.up{r s:Gh}{d:Dat}{cs:List Value}(h:Rep r d cs)[l:Le r s]:Rep s d cs:=Rep.up' l h
theorem RepS.up{r s:Gh}{sz i:Nat}{p:Option Addr}{es:List Dat}(h:RepS r sz p i es)[l:Le r s]:RepS s sz p i es:=RepS.up' l h
theorem RepS.get{r:Gh}{sz:Nat}{p:Option Addr}:∀{es:List Dat}{k i:Nat}{d:Dat},RepS r sz p k es→es[i]? = some d→∃c,c.length=sz∧CellsAt r p ((k+i)*sz) c∧Rep r d c
 |[],_,_,_,_,h=>by cases h
 |e::es,k,0,d,h,hi=>by simp only[List.getElem?_cons_zero,Option.some.injEq]at hi;subst hi;exact h.1
 |e::es,k,i+1,d,h,hi=>by
  have:=RepS.get (i:=i) h.2 hi
  rw[show k+1+i=k+(i+1)by omega]at this;exact this
theorem RepS.of{r:Gh}{sz:Nat}{p:Option Addr}:∀{es:List Dat}{k:Nat},(∀i d,es[i]? = some d→∃c,c.length=sz∧CellsAt r p ((k+i)*sz) c∧Rep r d c)→RepS r sz p k es
 |[],_,_=>trivial
 |e::es,k,h=>⟨h 0 e rfl,RepS.of (es:=es) (k:=k+1) λi d hi=>by
  have:=h (i+1) d hi
  rw[show k+(i+1)=k+1+i by omega]at this;exact this⟩
theorem RepS.at{X:Nat→Prop}{w0 w:World}{r q:Gh}{L:List Asr}(S:StX X w0 r w L){sz:Nat}{p:Option Addr}{es:List Dat}(h:RepS q sz p 0 es)[l:Le q r]{i:Nat}(hi:i<es.length)(hz:0<sz):
  ∃b off c,p=some ⟨b,off,none⟩∧c.length=sz∧(∀j v,c[j]? = some v→w.cell? ⟨b,off+i*sz+j,none⟩=some v)∧Rep q es[i] c:=by
 obtain⟨c,h1,h2,h3⟩:=h.get (i:=i) (gqg hi)
 obtain⟨b,off,rfl,_⟩:=h2 0 c[0] (gqg (by omega))
 refine⟨b,off,c,rfl,h1,λj v hj=>?_,h3⟩
 obtain⟨b',off',hp,ho⟩:=h2 j v hj
 cases hp
 have:=S.at ho
 rwa[Nat.zero_add]at this
section
section
variable {w:World} {A:(List Value→World→Prop)→Prop} {Z:Value→World→Prop} {b c:Bool}
theorem yL(hA:∀K:List Value→World→Prop,K [.bool c] w→A K)(hZ:Z (.bool (b&&c)) w):
  za (λK=>gIf (.bool b) true (A K) (K [u_] w)) λs _ w'=>zb (.bool b) (s.getD 0 u_) (.bool false) λt=>Z t w':=by
 intro K hK
 cases b with
 |true=>exact hA K (hK _ _ λ_=>⟨true,rfl,by simpa using hZ⟩)
 |false=>exact hK _ _ λ_=>⟨false,rfl,by simpa using hZ⟩
theorem af2(hA:∀K:List Value→World→Prop,K [.bool c] w→A K)(hZ:Z (.bool (b||c)) w):
  za (λK=>gIf (.bool b) false (A K) (K [u_] w)) λs _ w'=>zb (.bool b) (.bool true) (s.getD 0 u_) λt=>Z t w':=by
 intro K hK
 cases b with
 |true=>exact hK _ _ λ_=>⟨true,rfl,by simpa using hZ⟩
 |false=>exact hA K (hK _ _ λ_=>⟨false,rfl,by simpa using hZ⟩)
theorem zt(hA:b=true→∀K:List Value→World→Prop,(∀w',Ext w w'→K [.bool c] w')→A K)(hZ:∀w',Ext w w'→Z (.bool (b&&c)) w'):
  za (λK=>gIf (.bool b) true (A K) (K [u_] w)) λs _ w'=>zb (.bool b) (s.getD 0 u_) (.bool false) λt=>Z t w':=by
 intro K hK
 cases b with
 |true=>exact hA rfl K λw' e=>hK _ _ λ_=>⟨true,rfl,by simpa using hZ w' e⟩
 |false=>exact hK _ _ λ_=>⟨false,rfl,by simpa using hZ w (.refl w)⟩
theorem x8(hA:b=false→∀K:List Value→World→Prop,(∀w',Ext w w'→K [.bool c] w')→A K)(hZ:∀w',Ext w w'→Z (.bool (b||c)) w'):
  za (λK=>gIf (.bool b) false (A K) (K [u_] w)) λs _ w'=>zb (.bool b) (.bool true) (s.getD 0 u_) λt=>Z t w':=by
 intro K hK
 cases b with
 |true=>exact hK _ _ λ_=>⟨true,rfl,by simpa using hZ w (.refl w)⟩
 |false=>exact hA rfl K λw' e=>hK _ _ λ_=>⟨false,rfl,by simpa using hZ w' e⟩
theorem qu{K:List Value→World→Prop}{A:Prop}(hk:K [.bool (b||c)] w)(hA:b=false→K [.bool c] w→A):zc (.bool b) (K [.bool b] w) A:=by
 cases b with
 |true=>rw [Bool.true_or]at hk;exact hk
 |false=>exact hA rfl (by rw[Bool.false_or]at hk;exact hk)
end
theorem zp{P:Program}{w:World}{K:Value→Prop}{t:TypeId}{b off n:Nat}{c:List Value}[k:LdN P t n](hl:c.length=n)(h:∀j v,c[j]? = some v→w.cell? ⟨b,off+j,none⟩=some v)(hk:K (.agg c.toArray)):
  opQ P w (Instr.loadAt t (.pointer (some ⟨b,off,none⟩))) K:=adV (by rw[hl];exact k.h) h hk
theorem zg{P:Program}{w:World}{K:Value→Prop}{t:TypeId}{a:Addr}{v:Value}[k:Ld1 P t](h:w.cell? a=some v)(hk:K v):opQ P w (Instr.loadAt t (.pointer (some a))) K:=ajf k.h h hk
theorem n_some{a:Addr}{K:Value→Prop}(k:K (.pointer (some a))):abU (.pointer (some a)) K:=am5 k
end
end Go.Sh
namespace Go.Sh
section
section
variable {P:Program} {X:Nat→Prop} {w0 w w':World} {r s:Gh} {L:List Asr} {t e:TypeId} {sz n m:Nat} {v:Value} {xs:List Value}
theorem StX.litU(S:StX X w0 r w L){e:TypeId}{len:Nat}{parts:Array (Nat×Value)}{cs:List Value}{K:Value→World→Prop}(hT:abX P t len parts=some (e,cs))
  (h:∀b w',StX X w0 r w' (.cell b cs e::L)→K (.slice (some ⟨b,0,none⟩) len len) w'):opW P w (Instr.buildSlice t len parts) λt' w'=>Ext w w'∧K t' w':=
 ale hT λb w' hb e' _ B=>⟨e',h b w' (S.add e' (by omega) B)⟩
theorem StX.frz{b:Nat}{c:List Value}{T:TypeId}(S:StX X w0 r w (.cell b c T::L)):StX X w0 (r.or (Go.Sh.one b c T)) w L:=by
 have B:Blk w b c T:=S.has _ (List.mem_cons_self ..)
 refine⟨S.x,S.holds.or (qe B),λx hx=>S.has x (List.mem_cons_of_mem _ hx),λx hx k hk=>⟨(S.mine x (List.mem_cons_of_mem _ hx) k hk).1,λo ho=>?_⟩,(List.pairwise_cons.1 S.apart).2⟩
 rcases ho with ho|⟨rfl,_⟩
 ·exact(S.mine x (List.mem_cons_of_mem _ hx) k hk).2 o ho
 ·exact(List.pairwise_cons.1 S.apart).1 x hx k rfl hk
theorem StX.take(S:StX X w0 r w L)(E:Ext w w')(h:w'.ownsRow w.heap.size e sz v n xs):StX X w0 r w' (.row v e sz n xs::L):=by
 have S':=S.go E
 have hb:∀k,v.ownBlock=some k→w.heap.size≤k:=λk hk=>by
  rcases VN h with h0|⟨g,cap,c,h1,_,_,h2⟩
  ·rw[h0]at hk;cases hk
  ·rw[h1]at hk;cases hk;exact h2
 refine⟨S'.x,S'.holds,?_,?_,.cons ?_ S'.apart⟩
 ·intro x hx;rcases List.mem_cons.1 hx with rfl|hx
  ·rcases h with⟨hl,h|⟨g,cap,cur,rfl,_,hg⟩⟩
   ·exact⟨hl,.inl h⟩
   ·exact⟨hl,.inr ⟨g,cap,cur,rfl,gzl _,hg⟩⟩
  ·exact S'.has x hx
 ·intro x hx;rcases List.mem_cons.1 hx with rfl|hx
  ·intro k hk
   have:=hb k hk
   exact⟨.inl (by have:=S.x.size;omega),λo ho=>by have:=S.holds.lt ho;omega⟩
  ·exact S'.mine x hx
 ·intro y hy k hk hk2
  have:=hb k hk
  have:=Asr.lt (S.has y hy) hk2
  omega
theorem StX.give{f:Asr→List Asr}(S:StX noX w0 r w L)(v:Value)[h:Zb v L e sz n xs f]:w.ownsRow w0.heap.size e sz v n xs:=by
 obtain⟨p,q,h2,h3⟩:=h.h
 have hx:=S.has (.row v e sz n xs) (by rw[h2];simp)
 have hm:=S.mine (.row v e sz n xs) (by rw[h2];simp)
 rcases hx with⟨hl,hx|⟨g,cap,cur,rfl,hb,hg⟩⟩
 ·exact⟨hl,.inl hx⟩
 ·exact⟨hl,.inr ⟨g,cap,cur,rfl,(hm g rfl).1.resolve_right id,hg⟩⟩
theorem VO{base:Nat}(h:w.ownsRow base e sz v n xs):∃p cap,v=.slice p n cap∧(p=none→cap=0)∧n≤cap∧xs.length=n*sz∧Sl w p xs:=by
 have hl:=h.1
 rcases vE h with⟨rfl,rfl,rfl⟩|⟨g,cap,c,rfl,hg,B,h1,_,h3,h4⟩
 ·exact⟨none,0,rfl,λ_=>rfl,Nat.le_refl _,hl,Sl.nil _ _⟩
 ·exact⟨_,cap,rfl,by simp,h1,hl,by rw[← h4];exact(Sl.blk B).take _⟩
theorem StX.rowS{f:Asr→List Asr}(S:StX X w0 r w L)(v:Value)[h:Zb v L e sz n xs f]:∃p cap,v=.slice p n cap∧(p=none→cap=0)∧n≤cap∧xs.length=n*sz∧Sl w p xs:=
 VO (S.rowSl v (h:=h))
theorem StX.row1{f:Asr→List Asr}(S:StX X w0 r w L)(v:Value)[h:Zb v L e sz n xs f]:v.oneCell'=true:=by
 obtain⟨p,cap,rfl,_⟩:=S.rowS v (h:=h);rfl
theorem w_q{P:Program}{w:World}{s:Sem Value}{K:Value→World→Prop}(h:opQ P w s λv=>K v w):opW P w s K:=by
 obtain⟨v,h1,h2⟩:=h
 exact⟨v,w,h1 w (Ext.refl w),h2⟩
theorem Qz{P:Program}{w:World}{s:Sem Value}{K:Value→World→Prop}(h:opQ P w s λv=>K v w):opW P w s λv w'=>Ext w w'∧K v w':=w_q (by
 obtain⟨v,h1,h2⟩:=h
 exact⟨v,h1,Ext.refl w,h2⟩)
theorem StX.toRow{b:Nat}{c:List Value}(S:StX X w0 r w (.cell b c e::L))(n sz:Nat)(hc:c.length=n*sz)(hm:n≤maxLen):StX X w0 r w (.row (.slice (some ⟨b,0,none⟩) n n) e sz n c::L):=by
 have B:Blk w b c e:=S.has _ (List.mem_cons_self ..)
 refine S.turn (p:=[]) (x:=.cell b c e) (y:=.row _ e sz n c) (ExtBut.refl _ _) ?_ λk hk=>.inl (by cases hk;rfl)
 have:=Za (base:=0) (gzl _) B (Nat.le_refl n) hm hc
 rwa[List.take_of_length_le (by omega)]at this
end
end
end Go.Sh
namespace Go.Sh
open Go.RowKit
section
abbrev bs(l:List UInt8):ByteArray:=⟨l.toArray⟩
theorem adX(l:List UInt8):(bs l).size=l.length:=by simp[ByteArray.size]
theorem aeP(l:List UInt8):(bs l).toList=l:=by rw[ByteArray.toList_eq]
section
variable {P:Program} {t ty:TypeId} {c:Bool} {l m:List UInt8} {a b:Int} {i j:IntKind}
theorem aks{op:BinOp}{x y:Value}(h:(match op,x,y with|.eql,.nilIface,.nilIface=>c=true|.neq,.nilIface,.nilIface=>c=true|.eql,.agg _,.agg _=>P.eqGuardType P.depth t=false|.neq,.agg _,.agg _=>P.eqGuardType P.depth t=false|_,_,_=>True))(w:World):
  (yR op t c x y).run P w=(binOp op t x y).run P w:=by
 have hg:(eqG op t c x y).run P w=.ok () w:=by
  unfold eqG
  cases op<;>first|rfl|(cases x<;>first|rfl|(cases y<;>first|rfl|(subst h;rfl)|(simp only at h;simp[run_program,h])))
 rw[yR,Sem.run_bind,hg];rfl
instance [h:ako P t]:PStep P (Builtin.len_ #[t] ty #[.string (bs l)]) (.int .i64 l.length):=.of λ_ k=>akl h.h (by rw[adX];exact k)
def z7(l:List UInt8)(n:Nat):Int:=(l.getD n 0).toNat
instance [h:ako P t]:PCond P (Instr.index t (.string (bs l)) (.int i a)) (.int .u8 (z7 l a.toNat)) (0≤a∧a<l.length):=.of λx _ k=>
 al1 h.h x.1 (by rw[adX];omega) (by
  have e:((bs l)[a.toNat]'(by rw[adX];omega))=l.getD a.toNat 0:=by
   rw[ggd,gqg (by omega)];rfl
  rw[e];exact k)
end
end
end Go.Sh
namespace Go.Sh
def kdN(n:Nat):yA:=match n%4 with|0=>.p|1=>.q|2=>.l|_=>.u
def ra:Nat→Nat→Nat→RI→RI
 |0,_,_,t=>t
 |n+1,i,c,t=>.op i (kdN c) (ra n (i+1) (c/4) t)
abbrev rz(n i c:Nat):RI:=ra n i c .nil
def ri:Nat→Nat→Nat→List (Nat×yA)
 |0,_,_=>[]
 |n+1,i,c=>(i,kdN c)::ri n (i+1) (c/4)
section
def Yn(ops:Array Oper)(b:Nat):List Nat:=
 (List.range ops.size).filter λi=>!b.testBit i&&((ops[i]?).map (·.after.all λe=>!Region.binds .any e||b.testBit e.on)).getD false
def af3(ops:Array Oper)(b:Nat)(i:Nat):Bool:=
 match ops[i]? with
 |none=>false
 |some oi=>(List.range ops.size).all λj=>j == i||b.testBit j||match ops[j]? with
   |some oj=>oj.after.any (λe=>Region.binds .any e&&e.on == i)||oi.apart ops oj
   |none=>true
def adY(n b i:Nat):Nat:=match Nat.blt i n with|true=>b ||| 2 ^ i|false=>b
mutual
def JH(ops:Array Oper)(m:List Nat)(kd:Nat→yA):Tr→Nat→Bool
 |.nil,listed=>(Yn ops listed).isEmpty
 |.op i k t,listed=>
  kd i == k &&
  (match k with
  |.p=>(Yn ops listed).contains i&&af3 ops listed i
  |.q=>
   (Yn ops listed).contains i&&af3 ops listed i &&
   (List.range ops.size).all (λj=>j == i||listed.testBit j || !(kd j == .l)||(m.getD j 0).testBit i)
  |_=>Yn ops listed == [i])&&JH ops m kd t (adY ops.size listed i)
 |.alt i k t r,listed=>
  kd i == k && !(k == .q) && !(k == .p) &&
  (match Yn ops listed with
  |x::rs=>x == i&&okBM ops m kd r listed rs
  |[]=>false)&&JH ops m kd t (adY ops.size listed i)
def okBM(ops:Array Oper)(m:List Nat)(kd:Nat→yA):Tr→Nat→List Nat→Bool
 |.nil,_,_=>false
 |.op i k t,listed,rs=>kd i == k && !(k == .q) && !(k == .p)&&rs == [i]&&JH ops m kd t (adY ops.size listed i)
 |.alt i k t r,listed,rs=>
  kd i == k && !(k == .q) && !(k == .p) &&
  (match rs with
  |x::rs=>x == i&&okBM ops m kd r listed rs
  |[]=>false)&&JH ops m kd t (adY ops.size listed i)
end
structure Msk(n:Nat)(L:Array Bool)(b:Nat):Prop where
 size:L.size=n
 eq:∀j,L.getD j false=b.testBit j
theorem Msk.get{n:Nat}{L:Array Bool}{b:Nat}(h:Msk n L b){j:Nat}(hj:j<n):L.getD j true=b.testBit j:=by
 rw[← h.eq j]
 have :j<L.size:=by rw[h.size];exact hj
 simp[Array.getD,this]
theorem Msk.add{n:Nat}{L:Array Bool}{b i:Nat}(h:Msk n L b):Msk n (L.setIfInBounds i true) (adY n b i):=by
 refine⟨by rw[Array.size_setIfInBounds,h.size],λj=>?_⟩
 have h0:=h.eq j
 have hs:=h.size
 unfold adY
 by_cases hi:i<n
 ·have e:Nat.blt i n=true:=by rw[Nat.blt_eq];exact hi
  rw[e]
  show _=(b ||| 2 ^ i).testBit j
  rw[Nat.testBit_or,Nat.testBit_two_pow,← h0]
  rw[Array.getD_eq_getD_getElem?,Array.getD_eq_getD_getElem?,Array.getElem?_setIfInBounds]
  by_cases hij:i=j
  ·subst hij
   rw[if_pos rfl,if_pos (by rw[hs];exact hi)];simp
  ·rw[if_neg hij];simp[hij]
 ·have e:Nat.blt i n=false:=by
   cases hb:Nat.blt i n with
   |false=>rfl
   |true=>rw [Nat.blt_eq]at hb;exact absurd hb hi
  rw[e]
  show _=b.testBit j
  rw[← h0,Array.getD_eq_getD_getElem?,Array.getD_eq_getD_getElem?,Array.getElem?_setIfInBounds]
  by_cases hij:i=j
  ·subst hij
   rw[if_pos rfl,if_neg (by rw[hs];exact hi),Array.getElem?_eq_none (by omega)]
  ·rw[if_neg hij]
section
variable {ops:Array Oper} {m:List Nat} {kd:Nat→yA}
theorem abY{L:Array Bool}{b:Nat}(h:Msk ops.size L b):Region.ready .any ops L=Yn ops b:=by
 unfold Region.ready Yn
 refine List.filter_congr λi hi=>?_
 rw[h.get (List.mem_range.1 hi)]
 congr 3
 funext o
 congr 1
 funext e
 rw[h.eq]
theorem acR{l:List Nat}{f g:Nat→Bool}(h:∀x∈l,f x=g x):l.all f=l.all g:=by
 rw[Bool.eq_iff_iff,List.all_eq_true,List.all_eq_true]
 exact⟨λk x hx=>(h x hx)▸k x hx,λk x hx=>(h x hx).symm▸k x hx⟩
theorem alq{L:Array Bool}{b i:Nat}(h:Msk ops.size L b):Region.free .any ops L i=af3 ops b i:=by
 unfold Region.free af3
 cases ops[i]? with
 |none=>rfl
 |some oi=>
  refine acR λj hj=>?_
  rw[h.get (List.mem_range.1 hj)]
  rfl
mutual
theorem Q0:∀(t:Tr){L:Array Bool}{b:Nat},Msk ops.size L b→okT ops m kd t L=JH ops m kd t b
 |.nil,L,b,h=>by rw[okT,JH,abY h]
 |.op i k t,L,b,h=>by
  have hq:((List.range ops.size).all λj=>j == i||L.getD j true || !(kd j == .l)||(m.getD j 0).testBit i)=(List.range ops.size).all λj=>j == i||b.testBit j || !(kd j == .l)||(m.getD j 0).testBit i:=
   acR λj hj=>by rw[h.get (List.mem_range.1 hj)]
  cases k<;>simp only[okT,JH,Q0 t h.add,abY h,alq h,hq]
 |.alt i k t r,L,b,h=>by
  rw[okT,JH,Q0 t h.add,abY h]
  cases Yn ops b with
  |nil=>rfl
  |cons x rs=>simp only[okB_eq r h rs]
theorem okB_eq:∀(t:Tr){L:Array Bool}{b:Nat},Msk ops.size L b→∀rs:List Nat,okB ops m kd t L rs=okBM ops m kd t b rs
 |.nil,L,b,h,rs=>by rw[okB,okBM]
 |.op i k t,L,b,h,rs=>by simp only[okB,okBM,Q0 t h.add]
 |.alt i k t r,L,b,h,rs=>by
  cases rs with
  |nil=>simp only[okB,okBM,Q0 t h.add]
  |cons x rs=>simp only[okB,okBM,Q0 t h.add,okB_eq r h rs]
end
end
def adZ(ops:Array Oper)(t:Tr):Bool:=
 jy ops&&Region.noSelect ops&&JH ops (acG ops.toList []) (acK t.pairs) t 0
theorem ajk{ops:Array Oper}{t:Tr}:VJ ops t=adZ ops t:=by
 rw[VJ,adZ,Q0 (b:=0) t ⟨by simp,λj=>by simp[Array.getD]⟩]
def aiz(P:Program)(its:RI)(ops:Array Oper)(draw:Bool):Bool:=
 jz P ops its&&(match draw with
  |true=>adZ ops (vk its)
  |false=>jy ops&&(vk its).lin == some (List.range ops.size))
def qv(cf:Cf)(P:Program)(rd:Bool):Ann→Code→Bool
 |.r its,.region _ ops draw=>aiz P its ops draw
 |.s A B,.seq a b=>qv cf P rd A a&&qv cf P rd B b
 |.j _ A B,.seq a b=>qv cf P rd A a&&qv cf P rd B b
 |.c A B,.cond _ a b=>qv cf P rd A a&&qv cf P rd B b
 |.b A,.block _ a=>qv cf P rd A a
 |.b A,.scope a=>qv cf P rd A a
 |.lp _ A,.loop a=>qv cf P rd A a
 |.rf _ A B,.rangeFunc _ _ a b=>cf.marks&&qv { cf with pan:=false } P true A a&&qv { cf with pan:=false } P true B b
 |_,.skip=>true
 |_,.label _=>true
 |_,.exit _=>true
 |_,.ret=>true
 |_,_=>false
theorem alr{P:Program}{its:RI}{ops:Array Oper}{draw:Bool}:af9 P its ops draw=aiz P its ops draw:=by
 cases draw with
 |true=>simp only[af9,aiz,ajk]
 |false=>rfl
theorem al8(P:Program):∀(A:Ann)(c:Code)(cf:Cf)(rd:Bool),qv cf P rd A c=chk cf P rd A c:=by
 intro A
 induction A with
 |n=>intro c cf rd;cases c<;>rfl
 |r its=>intro c cf rd;cases c<;>first|rfl|exact alr.symm
 |s A B ia ib=>intro c cf rd;cases c<;>first|rfl|simp only[qv,chk,ia,ib]
 |j l A B ia ib=>intro c cf rd;cases c<;>first|rfl|simp only[qv,chk,ia,ib]
 |c A B ia ib=>intro c cf rd;cases c<;>first|rfl|simp only[qv,chk,ia,ib]
 |b A ia=>intro c cf rd;cases c<;>first|rfl|simp only[qv,chk,ia]
 |lp l A ia=>intro c cf rd;cases c<;>first|rfl|simp only[qv,chk,ia]
 |rf l A B ia ib=>intro c cf rd;cases c<;>first|rfl|simp only[qv,chk,ia,ib]
end
end Go.Sh
