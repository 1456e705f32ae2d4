/-
  Contracts and plain laws that the last text leans on.
-/
import Derived.Test.YthmakcmiggpoeaaGreatDoorQDb
import Derived.Test.YthmakcmiggpoeaaGreatDoorQDd
import Derived.ChangeKeysEq
import Derived.WideKeyRuns
set_option maxRecDepth 100000
set_option maxHeartbeats 8000000
set_option linter.unusedVariables false
set_option linter.unusedSimpArgs false
namespace Go.Proofs
open Go.Sh Go.RowKit
section
variable {l:List Int} {r:Gh} {p:Option Addr}
theorem kG:RowOf 1 xn (ints l) l:=⟨by rw[ym,Nat.mul_one],λj hj=>by
 rw[Nat.mul_one,ints,← List.map_drop,← List.map_take,List.drop_eq_getElem_cons hj];rfl⟩
theorem agj{α:Type}{V:α→Value}{n cap:Nat}{l:List α}(h:SlG 1 r (λc x=>c=[V x]) (.slice p n cap) l){i:Nat}(hi:i<l.length):
  ∃b off,p=some ⟨b,off,none⟩∧n=l.length∧Ob r λw=>w.cell? ⟨b,off+i,none⟩=some (V l[i]):=by
 have hsh:=h.shape
 obtain⟨p',cap',e,_,_⟩:=hsh
 obtain⟨b,off,c,hE,hc,hcc,hcl⟩:=h.get (by decide) hi
 obtain rfl:c=_:=hcc
 cases e
 cases hE
 refine⟨b,off,rfl,rfl,?_⟩
 have:=hcl 0 _ rfl
 rwa[show off+i*1+0=off+i by omega]at this
theorem xR{n cap:Nat}(h:SlG 1 r xn (.slice p n cap) l){i:Nat}(hi:i<l.length):∃b off,p=some ⟨b,off,none⟩∧n=l.length∧Ob r λw=>w.cell? ⟨b,off+i,none⟩=some (.int .i64 l[i]):=agj (V:=Value.int .i64) h hi
theorem ad1{v:Value}{w0 w:World}{L:List Asr}{X:Nat→Prop}{K:Value→World→Prop}(S:StX X w0 r w L)(hl:SlG 1 r xn v l)(hf:l.length≤1000000)
  (h:∀v' w',StX X w0 r w' (.row v' 3 1 l.length (ints l)::L)→K v' w'):zc Tryz.prog Tryz.qQ #[v] w K:=by
 obtain⟨p,cap,rfl,hp,_⟩:=hl.shape
 by_cases h0:l=[]
 ·subst h0
  cases p with
  |none=>
   have:=hp rfl;subst this
   refine Calls.mono (Any.slices_Clone_int_nil Tryz.QS 0 0 w) ?_
   rintro e w' ⟨rfl,rfl⟩
   exact⟨_,rfl,h _ _ (S.ownNil 3 1)⟩
  |some a=>
   refine Calls.mono (Any.slices_Clone_int_zero Tryz.QS a cap w) ?_
   rintro e w' ⟨v',rfl,ho,_,hB⟩
   have hE:Ext w w':=⟨hB.os,hB.tape,hB.output,hB.size,hB.block⟩
   exact⟨_,rfl,h _ _ (S.take hE ho)⟩
 ·obtain⟨b,off,rfl,_,_⟩:=xR hl (i:=0) (List.length_pos_iff.2 h0)
  refine Calls.mono (Any.slices_Clone_int Tryz.QS b off l.length cap l w (Nat.le_refl _) (by omega) λj hj=>?_) ?_
  ·obtain⟨b',off',hE,_,hc⟩:=xR hl hj
   cases hE
   rw[S.at hc,ggd,gqg hj];rfl
  rintro e w' ⟨v',rfl,ho,_,hB⟩
  have hE:Ext w w':=⟨hB.os,hB.tape,hB.output,hB.size,hB.block⟩
  rw[List.take_length]at ho
  exact⟨_,rfl,h _ _ (S.take hE ho)⟩
end
section
variable {m:List Bool}
theorem ahp{i:Nat}(hi:i<m.length):mkd (m.take (i+1))=mkd (m.take i)++(if m[i]=true then [(i:Int)]else []):=by
 have hl:(m.take (i+1)).length=i+1:=by rw[List.length_take];omega
 have hl':(m.take i).length=i:=by rw[List.length_take];omega
 rw[mkd,mkd,hl,hl',List.range_succ,List.filter_append,List.map_append]
 congr 1
 ·congr 1
  refine List.filter_congr λx hx=>?_
  have:=List.mem_range.1 hx
  rw[ggd,ggd,List.getElem?_take,List.getElem?_take,if_pos (by omega),if_pos this]
 ·have e:(m.take (i+1)).getD i false=m[i]:=by
   rw[ggd,List.getElem?_take,if_pos (by omega),gqg hi];rfl
  cases hm:m[i]with
  |true=>rw [List.filter_cons_of_pos (by rw[e,hm])];simp
  |false=>rw [List.filter_cons_of_neg (by rw[e,hm];simp)];simp
theorem ait:(mkd m).length≤m.length:=by
 rw[mkd,List.length_map];exact Nat.le_trans (List.length_filter_le _ _) (by simp)
theorem Yx{l:List Int}{x:Int}:ints (l++[x])=ints l++[.int .i64 x]:=by simp[ints]
end
end Go.Proofs
namespace Go.Proofs.Tryz
open Go.Sh
def yQ(t0 t1:Value)(w:World)(K:VW):Prop:=
 ca yl #[t0,t1] w λt7 w1=>
 bt .geq 3 t7 (i6 0) λt8=>K t8 w1
theorem kN{t0 t1:Value}{w:World}{K:VW}(h:yQ t0 t1 w K):zc prog yc #[t0,t1] w K:=
 okC false (.s (.r (rz 1 0 0)) (.s (.r (rz 5 0 32)) (.n))) func61 rfl (by kernel_rfl) (by kernel_rfl) h
def xc(t0 t1:Value)(w:World)(K:VW):Prop:=
 pp (Builtin.len_ #[44] 3 #[t0]) λt7=>zu [(i6 0)] w (λs2 _d3 w4 K1=>
 bf .lss 3 (s2.getD 0 u_) t7 λt9=>zb t9 (xl w4 44 t0 (s2.getD 0 u_) 48 λt15=>cv t1 #[t15] w4 λt16 w5=>
 zb t16 (K (s2.getD 0 u_) w5) (bt .add 3 (s2.getD 0 u_) (i6 1) λt18=>K1 [t18] w5)) (K (i6 (-1)) w4))
theorem qG{t0 t1:Value}{w:World}{K:VW}(h:xc t0 t1 w K):zc prog yl #[t0,t1] w K:=
 okC false (.s (.r (rz 1 0 0)) (.s (.s (.r (rz 3 0 0)) (.b (.lp [8] (.s (.r (rz 1 0 0)) (.s (.c (.n) (.n)) (.s (.b (.s (.r (rz 2 0 0)) (.s (.r (rz 6 0 2304)) (.c (.s (.r (rz 2 0 0)) (.n)) (.n))))) (.r (rz 2 0 0)))))))) (.s (.r (rz 1 0 0)) (.n)))) func125 rfl (by kernel_rfl) (by kernel_rfl) h
end Go.Proofs.Tryz
namespace Go.Proofs
open Go.Sh Go.RowKit
theorem aev{r:Gh}{p:Option Addr}{n cap:Nat}{l:List Int}(h:SlG 1 r xo (.slice p n cap) l){i:Nat}(hi:i<l.length):∃b off,p=some ⟨b,off,none⟩∧n=l.length∧Ob r λw=>w.cell? ⟨b,off+i,none⟩=some (.int .i64 l[i]):=
 xR (h.mono λc x hx=>hx.1) hi
end Go.Proofs
namespace Go.Proofs.Tryz
open Go.Sh
section
variable {t0:Value} {w:World} {K:VW}
def aam(t0:Value)(w:World)(K:VW):Prop:=
 pw w (Instr.alloc 48 true (.tuple #[])) λt2 w1=>
 bt .lss 3 t0 (i6 0) λt5=>za (λK2=>gIf t5 false (bt .gtr 3 t0 (i6 1032) λt8=>K2 [t8] w1) (K2 [u_] w1)) (λs3 _d4 w5=>
 zd t5 tr_ (s3.getD 0 u_) λt9=>zb t9 (pp (Instr.build 48 #[]) λt10=>so w5 48 t2 t10 λw6=>pq w6 (zg 48 t2) λr7=>K (.tuple #[r7,(i6 2)]) w6) (bt .add 3 t0 (i6 63) λt13=>bt .quo 3 t13 (i6 64) λt14=>pw w5 (Instr.makeSlice 46 t14 t14) λt15 w8=>
 pp (Instr.build 48 #[(0,t0),(1,t15)]) λt16=>so w8 48 t2 t16 λw9=>pq w9 (zg 48 t2) λr10=>K (.tuple #[r10,(i6 0)]) w9))
theorem ad2(h:aam t0 w K):zc prog Xv #[t0] w K:=
 okC false (.s (.r (rz 2 0 2)) (.s (.s (.r (ra 3 0 0 (.grp 6 false (ri 2 3 0) [8] (rz 1 5 0)))) (.c (.s (.r (rz 3 0 8)) (.n)) (.n))) (.s (.r (rz 8 0 8704)) (.n)))) func154 rfl (by kernel_rfl) (by kernel_rfl) h
def aan(t0:Value)(w:World)(K:VW):Prop:=
 pw w (Instr.box 48 t0) λt1 w1=>
 fl w1 t1 48 0 3 λt4=>bt .lss 3 t4 (i6 0) λt5=>za (λK2=>gIf t5 false (fl w1 t1 48 0 3 λt8=>bt .gtr 3 t8 (i6 1032) λt9=>K2 [t9] w1) (K2 [u_] w1)) (λs3 _d4 w5=>
 zd t5 tr_ (s3.getD 0 u_) λt10=>za (λK6=>gIf t10 false (fl w5 t1 48 1 46 λt13=>pp (Builtin.len_ #[46] 3 #[t13]) λt14=>fl w5 t1 48 0 3 λt16=>bt .add 3 t16 (i6 63) λt17=>bt .quo 3 t17 (i6 64) λt18=>bf .neq 3 t14 t18 λt19=>K6 [t19] w5) (K6 [u_] w5)) (λs7 _d8 w9=>
 zd t10 tr_ (s7.getD 0 u_) λt20=>zb t20 (K fa_ w9) (fl w9.drew t1 48 0 3 λt22=>bt .rem 3 t22 (i6 64) λt23=>bt .eql 3 t23 (i6 0) λt24=>za (λK10=>gIf t24 false (fl w9.drew t1 48 1 46 λt27=>fl w9.drew t1 48 1 46 λt29=>pp (Builtin.len_ #[46] 3 #[t29]) λt30=>bt .sub 3 t30 (i6 1) λt31=>xl w9.drew 46 t27 t31 205 λt33=>fl w9.drew t1 48 0 3 λt35=>bt .rem 3 t35 (i6 64) λt36=>bf .shr 205 t33 t36 λt37=>bt .eql 205 t37 (Value.int .u64 0) λt38=>K10 [t38] w9.drew) (K10 [u_] w9.drew)) (λs11 _d12 w13=>
 zd t24 tr_ (s11.getD 0 u_) λt39=>K t39 w13))))
theorem ad3(h:aan t0 w K):zc prog Zr #[t0] w K:=
 okC false (.s (.r (rz 2 0 2)) (.s (.s (.r (ra 4 0 4 (.grp 6 false (ri 3 4 4) [9] (ra 2 7 0 (.grp 11 false (ri 8 9 260) [19] (rz 1 17 0)))))) (.c (.s (.r (rz 1 0 0)) (.n)) (.n))) (.s (.r (ra 5 0 4 (.grp 25 false (ri 13 5 278596) [38] (rz 2 18 0)))) (.n)))) func63 rfl (by kernel_rfl) (by kernel_rfl) h
def QT(t0 t1:Value)(w:World)(K:VW):Prop:=
 pw w (Instr.box 48 t0) λt2 w1=>
 pw w1 (Instr.box 48 t1) λt3 w2=>
 fl w2 t2 48 0 3 λt7=>fl w2 t3 48 0 3 λt9=>bf .neq 3 t7 t9 λt10=>za (λK3=>gIf t10 false (fl w2 t2 48 1 46 λt13=>pp (Builtin.len_ #[46] 3 #[t13]) λt14=>fl w2 t3 48 1 46 λt16=>pp (Builtin.len_ #[46] 3 #[t16]) λt17=>bf .neq 3 t14 t17 λt18=>K3 [t18] w2) (K3 [u_] w2)) (λs4 _d5 w6=>
 zd t10 tr_ (s4.getD 0 u_) λt19=>zb t19 (K fa_ w6) (zu [(i6 0)] w6 (λs8 _d9 w10 K7=>
 fl w10 t2 48 1 46 λt22=>pp (Builtin.len_ #[46] 3 #[t22]) λt23=>bf .lss 3 (s8.getD 0 u_) t23 λt24=>zb t24 (fl w10.drew t2 48 1 46 λt28=>xl w10.drew 46 t28 (s8.getD 0 u_) 205 λt31=>fl w10.drew t3 48 1 46 λt33=>xl w10.drew 46 t33 (s8.getD 0 u_) 205 λt36=>bf .neq 205 t31 t36 λt37=>zb t37 (K fa_ w10.drew) (bt .add 3 (s8.getD 0 u_) (i6 1) λt26=>K7 [t26] w10.drew)) (K tr_ w10))))
theorem aca{t1:Value}(h:QT t0 t1 w K):zc prog ZK #[t0,t1] w K:=
 okC false (.s (.r (rz 3 0 10)) (.s (.s (.r (ra 6 0 68 (.grp 11 false (ri 7 6 260) [18] (rz 1 13 0)))) (.c (.s (.r (rz 1 0 0)) (.n)) (.n))) (.s (.s (.r (rz 1 0 0)) (.b (.lp [5] (.s (.s (.r (rz 5 0 16)) (.c (.n) (.n))) (.s (.b (.s (.r (rz 11 0 266500)) (.c (.s (.r (rz 1 0 0)) (.n)) (.n)))) (.r (rz 3 0 0))))))) (.s (.r (rz 1 0 0)) (.n))))) func77 rfl (by kernel_rfl) (by kernel_rfl) h
def aao(t0 t1:Value)(w:World)(K:VW):Prop:=
 pw w (Instr.alloc 48 true (.tuple #[])) λt4 w1=>
 ca ZL #[t0] w1 λt8 w2=>
 pw w2 (Instr.alloc 48 true (.tuple #[])) λt5 w3=>
 so w3 48 t5 t8 λw4=>zu [(i6 0)] w4 (λs6 _d7 w8 K5=>
 pp (Builtin.len_ #[55] 3 #[t1]) λt11=>bf .lss 3 (s6.getD 0 u_) t11 λt12=>zb t12 (fl w8.drew t5 48 1 46 λt16=>xl w8.drew 55 t1 (s6.getD 0 u_) 3 λt20=>bt .quo 3 t20 (i6 64) λt21=>fl w8.drew t5 48 1 46 λt23=>xl w8.drew 55 t1 (s6.getD 0 u_) 3 λt27=>bt .quo 3 t27 (i6 64) λt28=>xl w8.drew 46 t23 t28 205 λt30=>xl w8.drew 55 t1 (s6.getD 0 u_) 3 λt34=>bt .rem 3 t34 (i6 64) λt35=>bt .shl 205 (Value.int .u64 1) t35 λt36=>bf .or 205 t30 t36 λt37=>px 46 t16 t21 λt38=>so w8.drew 205 t38 t37 λw9=>bt .add 3 (s6.getD 0 u_) (i6 1) λt14=>K5 [t14] w9) (lo w8 48 t5 λt39=>so w8 48 t4 t39 λw10=>pq w10 (zg 48 t4) λr11=>K r11 w10))
theorem ad4{t1:Value}(h:aao t0 t1 w K):zc prog Xw #[t0,t1] w K:=
 okC false (.s (.r (rz 1 0 2)) (.s (.r (rz 4 0 168)) (.s (.s (.r (rz 1 0 0)) (.b (.lp [6] (.s (.s (.r (rz 4 0 0)) (.c (.n) (.n))) (.s (.b (.r (rz 25 0 563225921913860))) (.r (rz 3 0 0))))))) (.s (.r (rz 2 0 9)) (.n))))) func139 rfl (by kernel_rfl) (by kernel_rfl) h
def QU(t0:Value)(w:World)(K:VW):Prop:=
 pw w (Instr.alloc 48 true (.tuple #[])) λt2 w1=>
 bt .add 3 t0 (i6 63) λt5=>bt .quo 3 t5 (i6 64) λt6=>pw w1 (Instr.makeSlice 46 t6 t6) λt7 w2=>
 pp (Instr.build 48 #[(0,t0),(1,t7)]) λt8=>so w2 48 t2 t8 λw3=>pq w3 (zg 48 t2) λr4=>K r4 w3
theorem acb(h:QU t0 w K):zc prog ZL #[t0] w K:=
 okC false (.s (.r (rz 1 0 2)) (.s (.r (rz 7 0 8704)) (.n))) func184 rfl (by kernel_rfl) (by kernel_rfl) h
end
end Go.Proofs.Tryz
namespace Go.Proofs
open Go.Sh Go.RowKit Go.BM
section
variable {r:Gh} {c:List Value}
def WdC(c:List Value)(x:BitVec 64):Prop:=c=[u64 x]
def RwbC(r:Gh)(c:List Value)(x:Int×List (BitVec 64)):Prop:=∃p cap,c=[.int .i64 x.1,.slice p x.2.length cap]∧SlB 1 r WdC (.slice p x.2.length cap) x.2
theorem RwbC.up{s:Gh}{x:Int×List (BitVec 64)}(h:RwbC r c x)[le:Le r s]:RwbC s c x:=by
 obtain⟨p,cap,h1,h2⟩:=h;exact⟨p,cap,h1,h2.cells⟩
theorem Xh{p:Option Addr}{n cap:Nat}{l:List (BitVec 64)}(h:SlG 1 r WdC (.slice p n cap) l){i:Nat}(hi:i<l.length):∃b off,p=some ⟨b,off,none⟩∧n=l.length∧Ob r λw=>w.cell? ⟨b,off+i,none⟩=some (u64 l[i]):=agj (V:=u64) h hi
theorem aap{W:Int}{ws:List (BitVec 64)}{w:World}{K:Value→World→Prop}(hr:Holds r w)(hx:RwbC r c (W,ws))
  (h:∀w',Ext w w'→K (.bool (BM.mayB W ws)) w'):zc Tryz.prog Tryz.Zr #[.agg c.toArray] w K:=by
 refine Tryz.ad3 ?_
 unfold Tryz.aan
 obtain⟨p,cap,rfl,hS⟩:=hx
 have hfew:ws.length≤9223372036854775807:=hS.few
 have S:=St.start hr
 refine S.box λb1 w1 S=>?_
 have S:StX noX w r w1 [.cell b1 [.int .i64 W,.slice p ws.length cap] 48]:=S
 refine gg_ ?_
 refine zn (c:=decide (1032<W)) (λ_ K2 hK2=>by refine gg_ ?_;exact hK2) ?_
 refine zn (c:=decide ((ws.length:Int)≠(W+63)/64)) (λhb K2 hK2=>?_) ?_
 ·simp only[Bool.or_eq_false_iff,decide_eq_false_iff_not]at hb
  refine gg_ ?_
  exact hK2
 refine c_b (λhb=>?_) (λhb=>?_)
 ·rw[BM.mayB_false (λhm=>by
   simp only[Bool.or_eq_true,gdt]at hb
   have:=hm.1;have:=hm.2.1;have:=hm.2.2.1
   omega)]at h
  exact h _ S.ext
 simp only[Bool.or_eq_false_iff,decide_eq_false_iff_not,Decidable.not_not]at hb
 obtain⟨⟨h0,h1⟩,h2⟩:=hb
 have S:=S.go (Ext.drew _)
 refine gg_ ?_
 by_cases h3:W%64=0
 ·rw[gde h3]
  refine zn (c:=true) (λhc=>by cases hc) ?_
  rw[BM.mayB_true (ahl (by omega) (by omega) h2 h3)]at h
  exact h _ S.ext
 rw[decide_eq_false h3]
 have hlt:ws.length-1<ws.length:=by omega
 obtain⟨b2,o2,rfl,_,hc⟩:=Xh hS.sl hlt
 have hz:(((ws[ws.length-1] >>> (W%64).toNat).toNat:Int)=0)↔BM.May W ws:=by
  rw[ahk (by omega) (by omega) h2 h3 hlt]
  constructor
  ·intro hz;apply BitVec.eq_of_toNat_eq;have h9:(ws[ws.length-1] >>> (W%64).toNat).toNat=0:=by omega
   rw[h9];rfl
  ·intro hz;rw[hz];rfl
 have hE:BM.mayB W ws=decide (((ws[ws.length-1] >>> (W%64).toNat).toNat:Int)=0):=by unfold BM.mayB;simp only[← hz]
 rw[hE]at h
 generalize ws[ws.length-1]=x at hc h
 refine zn (c:=decide (((x >>> (W%64).toNat).toNat:Int)=0)) (λ_ K2 hK2=>?_) ?_
 ·refine gg_ ?_
  refine zf (by rw[show ((ws.length:Int)-1).toNat=ws.length-1 by omega];exact S.at hc) ?_
  refine gg_ ?_
  exact hK2
 exact h _ S.ext
end
end Go.Proofs
namespace Go.Sh
open Go.RowKit Go.MapKept
section
def mpI(P:Program)(t:TypeId):Option (TypeId×TypeId):=match P.underlying t with
 |some (.map k e)=>(match P.underlying k with|some (.int .i64)=>some (k,e)|_=>none)
 |_=>none
theorem ads{P:Program}{t k e:TypeId}(h:mpI P t=some (k,e)):P.underlying t=some (.map k e)∧P.underlying k=some (.int .i64):=by
 unfold mpI at h
 split at h
 ·rename_i k' e' h1
  split at h
  ·rename_i h2
   cases h;exact⟨h1,h2⟩
  ·cases h
 ·cases h
def ajo(m:MapEntry)(x:Int×Value):Prop:=m.key=.int .i64 x.1∧m.val=x.2
inductive EntsI:List MapEntry→List (Int×Value)→Prop
 |nil:EntsI [] []
 |cons {m:MapEntry} {x:Int×Value} {l:List MapEntry} {M:List (Int×Value)}:ajo m x→EntsI l M→EntsI (m::l) (x::M)
theorem EntsI.snoc{l:List MapEntry}{M:List (Int×Value)}{m:MapEntry}{x:Int×Value}(h:EntsI l M)(hm:ajo m x):EntsI (l++[m]) (M++[x]):=by
 induction h with
 |nil=>exact .cons hm .nil
 |cons h _ ih=>exact .cons h ih
def XP(M:List (Int×Value))(o:Obj):Prop:=∃es c,o=.map es c∧EntsI es.toList M
theorem abM{x:Int}{kd:IntKind}{l:List MapEntry}{M:List (Int×Value)}(h:EntsI l M):∀{i:Nat},∃o,Instr.findNow (.int kd) (.int .i64 x) l i=some o∧o.map (·.2)=M.lookup x:=by
 induction h with
 |nil=>intro i;exact⟨none,rfl,rfl⟩
 |@cons m y l M hm h ih=>
  intro i
  obtain⟨hk,hv⟩:=hm
  obtain⟨y1,y2⟩:=y
  by_cases hx:x=y1
  ·subst hx
   refine⟨some (i,m.val),?_,?_⟩
   ·rw[Instr.findNow,hk];simp[Instr.sameNow]
   ·rw[List.lookup_cons,show (x == x)=true by simp,hv];rfl
  ·obtain⟨o,h1,h2⟩:=ih (i:=i+1)
   have hb:(x == y1)=false:=by simpa using hx
   refine⟨o,?_,?_⟩
   ·rw[Instr.findNow,hk];simp[Instr.sameNow,hb,h1]
   ·rw[List.lookup_cons,hb,h2]
class adt(b:Nat)(L:List Asr)(Q:outParam (Obj→Prop))(f:outParam (Asr→List Asr)):Prop where
 h:∃p q,L=p++.obj b Q::q∧∀y,f y=p++y::q
instance {b:Nat} {Q:Obj→Prop} {L:List Asr}:adt b (.obj b Q::L) Q λy=>y::L:=⟨[],L,rfl,λ_=>rfl⟩
instance (priority:=low) {b:Nat} {Q:Obj→Prop} {x:Asr} {L:List Asr} {f:Asr→List Asr} [h:adt b L Q f]:adt b (x::L) Q λy=>x::f y:=⟨by
 obtain⟨p,q,h1,h2⟩:=h.h
 exact⟨x::p,q,by rw[h1];rfl,λc'=>by rw[h2];rfl⟩⟩
section
variable {P:Program} {X:Nat→Prop} {w0 w:World} {r:Gh} {L:List Asr} {t k e:TypeId} {b:Nat} {M:List (Int×Value)} {f:Asr→List Asr}
theorem StX.mkMapI(S:StX X w0 r w L){K:Value→World→Prop}(h:∀b w',StX X w0 r w' (.obj b (XP [])::L)→K (.map (some b)) w'):opW P w (Instr.makeMap t none) K:=
 S.mkMap λb w' S'=>h b w' ⟨S'.x,S'.holds,λx hx=>by
  rcases List.mem_cons.1 hx with rfl|hx
  ·obtain⟨o,h1,h2,rfl⟩:=S'.has _ List.mem_cons_self
   exact⟨_,h1,h2,_,_,rfl,.nil⟩
  ·exact S'.has x (List.mem_cons_of_mem _ hx),λx hx=>by
  rcases List.mem_cons.1 hx with rfl|hx
  ·exact S'.mine (.obj b (· = .map #[] 0)) List.mem_cons_self
  ·exact S'.mine x (List.mem_cons_of_mem _ hx),by
  have:=S'.apart
  rw[List.pairwise_cons]at this⊢
  exact this⟩
theorem StX.mapAddI(S:StX X w0 r w L){x:Int}{v:Value}[h0:adt b L (XP M) f](ht:mpI P t=some (k,e))(hn:M.lookup x=none){K:World→Prop}
  (h:∀w',StX X w0 r w' (f (.obj b (XP (M++[(x,v)]))))→K w'):opU P w (Instr.mapUpdate t (.map (some b)) (.int .i64 x) v) K:=by
 obtain⟨ht,hk⟩:=ads ht
 obtain⟨p,q,e1,e2⟩:=h0.h
 obtain⟨o,hb,_,es,c,rfl,hE⟩:=S.has (.obj b (XP M)) (by rw[e1];simp)
 obtain⟨o,h1,h2⟩:=abM (x:=x) (kd:=.i64) hE (i:=0)
 have h3:o=none:=by
  rw[hn]at h2
  cases o with
  |none=>rfl
  |some y=>cases h2
 subst h3
 have hf:=run_findKey (w:=w) hk h1
 refine⟨{ w with heap:=w.heap.setIfInBounds b (.map (es.push { key:=.int .i64 x,val:=v,born:=c }) (c+1)) },?_,h _ ?_⟩
 ·simp[Instr.mapUpdate,run_underlying ht,MapKept.run_getObj_map hb,run_checkKey (w:=w) hk (k:=.int .i64 x) rfl false 9999,hf,MapKept.run_setObj_map _ hb,Result.andThen]
 ·obtain⟨a1,a2⟩:=heap_set hb (o':=.map (es.push { key:=.int .i64 x,val:=v,born:=c }) (c+1))
  rw[e2]
  rw[e1]at S
  exact S.turn (x:=.obj b (XP M)) (y:=.obj b (XP (M++[(x,v)]))) ⟨rfl,rfl,rfl,by simp,λk _ hk=>a2 k hk⟩ ⟨_,a1,rfl,_,_,rfl,by rw[Array.toList_push];exact hE.snoc ⟨rfl,rfl⟩⟩ λk hk=>.inl hk
theorem StX.mapGetI(S:StX X w0 r w L){x:Int}{z:Value}[h0:adt b L (XP M) f](ht:mpI P t=some (k,e))(hz:zr1 P e=some z){K:Value→Prop}(h:K ((M.lookup x).getD z)):
  opQ P w (Instr.lookup t (.map (some b)) (.int .i64 x) false) K:=by
 obtain⟨ht,hk⟩:=ads ht
 obtain⟨p,q,e1,e2⟩:=h0.h
 obtain⟨o,hb,_,es,c,rfl,hE⟩:=S.has (.obj b (XP M)) (by rw[e1];simp)
 obtain⟨o,h1,h2⟩:=abM (x:=x) (kd:=.i64) hE (i:=0)
 refine⟨_,λw' ex=>?_,h⟩
 have hb':w'.heap[b]? = some (.map es c):=(ex.block b (Array.getElem?_eq_some_iff.1 hb).1).trans hb
 have hf:=run_findKey (w:=w') hk h1
 rw[← h2]
 cases o with
 |none=>simp [Instr.lookup,run_underlying ht,MapKept.run_getObj_map hb',run_checkKey (w:=w') hk (k:=.int .i64 x) rfl _ 9999,hf,abG hz,Result.andThen]
 |some y=>simp [Instr.lookup,run_underlying ht,MapKept.run_getObj_map hb',run_checkKey (w:=w') hk (k:=.int .i64 x) rfl _ 9999,hf,Result.andThen]
end
end
end Go.Sh
namespace Go.Proofs
open Go.Sh Go.RowKit
theorem mpW:mpI Tryz.prog 218=some (3,55):=by kernel_rfl
theorem aa7:zr1 Tryz.prog 55=some (.slice none 0 0):=by kernel_rfl
end Go.Proofs
namespace Go.Sh
open Go.RowKit
section
section
variable {P:Program} {X:Nat→Prop} {w0 w w':World} {r:Gh} {L:List Asr}
theorem NC.of_doms(S:StX X w0 r w L)(e:ExtBut (ZF L) w w'):NC w w':=⟨e.size,λb o hb ho=>by
 have hlt:=(Array.getElem?_eq_some_iff.1 hb).1
 by_cases hd:ZF L b
 ·obtain⟨o',h1,h2⟩:=agP S b hd
  rw[hb]at h1;cases h1;rw[ho]at h2;cases h2
 ·rw[e.block b hlt hd];exact hb⟩
end
end
end Go.Sh
namespace Go.Proofs
open Go.Sh Go.RowKit Go.BM
abbrev wcs(ws:List (BitVec 64)):List Value:=ws.map u64
theorem afc{n:Nat}(hn:n≤1032){X:Nat→Prop}{w0 w:World}{r:Gh}{L:List Asr}{K:Value→World→Prop}(S:StX X w0 r w L)
  (h:∀b w',StX X w0 r w' (.cell b (wcs (List.replicate ((n+63)/64) 0#64)) 205::L)→K (.tuple #[.agg #[.int .i64 n,.slice (some ⟨b,0,none⟩) ((n+63)/64) ((n+63)/64)],.int .i64 0]) w'):zc Tryz.prog Tryz.Xv #[.int .i64 n] w K:=by
 refine Tryz.ad2 ?_
 unfold Tryz.aam
 refine S.al λb2 w1 S=>?_
 refine gp_ ?_
 refine zn (c:=decide (1032<(n:Int))) (λ_ K2 hK2=>by refine gg_ ?_;exact hK2) ?_
 refine c_f (by simp;omega) ?_
 refine gg_ ?_
 refine S.mkS (by omega) (by omega) λb w2 S=>?_
 rw[show (((n:Int)+63)/64).toNat=(n+63)/64 by omega]at S⊢
 have S:=(show StX X w0 r w2 (.cell b (wcs (List.replicate ((n+63)/64) 0#64)) 205::.cell b2 [.int .i64 0,.slice none 0 0] 48::L)by
  rw[wcs,List.map_replicate];exact S)
 refine zo (cs:=#[.int .i64 n,.slice (some ⟨b,0,none⟩) ((n+63)/64) ((n+63)/64)]) (by kernel_rfl) ?_
 refine S.stB (b:=b2) λw3 S=>?_
 refine S.ceB (b:=b2) ?_ rfl
 exact h _ _ S.d2
abbrev rwL(n b:Nat):List Value:=[.int .i64 n,.slice (some ⟨b,0,none⟩) ((n+63)/64) ((n+63)/64)]
section
variable {K:Value→World→Prop}
abbrev y8:=Int×List (BitVec 64)
theorem aaq{f:y8→Bool}{fv v:Value}{w:World}{r:Gh}{l:List y8}{K:Value→World→Prop}(hr:Holds r w)(hl:SlG 2 r (RwbC r) v l)(hb:l.length≤1000000000)
  (hf:∀x∈l,∀(c:List Value)(w:World)(K:Value→World→Prop),Holds r w→RwbC r c x→(∀w',Ext w w'→K (.bool (f x)) w')→zy Tryz.prog fv #[.agg c.toArray] w K)
  (h:∀(i:Int) w',Ext w w'→(0≤i↔l.any f=true)→K (.int .i64 i) w'):zc Tryz.prog Tryz.yl #[v,fv] w K:=by
 refine Tryz.qG ?_
 unfold Tryz.xc
 obtain⟨p,cap,rfl,_,_⟩:=hl.shape
 have S:=St.start hr
 refine gP_ ?_
 refine zk (ι:=Nat) (λi=>[.int .i64 i]) (λi w'=>i≤l.length∧(l.take i).any f=false∧StX noX w r w' []) (λi=>l.length-i) 0 rfl ⟨gzl _,by simp,S⟩ ?_
 clear S
 rintro i d w' ⟨hi,hn,S⟩ K6 hK6
 simp only[gdz]
 refine gP_ ?_
 refine zj (λhlt=>?_) (λhge=>?_)
 ·have hlt:i<l.length:=by omega
  obtain⟨b,off,c,rfl,hcl,hcR,hcell⟩:=hl.get (by decide) hlt
  have hcR0:=hcR
  obtain⟨pw,cw,rfl,_⟩:=hcR
  refine gP_ ?_
  refine zq (n:=2) rfl (λj v hj=>by rw[tnc];exact S.at (hcell j v hj)) ?_
  refine hf _ (gem hlt) _ _ _ S.holds hcR0 λw2 e2=>?_
  have S:=S.go e2
  have ht:(l.take (i+1)).any f=((l.take i).any f||f l[i]):=by
   rw[List.take_succ_eq_append_getElem hlt,List.any_append];simp only[List.any_cons,List.any_nil,Bool.or_false]
  refine c_b (λhy=>?_) (λhno=>?_)
  ·exact h _ _ S.ext ⟨λ_=>List.any_eq_true.2 ⟨l[i],gem hlt,hy⟩,λ_=>Int.natCast_nonneg _⟩
  ·refine gP_ ?_
   refine hK6 (i+1) _ ⟨hlt,?_,S⟩ (by omega)
   rw[ht,hn,hno];rfl
 ·have :i=l.length:=by omega
  subst this
  rw[List.take_length]at hn
  exact h _ _ S.ext ⟨λh=>by omega,λh=>by rw[hn]at h;cases h⟩
theorem QV{f:y8→Bool}{fv v:Value}{w:World}{r:Gh}{l:List y8}{K:Value→World→Prop}(hr:Holds r w)(hl:SlG 2 r (RwbC r) v l)(hb:l.length≤1000000000)
  (hf:∀x∈l,∀(c:List Value)(w:World)(K:Value→World→Prop),Holds r w→RwbC r c x→(∀w',Ext w w'→K (.bool (f x)) w')→zy Tryz.prog fv #[.agg c.toArray] w K)
  (h:∀w',Ext w w'→K (.bool (l.any f)) w'):zc Tryz.prog Tryz.yc #[v,fv] w K:=by
 refine Tryz.kN ?_
 unfold Tryz.yQ
 refine aaq hr hl hb hf λi w' e hi=>?_
 refine gP_ ?_
 have e2:decide (i≥0)=l.any f:=by
  by_cases hh:l.any f=true
  ·rw[hh];exact gde (hi.2 hh)
  ·rw[Bool.eq_false_iff.2 hh];exact decide_eq_false λh=>hh (hi.1 h)
 rw[e2];exact h _ e
def cls(b:Nat→Nat→Bool)(n k:Nat):Option (Nat×Nat):=(List.range n).findSome? λx=>(List.range k).findSome? λq=>if b x q=true then some (x,q)else none
theorem aew{α:Type}{f:Nat→Option α}:∀{n x:Nat}{a:α},x<n→(∀y<x,f y=none)→f x=some a→(List.range n).findSome? f=some a
 |n,x,a,hx,hb,hf=>by
  have e:List.range n=List.range x++(x::List.range' (x+1) (n-x-1)):=by
   rw[← List.range'_succ,List.range_eq_range',List.range_eq_range',show n-x-1+1=n-x by omega]
   have:=List.range'_append_1 (s:=0) (m:=x) (n:=n-x)
   rw[Nat.zero_add]at this
   rw[this];congr 1;omega
  rw[e,List.findSome?_append,List.findSome?_eq_none_iff.2 λy hy=>hb y (List.mem_range.1 hy),List.findSome?_cons,hf]
  rfl
theorem agk{b:Nat→Nat→Bool}{n k x q:Nat}(hx:x<n)(hq:q<k)(h1:∀y<x,∀p<k,b y p=false)(h2:∀p<q,b x p=false)(h:b x q=true):cls b n k=some (x,q):=
 aew hx (λy hy=>List.findSome?_eq_none_iff.2 λp hp=>by rw[h1 y hy p (List.mem_range.1 hp)];rfl) (aew hq (λp hp=>by rw[h2 p hp];rfl) (by rw[h];rfl))
theorem aiu{b:Nat→Nat→Bool}{n k:Nat}(h:∀y<n,∀p<k,b y p=false):cls b n k=none:=
 List.findSome?_eq_none_iff.2 λy hy=>List.findSome?_eq_none_iff.2 λp hp=>by rw[h y (List.mem_range.1 hy) p (List.mem_range.1 hp)];rfl
end
end Go.Proofs
namespace Go.Proofs.Tryz
open Go.Sh
section
variable {t0:Value} {w:World} {K:VW}
def aar(t0:Value)(w:World)(K:VW):Prop:=
 pw w (Instr.box 48 t0) λt1 w1=>
 pw w1 (Instr.alloc 48 true (.tuple #[])) λt2 w2=>
 lo w2 48 t1 λt4=>ca Zr #[t4] w2 λt5 w3=>
 pp (Op.unary .not t5) λt6=>zb t6 (pp (Instr.build 48 #[]) λt7=>so w3 48 t2 t7 λw4=>pq w4 (zg 48 t2) λr5=>K (.tuple #[r5,(i6 2)]) w4) (fl w3.drew t1 48 0 3 λt9=>fl w3.drew t1 48 1 46 λt11=>ca yN #[t11] w3.drew λt12 w6=>
 Ext w3.drew w6∧
 pp (Instr.build 48 #[(0,t9),(1,t12)]) λt13=>so w6 48 t2 t13 λw7=>pq w7 (zg 48 t2) λr8=>K (.tuple #[r8,(i6 0)]) w7)
theorem ad5(h:aar t0 w K):zc prog Xx #[t0] w K:=
 okC false (.s (.r (rz 3 0 10)) (.s (.s (.r (rz 3 0 9)) (.c (.s (.r (rz 3 0 8)) (.n)) (.n))) (.s (.r (rz 8 0 9028)) (.n)))) func158 rfl (by kernel_rfl) (by kernel_rfl) h
def JQ(t0:Value)(w:World)(K:VW):Prop:=
 pw w (Instr.box 48 t0) λt1 w1=>
 lo w1 48 t1 λt5=>ca Xx #[t5] w1 λt6 w2=>
 pe t6 0 λt7=>pe t6 1 λt8=>pw w2 (Instr.alloc 29 true (.tuple #[])) λt3 w3=>
 so w3 48 t1 t7 λw4=>so w4 29 t3 t8 λw5=>pp (Instr.makeFunc (.func 159) #[] #[t3,t1]) λt9=>K t9 w5
theorem adu(h:JQ t0 w K):zc prog YD #[t0] w K:=
 okC false (.s (.r (rz 2 0 2)) (.s (.r (rz 8 0 43017)) (.s (.r (rz 2 0 0)) (.n)))) func103 rfl (by kernel_rfl) (by kernel_rfl) h
def Zc(t0 t1 t2:Value)(w:World)(K:VW):Prop:=
 lo w 29 t1 λt6=>bt .neq 29 t6 (i6 0) λt7=>zb t7 (K (.tuple #[]) w) (fl w t2 48 1 46 λt9=>pp (Builtin.len_ #[46] 3 #[t9]) λt10=>zu [(i6 0)] w (λs2 _d3 w4 K1=>
 bf .lss 3 (s2.getD 0 u_) t10 λt12=>zb t12 (xl w4 46 t9 (s2.getD 0 u_) 205 λt15=>zu [t15] w4 (λs6 _d7 w8 K5=>
 bt .neq 205 (s6.getD 0 u_) (Value.int .u64 0) λt17=>zb t17 (bt .mul 3 (i6 64) (s2.getD 0 u_) λt24=>ca yU #[(s6.getD 0 u_)] w8 λt26 w9=>
 bf .add 3 t24 t26 λt27=>cv t0 #[t27] w9 λt28 w10=>
 pp (Op.unary .not t28) λt29=>zb t29 (K (.tuple #[]) w10) (bt .sub 205 (s6.getD 0 u_) (Value.int .u64 1) λt20=>bf .and 205 (s6.getD 0 u_) t20 λt21=>K5 [t21] w10)) (bt .add 3 (s2.getD 0 u_) (i6 1) λt30=>K1 [t30] w8))) (K (.tuple #[]) w4)))
theorem Xi{t1 t2:Value}(h:Zc t0 t1 t2 w K):zc prog XY #[t0,t1,t2] w K:=
 okC false (.s (.s (.r (rz 2 0 1)) (.c (.n) (.n))) (.s (.r (rz 4 0 4)) (.b (.lp [11] (.s (.r (rz 1 0 0)) (.s (.c (.n) (.n)) (.s (.b (.s (.r (rz 5 0 16)) (.b (.lp [5] (.s (.s (.r (rz 2 0 0)) (.c (.n) (.n))) (.s (.b (.s (.r (rz 8 0 8704)) (.c (.n) (.n)))) (.r (rz 5 0 0)))))))) (.r (rz 2 0 0))))))))) func159 rfl (by kernel_rfl) (by kernel_rfl) h
def xS(t0:Value)(w:World)(K:VW):Prop:=
 bt .eql 46 t0 (Value.slice Option.none 0 0) λt4=>zb t4 (K (Value.slice Option.none 0 0) w) (pw w (Instr.buildSlice 46 0 #[]) λt5 w1=>
 pw w1 (Builtin.append_ #[46,46] 46 #[t5,t0]) λt7 w2=>
 K t7 w2)
theorem jS(h:xS t0 w K):zc prog yN #[t0] w K:=
 okC false (.s (.r (rz 1 0 0)) (.s (.s (.r (rz 2 0 0)) (.c (.s (.r (rz 1 0 0)) (.n)) (.n))) (.s (.r (rz 4 0 34)) (.n)))) func201 rfl (by kernel_rfl) (by kernel_rfl) h
def xY(t0:Value)(w:World)(K:VW):Prop:=
 bt .eql 205 t0 (Value.int .u64 0) λt4=>zb t4 (K (i6 64) w) (pp (Op.unary .neg t0) λt7=>bf .and 205 t0 t7 λt8=>bt .mul 205 t8 (Value.int .u64 285870213051353865) λt9=>bt .shr 205 t9 (Value.int .u64 58) λt10=>xl w 275 (Value.pointer (some ⟨0,0,none⟩)) t10 5 λt12=>pp (convert 5 3 t12) λt13=>K t13 w)
theorem j9(h:xY t0 w K):zc prog yU #[t0] w K:=
 okC false (.s (.r (rz 1 0 0)) (.s (.s (.r (rz 2 0 0)) (.c (.s (.r (rz 1 0 0)) (.n)) (.n))) (.s (.r (rz 10 0 16384)) (.n)))) func160 rfl (by kernel_rfl) (by kernel_rfl) h
end
end Go.Proofs.Tryz
namespace Go.Proofs
open Go.Sh Go.RowKit Go.BM
section
variable {ws:List (BitVec 64)} {r:Gh} {w:World} {K:Value→World→Prop} {c:List Value} {W:Int} {p:Option Addr} {cap:Nat}
theorem agl(h:BM.mayB W ws=true):BM.May W ws:=Classical.byContradiction λhn=>by rw[BM.mayB_false hn]at h;cases h
theorem aa8:(wcs ws).length=ws.length:=List.length_map _
theorem ahq(ws:List (BitVec 64)):∀u∈wcs ws,u.oneCell'=true:=λu hu=>by
 obtain⟨x,_,rfl⟩:=List.mem_map.1 hu;rfl
theorem jw:RowOf 1 WdC (wcs ws) ws:=⟨by rw[aa8,Nat.mul_one],λj hj=>by
 rw[Nat.mul_one,wcs,← List.map_drop,← List.map_take,List.drop_eq_getElem_cons hj];rfl⟩
theorem agm{n:Nat}(h:SlG 1 r WdC (.slice p n cap) ws):Ob r λw=>Sl w p (wcs ws):=λw hw i v hi=>by
 have hlt:i<ws.length:=by
  have:=(List.getElem?_eq_some_iff.1 hi).1
  rwa[aa8]at this
 obtain⟨b,off,hp,_,hc⟩:=Xh h hlt
 have hv:v=u64 ws[i]:=by
  rw[wcs,List.getElem?_map,gqg hlt]at hi
  exact(Option.some.inj hi).symm
 subst hv
 exact⟨b,off,hp,hc w hw⟩
theorem ad6{K:Value→World→Prop}(hr:Holds r w)(hl:SlB 1 r WdC (.slice p ws.length cap) ws)(hb:ws.length≤1000000)
  (h:∀v' w',Ext w w'→w'.ownsRow w.heap.size 205 1 v' ws.length (wcs ws)→K v' w'):zc Tryz.prog Tryz.yN #[.slice p ws.length cap] w K:=by
 refine Tryz.jS ?_
 unfold Tryz.xS
 have S:=St.start hr
 obtain⟨_,_,hE,hp,_⟩:=hl.sl.shape
 cases hE
 refine Xs (e:=205) (n:=1) (by kernel_rfl) ?_
 refine c_b (λhn=>?_) (λhn=>?_)
 ·have hws:ws=[]:=by
   cases ws with
   |nil=>rfl
   |cons a l=>
    obtain⟨b,off,hb,_⟩:=(S.at (agm hl.sl)) 0 (u64 a) rfl
    rw[hb]at hn;cases hn
  subst hws
  have S:=S.ownNil 205 1
  exact h _ _ S.ext (S.give (.slice none 0 0))
 refine S.lit (e:=205) (cs:=[]) (by kernel_rfl) λb w1 S=>?_
 have S:=S.toRow 0 1 rfl (by decide)
 refine S.ap (v:=.slice (some ⟨b,0,none⟩) 0 0) (S.at (agm hl.sl)) (λv2 w2 S=>?_) (by omega) (by rw[aa8,Nat.mul_one]) hp (ahq _)
 rw[Nat.zero_add,List.nil_append]at S
 exact h _ _ S.ext (S.give v2)
abbrev aki:Value:=.agg #[.int .i64 0,.slice none 0 0]
theorem afd{x:y8}{K:Value→World→Prop}(hr:Holds r w)(hx:RwbC r c x)
  (h1:BM.mayB x.1 x.2=false→∀w',Ext w w'→K (.tuple #[aki,.int .i64 2]) w')
  (h2:BM.mayB x.1 x.2=true→∀v' w',Ext w w'→w'.ownsRow w.heap.size 205 1 v' x.2.length (wcs x.2)→K (.tuple #[.agg #[.int .i64 x.1,v'],.int .i64 0]) w'):zc Tryz.prog Tryz.Xx #[.agg c.toArray] w K:=by
 refine Tryz.ad5 ?_
 unfold Tryz.aar
 have hx0:=hx
 obtain⟨W,ws⟩:=x
 simp only at h1 h2
 obtain⟨p,cap,rfl,hS⟩:=hx
 have S:=St.start hr
 refine S.box λb1 w1 S=>?_
 refine S.al λb2 w2 S=>?_
 have S:StX noX w r w2 [.cell b2 [.int .i64 0,.slice none 0 0] 48,.cell b1 [.int .i64 W,.slice p ws.length cap] 48]:=S
 refine S.ldB (b:=b1) ?_ rfl
 refine aap S.holds hx0 λw3 e3=>?_
 have S:=S.go e3
 refine gp_ ?_
 refine c_b (λhm=>?_) (λhm=>?_)
 ·refine zo (cs:=#[.int .i64 0,.slice none 0 0]) (by kernel_rfl) ?_
  refine S.stB (b:=b2) λw4 S=>?_
  refine S.ceB (b:=b2) ?_ rfl
  exact h1 (by simpa using hm) _ S.ext
 have hm:BM.mayB W ws=true:=by simpa using hm
 have hM:BM.May W ws:=agl hm
 have hl:ws.length≤1000000:=by have:=hM.2.1;have:=hM.2.2.1;omega
 have S:=S.go (Ext.drew _)
 refine gg_ ?_
 refine ad6 S.holds hS hl λv4 w4 e4 h4=>⟨e4,?_⟩
 have S:=S.take e4 h4
 obtain⟨p4,cap4,rfl,_⟩:=S.rowS v4
 refine zo (cs:=#[.int .i64 W,.slice p4 ws.length cap4]) (by kernel_rfl) ?_
 refine S.stB (b:=b2) λw5 S=>?_
 refine S.ceB (b:=b2) ?_ rfl
 exact h2 hm _ _ S.ext (S.give (.slice p4 ws.length cap4))
def Tab(w:World):Prop:=∀j,j<64→w.cell? ⟨0,j,none⟩=some (.int .u8 (Lib.deBruijn64tab.getD j 0:Nat))
def TabG(r:Gh):Prop:=Ob r Tab∧∃o,r 0 o
theorem TabG.up{s:Gh}(h:TabG r)[le:Le r s]:TabG s:=⟨h.1.up,h.2.imp λo=>le.le 0 o⟩
theorem Jw{x:BitVec 64}{t:Nat}(hT:Tab w)(hx:x≠0#64)(ht:t<64)(ha:(x &&& -x).toNat=2 ^ t)(h:K (.int .i64 t) w):
  zc Tryz.prog Tryz.yU #[u64 x] w K:=by
 refine Tryz.j9 ?_
 unfold Tryz.xY
 refine ahK ?_
 refine zj (λh0=>absurd (BitVec.eq_of_toNat_eq (by have :(0#64).toNat=0:=rfl;omega)) hx) (λh0=>?_)
 refine ah3 (aaE ?_)
 rw[acF]
 refine aiZ 285870213051353865 rfl ?_
 refine aiY 58 rfl ?_
 have hta:=ahm ht ha
 generalize ((x &&& -x)*BitVec.ofNat 64 285870213051353865) >>> 58=z at hta⊢
 refine acK (l:=64) (e:=5) (n:=1) (by kernel_rfl) (by omega) (by omega) ?_
 have hc:=hT _ hta.1
 rw[hta.2]at hc
 refine zf (v:=.int .u8 (t:Int)) (by rw[show 0+Int.toNat (z.toNat:Int)*1=z.toNat by omega];exact hc) ?_
 refine ah4 (k1:=.u8) (by kernel_rfl) (by kernel_rfl) (by omega) h
abbrev Vu(k:Nat):List Value:=[.int .i64 (k:Int)]
noncomputable def vy(W:Int)(ws:List (BitVec 64)):List Nat:=if BM.mayB W ws then Z5 ws else []
theorem abN(h:BM.May W ws):vy W ws=Z5 ws:=by simp[vy,BM.mayB_true h]
theorem agn(h:BM.mayB W ws=false):vy W ws=[]:=by simp[vy,h]
theorem ahr{α:Type}{l:List α}{k:Nat}{x:α}{r:List α}(h:l.drop k=x::r):l[k]? = some x∧l.drop (k+1)=r:=by
 constructor
 ·have :(l.drop k)[0]? = some x:=by rw[h];rfl
  rwa[List.getElem?_drop,Nat.add_zero]at this
 ·rw[← List.drop_drop,h];rfl
theorem StX.frzNew{w0:World}{L M:List Asr}{T:TypeId}(S:StX noX w0 r w L)(b:Nat)[h:j2 b L c T M]:StX noX w0 (r.or (Go.Sh.one b c T)) w M∧Above w0 (Go.Sh.one b c T):=
 ⟨S.frzAt b,λk o ho=>by
  obtain⟨rfl,_⟩:=ho
  exact((S.permO h.h.symm).mine _ List.mem_cons_self k rfl).1.resolve_right id⟩
theorem xd{q:Gh}{b i:Nat}{T:TypeId}{v:Value}[Le (Go.Sh.one b c T) q](h:c[i]? = some v):Ob q λw=>w.cell? ⟨b,i,none⟩=some v:=λw hw=>by
 have B:Blk w b c T:=xt w (hw.le (h:=inferInstance))
 show w.cell? ⟨b,i,none⟩=some v
 rw[B.cell];exact h
theorem ago{q:Gh}{b1 b3:Nat}{D0:Nat→Prop}{w2:World}(B3:Ob q λw=>w.cell? ⟨b3,0,none⟩=some (.int .i64 0))(B1:Ob q λw=>w.cell? ⟨b1,1,none⟩=some (.slice p ws.length cap))
  (hw:SlG 1 q WdC (.slice p ws.length cap) ws) (hl:ws.length≤100000) (hT:TabG q) (hD:∀b,D0 b→∀o,¬q b o) (h2:Holds q w2):
  acm Tryz.prog (.func (.func Tryz.XY) #[] #[.pointer (some ⟨b3,0,none⟩),.pointer (some ⟨b1,0,none⟩)]) w2 ((Z5 ws).map Vu) D0:=by
 refine⟨_,_,rfl,by kernel_rfl,λl W J Jx hW hlw hlt hJ hJx hround hJ0=>?_⟩
 generalize hxs:(Z5 ws).map Vu=xs at hround
 refine Calls.mono (Tryz.Xi (t0:=.func (.yield l) #[] #[]) (t1:=.pointer (some ⟨b3,0,none⟩)) (t2:=.pointer (some ⟨b1,0,none⟩)) (K:=λ_ W'=>(∃D,J xs.length D W')∨Jx W') ?_) (λe W' hh=>by obtain⟨v,he,hk⟩:=hh;exact⟨⟨v,he⟩,hk⟩)
 unfold Tryz.Zc
 have hq:=h2.ext hW
 refine zf (B3 _ hq) ?_
 refine gp_ ?_
 refine c_f rfl ?_
 refine gg_ ?_
 refine zf (B1 _ hq) ?_
 refine gg_ ?_
 refine zk (ι:=Nat) (λi=>[.int .i64 i])
  (λi w'=>i≤ws.length∧Holds q w'∧∃k D,xs.drop k=(k7 i (ws.drop i)).map Vu∧k≤xs.length∧J k D w'∧∀b,D b→∀o,¬q b o)
  (λi=>ws.length-i) 0 rfl ⟨gzl _,hq,0,D0,by rw[← hxs];rfl,gzl _,hJ0,hD⟩ ?_
 rintro i d w7 ⟨hi,hq7,k,D,hdrop,hkl,hJk,hDk⟩ K8 hK8
 simp only[gdz]
 refine gp_ ?_
 refine zj (λhlt=>?_) (λhge=>?_)
 ·have hlt:i<ws.length:=by omega
  obtain⟨bw,ow,hpw,_,hcw⟩:=Xh hw hlt
  subst hpw
  refine gg_ ?_
  refine zf (by rw[tnc];exact hcw _ hq7) ?_
  rw[ab8 hlt,List.map_append,List.map_map]at hdrop
  refine zk (ι:=BitVec 64) (λx=>[u64 x])
   (λx w'=>Holds q w'∧∃k D,xs.drop k=(Zy x).map (Vu ∘ (64*i + ·))++(k7 (i+1) (ws.drop (i+1))).map Vu∧k≤xs.length∧J k D w'∧∀b,D b→∀o,¬q b o)
   (λx=>(Zy x).length) ws[i] rfl ⟨hq7,k,D,hdrop,hkl,hJk,hDk⟩ ?_
  clear hdrop hkl hJk hDk hq7 k D
  rintro x d w8 ⟨hq8,k,D,hdrop,hkl,hJk,hDk⟩ K9 hK9
  simp only[gdz]
  refine aeJ ?_
  refine zj (λhx=>?_) (λhx=>?_)
  ·have hx:x≠0#64:=by rintro rfl;exact hx rfl
   obtain⟨t,ht,hlow,hwb⟩:=air hx
   refine gp_ ?_
   refine Jw (hT.1 _ hq8) hx ht hlow ?_
   refine gp_ ?_
   refine ah1 ?_
   rw[hwb,List.map_cons,List.cons_append]at hdrop
   have hd:=ahr hdrop
   have hkk:k<xs.length:=(List.getElem?_eq_some_iff.1 hd.1).1
   refine YieldC.mono (hround k _ D w8 hd.1 hJk) ?_
   rintro e w9 ⟨bb,rfl,x9,hJb⟩
   refine⟨_,rfl,?_⟩
   refine gp_ ?_
   refine c_b (λhbb=>?_) (λhbb=>?_)
   ·have hbb:bb=false:=by simpa using hbb
    subst hbb
    exact .inr hJb
   ·have hbb:bb=true:=by simpa using hbb
    subst hbb
    obtain⟨D2,hD2,hJ2⟩:=hJb
    refine gp_ ?_
    refine aaE ?_
    rw[acF]
    refine hK9 _ _ ⟨hq8.but x9 ?_,k+1,D2,hd.2,hkk,hJ2,?_⟩ (by rw[hwb];exact Nat.lt_succ_self _)
    ·rintro b o hb (hn|rfl)
     ·exact hDk b hn o hb
     ·have:=h2.lt hb;omega
    ·intro b hb o ho
     rcases hD2 b hb with h|⟨h,_⟩
     ·exact hDk b h o ho
     ·have:=hq8.lt ho;omega
  ·have hx:x=0#64:=BitVec.eq_of_toNat_eq (by have :(0#64).toNat=0:=rfl;omega)
   subst hx
   refine gg_ ?_
   rw[afa,List.map_nil,List.nil_append]at hdrop
   exact hK8 (i+1) w8 ⟨hlt,hq8,k,D,hdrop,hkl,hJk,hDk⟩ (by omega)
 ·have hi':i=ws.length:=by omega
  subst hi'
  rw[List.drop_length]at hdrop
  have :k=xs.length:=by
   have h1:(xs.drop k).length=0:=by rw[hdrop];rfl
   rw[List.length_drop]at h1;omega
  subst this
  exact .inl ⟨D,hJk⟩
theorem ad7{x:y8}{K:Value→World→Prop}(hr:Holds r w)(hx:RwbC r c x)(hT:TabG r)
  (h:∀g s w',Ext w w'→New w s w'→qO s→(∀(D:Nat→Prop)(w2:World),(∀b,D b→∀o,¬(r.or s) b o)→Holds (r.or s) w2→acm Tryz.prog g w2 ((vy x.1 x.2).map Vu) D)→K g w'):zc Tryz.prog Tryz.YD #[.agg c.toArray] w K:=by
 refine Tryz.adu ?_
 unfold Tryz.JQ
 have hx0:=hx
 obtain⟨W,ws⟩:=x
 simp only at h
 obtain⟨p,cap,rfl,hS⟩:=hx
 have S:=St.start hr
 refine S.box λb1 w1 S=>?_
 have S:StX noX w r w1 [.cell b1 [.int .i64 W,.slice p ws.length cap] 48]:=S
 refine S.ldB (b:=b1) ?_ rfl
 refine afd S.holds hx0 (λhm w2 e2=>?_) (λhm v2 w2 e2 h2=>?_)
 ·have S:=S.go e2
  refine gS_ ?_
  refine S.al λb3 w3 S=>?_
  refine S.stB (b:=b1) λw4 S=>?_
  refine S.st (b:=b3) λw5 S=>?_
  refine gp_ ?_
  have S:StX noX w r w5 [.cell b3 [.int .i64 2] 29,.cell b1 [.int .i64 0,.slice none 0 0] 48]:=S
  obtain⟨S,a3⟩:=StX.frzNew S b3
  rw[agn hm]at h
  refine h _ _ _ S.ext (S.newOf a3) inferInstance λD w6 hD h6=>⟨_,_,rfl,by kernel_rfl,λl W1 J Jx hW hl hlt hJ hJx hround hJ0=>?_⟩
  refine Calls.mono (Tryz.Xi (t0:=.func (.yield l) #[] #[]) (t1:=.pointer (some ⟨b3,0,none⟩)) (t2:=.pointer (some ⟨b1,0,none⟩)) (K:=λ_ W'=>(∃D,J 0 D W')∨Jx W') ?_) (λe W' hh=>by obtain⟨v,he,hk⟩:=hh;exact⟨⟨v,he⟩,hk⟩)
  unfold Tryz.Zc
  refine zf (xd (q:=r.or (Go.Sh.one b3 [.int .i64 2] 29)) (c:=[.int .i64 2]) (T:=29) (v:=.int .i64 2) rfl _ (h6.ext hW)) ?_
  refine gp_ ?_
  exact c_t rfl (.inl ⟨D,hJ0⟩)
 ·have S:=S.take e2 h2
  simp only at S
  have hM:BM.May W ws:=agl hm
  have hl:ws.length≤100000:=by have:=hM.2.1;have:=hM.2.2.1;omega
  obtain⟨p2,cap2,rfl,_⟩:=S.rowS v2
  refine gS_ ?_
  refine S.al λb3 w3 S=>?_
  refine S.stB (b:=b1) λw4 S=>?_
  refine S.st (b:=b3) λw5 S=>?_
  refine gp_ ?_
  have S:StX noX w r w5 [.cell b3 [.int .i64 0] 29,.row (.slice p2 ws.length cap2) 205 1 ws.length (wcs ws),.cell b1 [.int .i64 W,.slice p2 ws.length cap2] 48]:=S
  obtain⟨S,a3⟩:=StX.frzNew S b3
  obtain⟨s2,S,hw,hnb,a2⟩:=S.doneRow (l:=ws) jw (by decide) rfl
  obtain⟨S,a1⟩:=StX.frzNew S b1
  have a2:Above w s2:=λb o ho=>(a2 b o ho).resolve_right id
  have nb2:qO s2:=⟨λb o ho=>by obtain⟨c,rfl⟩:=hnb b o ho;rfl⟩
  have S:StX noX w (r.or (((Go.Sh.one b3 [.int .i64 0] 29).or s2).or (Go.Sh.one b1 [.int .i64 W,.slice p2 ws.length cap2] 48))) w5 []:=S.less (by
   rintro b o (h|(h|h)|h)
   ·exact .inl (.inl (.inl h))
   ·exact .inl (.inl (.inr h))
   ·exact .inl (.inr h)
   ·exact .inr h) (List.Sublist.refl _)
  rw[abN hM]at h
  refine h _ _ _ S.ext (S.newOf ((a3.or' a2).or' a1)) inferInstance λD w6 hD h6=>?_
  exact ago (xd (c:=[.int .i64 0]) (T:=29) rfl) (xd (c:=[.int .i64 W,.slice p2 ws.length cap2]) (T:=48) rfl) hw.cells hl hT.up hD h6
theorem Vv{P:Program}{s:Sem Value}(h:opQ P w s λv=>K v w):opW P w s λv w'=>NC w w'∧K v w':=w_q (by
 obtain⟨v,h1,h2⟩:=h
 exact⟨v,h1,NC.of_ext (Ext.refl w),h2⟩)
end
end Go.Proofs
namespace Go.Proofs
open Go.Sh Go.RowKit
section
section
variable {σ:Type} {X:Nat→Prop} {w0:World} {r:Gh} {fv:Value} {Lc:σ→List Asr} {J:σ→List CnD→Prop} {ss:List StD} {tys:List TyD} {rgs:List Int} {b5 b6 b9 b10:Nat}
def Two(t u:TyD):Prop:=isB t=true∧isB u=true∧bare t=bare u
end
noncomputable abbrev tyD(u:UnD)(g:GrD)(p:PlD):TyD:=kZ u.ss (yI u g).tys p
theorem aiv{ss:List StD}{tys:List TyD}{o:OpD}(h:(yd ss tys o).2=true)(hp:Vr o=true):(zs ss tys o.pl).2.2=true∧(yd ss tys o).1=(zs ss tys o.pl).1:=by
 rw[Vr,Bool.or_eq_true,gdt,gdt]at hp
 rw[yd]at h⊢
 rcases hp with hk|hk
 ·rw[if_neg (by omega),if_neg (by omega),if_pos hk]at h⊢
  simp only[gba]at h
  exact⟨h.1.1,rfl⟩
 ·rw[if_neg (by omega),if_neg (by omega),if_neg (by omega),if_pos hk]at h⊢
  simp only[gba]at h
  exact⟨h.1.1.1,rfl⟩
structure ahs(u:UnD)(g:GrD)(p:PlD):Prop where
 l0:0≤p.l
 l1:p.l.toNat<(yI u g).tys.length
 is:isB (tyD u g p)=true
 bare:bare (tyD u g p)=bare (zs u.ss g.tys p).1
 all:yj u.ss (yI u g).tys p=(tyD u g p,0)
section
variable {u:UnD} {g:GrD} {fn:Nat} {p:PtD}
theorem afe(hM:MayU u)(hH:HeadU u fn g){p:PlD}(ho:(zs u.ss g.tys p).2.2=true):ahs u g p:=by
 obtain⟨h2,_,h3,h4⟩:=ajn (n:=0) hM hH ho
 have hl:=aho ho
 exact⟨hl.1,by rw[(Z2).1];omega,h3,h4,h2⟩
theorem aiw(hM:MayU u)(hH:HeadU u fn g){p:PlD}(ho:(zs u.ss g.tys p).2.2=true):isB (zs u.ss g.tys p).1=true:=
 (abz (hH.fine hM.ok) ho).is (hH.fine hM.ok).few
theorem agp{a:Int}(hM:MayU u)(hH:HeadU u fn g)(hp:zG u g p=true)(hop:p.op=4)(ha: -1≤a):ahs u g p.to∧ahs u g p.fr∧(zs u.ss g.tys p.fr).2.2=true∧Two (.mk 4 p.mu a 0 [tyD u g p.fr]) (tyD u g p.to):=by
 have h2:=j7 hp
 rw[ptG]at h2
 simp only[hop,Int.reduceEq,if_false,if_true,gba,gdt,isK]at h2
 obtain⟨⟨⟨⟨⟨_,hto,_⟩,hfr⟩,hk⟩,hm⟩,hal,_⟩:=h2
 have h:=afe hM hH hto
 have hf:=afe hM hH hfr
 refine⟨h,hf,hfr,?_⟩
 have hs:=aiw hM hH hto
 obtain⟨k1,k2,k3⟩:=abK h.bare
 rcases agd (n:=47) h.is hs h.bare with⟨h1,h3,h4⟩|⟨x,y,h1,h3,h4,h5,h6⟩
 ·omega
 ·rw[h3]at hal
  have hal:=(adY hal).2.2
  have hb:bare (tyD u g p.to)=bare (.mk 4 p.mu a 0 [tyD u g p.fr]):=by
   refine aa5 (u:=x) (x:=tyD u g p.fr) (by rw[k1];exact hk) (by rw[k2];exact hm) ?_ (λh=>absurd (by rw[k1];exact hk) h) h1 rfl (by rw[h6,hf.bare];exact hal)
   show(tyD u g p.to).st=0
   have:=h.is
   rw[isB,yR,if_neg (by omega),if_neg (by omega),if_neg (by omega),if_pos (by omega)]at this
   simp only[gba,gdt]at this
   omega
  refine⟨af8 48 h.is hb (λh=>absurd rfl h) (λz hz=>?_) (λ_=>ha),h.is,hb.symm⟩
  cases hz;exact⟨48,hf.is⟩
end
section
variable {σ:Type} {X:Nat→Prop} {w0:World} {r ρ:Gh} {fv:Value} {Lc:σ→List Asr} {J:σ→List CnD→Prop} {u:UnD} {g:GrD} {q a:Int} {b5 b6 b8 b9 b10:Nat}
theorem agq{P:Program}{t e:TypeId}{n:Nat}{p:Option Addr}{len cap:Nat}{kd:IntKind}{i:Int}{K:Value→Prop}(h:slT P t=some (e,n))(h0:0≤i)(h1:i≤cap)
  (k:K (.slice p i.toNat i.toNat)):opP P (Instr.sliceAt t (.slice p len cap) none (some (.int kd i)) (some (.int kd i))) K:=by
 refine zX (λw=>?_) k
 unfold slT at h
 cases hu:P.underlying t with
 |none=>rw [hu]at h;cases h
 |some d=>
  rw[hu]at h
  cases d<;>first|cases h|skip
  rename_i e'
  simp only[Option.map_eq_some_iff,Prod.mk.injEq]at h
  obtain⟨m,hs,rfl,rfl⟩:=h
  cases p with
  |none=>simp [Instr.sliceAt,Instr.slice,Instr.sliceBounds,Instr.sliceBound,asIntOf,Sem.run_bind,zx hu,Result.andThen,Sem.run,pure,h0,h1,Int.max_eq_left h0,zT hs]
  |some a=>simp [Instr.sliceAt,Instr.slice,Instr.sliceBounds,Instr.sliceBound,asIntOf,Sem.run_bind,zx hu,Result.andThen,Sem.run,pure,h0,h1,Int.max_eq_left h0,zT hs,Addr.add]
theorem aht{ρ:Gh}{q1:Option Addr}{c1 n:Nat}{ps:List Int}(h:SlB 1 ρ xo (.slice q1 ps.length c1) ps)(hn:n≤ps.length):SlB 1 ρ xo (.slice q1 n n) (ps.take n):=by
 obtain⟨⟨p',cap',hE,h2,h3,h4⟩,h5⟩:=h
 cases hE
 have hl:(ps.take n).length=n:=by rw[List.length_take];omega
 refine⟨⟨q1,n,by rw[hl],λe=>?_,by omega,λi hi=>?_⟩,by omega⟩
 ·have:=h2 e;omega
 ·obtain⟨c,k1,k2,k3⟩:=h4 i (by omega)
  exact⟨c,k1,k2,by rw[List.getElem_take];exact k3⟩
end
end
end Go.Proofs
namespace Go.Proofs
open Go.Sh
theorem agr{ss:List StD}{tys:List TyD}{p:PlD}{x:TyD×List Int}(h:zt ss tys p=some x):x.2.length=p.ps.length:=by
 unfold zt at h
 split at h
 ·exact QQ h
 ·cases h
end Go.Proofs
namespace Go.Proofs.Tryz
open Go.Sh
section
variable {t0 t1 t2 t3 t4:Value} {w:World} {K:VW}
def abO(t0 t1:Value)(w:World)(K:VW):Prop:=
 pw w (Instr.box 25 t0) λt2 w1=>
 lo w1 25 t2 λt9=>ca yV #[t9,t1] w1 λt11 w2=>
 pe t11 0 λt12=>pe t11 1 λt13=>za (λK3=>
 bt .eql 29 t13 (i6 0) λt15=>zb t15 (ff w2 t12 155 4 29 λt19=>K3 [t19] w2) (K3 [t13] w2)) (λs4 _d5 w6=>
 bt .neq 29 (s4.getD 0 u_) (i6 0) λt21=>zb t21 (K (.tuple #[(Value.slice Option.none 0 0),(s4.getD 0 u_)]) w6) (ff w6 t12 155 3 66 λt26=>K (.tuple #[t26,(s4.getD 0 u_)]) w6))
theorem aff(h:abO t0 t1 w K):zc prog vG #[t0,t1] w K:=
 okC false (.s (.r (rz 3 0 2)) (.s (.r (rz 8 0 33)) (.j [7] (.s (.r (rz 2 0 0)) (.c (.r (rz 5 0 64)) (.n))) (.s (.s (.r (rz 2 0 0)) (.c (.s (.r (rz 3 0 0)) (.n)) (.n))) (.s (.r (rz 7 0 64)) (.n)))))) func30 rfl (by kernel_rfl) (by kernel_rfl) h
def QW(t0 t1 t2:Value)(w:World)(K:VW):Prop:=
 pw w (Instr.box 25 t0) λt3 w1=>
 lo w1 25 t3 λt11=>ca yV #[t11,t1] w1 λt13 w2=>
 pe t13 0 λt14=>pe t13 1 λt15=>za (λK3=>
 bt .eql 29 t15 (i6 0) λt17=>zb t17 (ca xa #[t14,t2] w2 λt21 w7=>
 ca zW #[t14,t21] w7 λt22 w8=>
 K3 [t22] w8) (K3 [t15] w2)) (λs4 _d5 w6=>
 bt .neq 29 (s4.getD 0 u_) (i6 0) λt24=>zb t24 (K (.tuple #[(Value.slice Option.none 0 0),(s4.getD 0 u_)]) w6) (ca xJ #[t14,t2] w6 λt28 w9=>
 K (.tuple #[t28,(s4.getD 0 u_)]) w9))
theorem acd(h:QW t0 t1 t2 w K):zc prog ZM #[t0,t1,t2] w K:=
 okC false (.s (.r (rz 3 0 2)) (.s (.r (rz 8 0 33)) (.j [9] (.s (.r (rz 2 0 0)) (.c (.r (rz 6 0 640)) (.n))) (.s (.s (.r (rz 2 0 0)) (.c (.s (.r (rz 3 0 0)) (.n)) (.n))) (.s (.r (rz 6 0 32)) (.n)))))) func31 rfl (by kernel_rfl) (by kernel_rfl) h
def QX(t0 t1 t2:Value)(w:World)(K:VW):Prop:=
 pw w (Instr.box 25 t0) λt3 w1=>
 lo w1 25 t3 λt14=>ca yV #[t14,t1] w1 λt16 w2=>
 pe t16 0 λt17=>pe t16 1 λt18=>za (λK3=>
 bt .eql 29 t18 (i6 0) λt20=>zb t20 (ca xa #[t17,t2] w2 λt24 w7=>
 ca zW #[t17,t24] w7 λt25 w8=>
 K3 [t25] w8) (K3 [t18] w2)) (λs4 _d5 w6=>
 bt .neq 29 (s4.getD 0 u_) (i6 0) λt27=>zb t27 (K (.tuple #[(Value.slice Option.none 0 0),(s4.getD 0 u_)]) w6) (ff w6 t17 155 3 66 λt32=>pp (Builtin.len_ #[66] 3 #[t32]) λt33=>zu [(Value.slice Option.none 0 0),(i6 0)] w6 (λs10 _d11 w12 K9=>
 bf .lss 3 (s10.getD 1 u_) t33 λt35=>zb t35 (za (λK13=>
 xl w12 66 t32 (s10.getD 1 u_) 82 λt38=>pw w12 (Instr.alloc 82 true (.tuple #[])) λt12 w17=>
 so w17 82 t12 t38 λw18=>lo w18 82 t12 λt41=>ca yE #[t17,t2,t41] w18 λt42 w19=>
 zb t42 (pw w19 (Instr.buildSlice 55 1 #[(0,(s10.getD 1 u_))]) λt45 w20=>
 pw w20 (Builtin.append_ #[55,55] 55 #[(s10.getD 0 u_),t45]) λt46 w21=>
 K13 [t46] w21) (K13 [(s10.getD 0 u_)] w19)) (λs14 _d15 w16=>
 bt .add 3 (s10.getD 1 u_) (i6 1) λt47=>K9 [(s14.getD 0 u_),t47] w16)) (K (.tuple #[(s10.getD 0 u_),(s4.getD 0 u_)]) w12))))
theorem ace(h:QX t0 t1 t2 w K):zc prog ZN #[t0,t1,t2] w K:=
 okC false (.s (.r (rz 3 0 2)) (.s (.r (rz 8 0 33)) (.j [9] (.s (.r (rz 2 0 0)) (.c (.r (rz 6 0 640)) (.n))) (.s (.s (.r (rz 2 0 0)) (.c (.s (.r (rz 3 0 0)) (.n)) (.n))) (.s (.r (rz 1 0 0)) (.s (.s (.r (rz 6 0 64)) (.b (.lp [10,34] (.s (.r (rz 1 0 0)) (.s (.c (.n) (.n)) (.j [10] (.b (.s (.r (rz 6 0 2192)) (.s (.r (rz 4 0 144)) (.c (.r (rz 5 0 160)) (.n))))) (.r (rz 2 0 0)))))))) (.s (.r (rz 4 0 0)) (.n)))))))) func32 rfl (by kernel_rfl) (by kernel_rfl) h
def X9(t0 t1 t2 t3:Value)(w:World)(K:VW):Prop:=
 pw w (Instr.box 25 t0) λt4 w1=>
 pw w1 (Instr.box 88 t3) λt7 w2=>
 lo w2 25 t4 λt13=>ca yV #[t13,t1] w2 λt15 w3=>
 pe t15 0 λt16=>pe t15 1 λt17=>za (λK4=>
 bt .eql 29 t17 (i6 0) λt19=>zb t19 (ca x8 #[t16,t2] w3.drew λt23 w8=>
 za (λK9=>gIf t23 true (fl w8 t4 25 0 22 λt26=>fa t16 155 1 λt29=>fl w8 t29 101 4 41 λt31=>fl w8 t7 88 0 80 λt33=>ca vd #[t26,t31,t33] w8 λt34 w13=>
 K9 [t34] w13) (K9 [u_] w8)) (λs10 _d11 w12=>
 zd t23 (s10.getD 0 u_) fa_ λt35=>za (λK14=>gIf t35 true (fl w12 t7 88 1 86 λt38=>bt .geq 86 t38 (Value.int .u8 1) λt39=>K14 [t39] w12) (K14 [u_] w12)) (λs15 _d16 w17=>
 zd t35 (s15.getD 0 u_) fa_ λt40=>za (λK18=>gIf t40 true (fl w17 t7 88 1 86 λt43=>bt .leq 86 t43 (Value.int .u8 3) λt44=>K18 [t44] w17) (K18 [u_] w17)) (λs19 _d20 w21=>
 zd t40 (s19.getD 0 u_) fa_ λt45=>ca zW #[t16,t45] w21 λt46 w22=>
 K4 [t46] w22)))) (K4 [t17] w3)) (λs5 _d6 w7=>
 bt .eql 29 (s5.getD 0 u_) (i6 0) λt48=>za (λK23=>gIf t48 true (ff w7.drew t16 155 3 66 λt54=>xl w7.drew 66 t54 t2 82 λt57=>lo w7.drew 88 t7 λt58=>ca xz #[t16,t57,t58] w7.drew λt59 w27=>
 K23 [t59] w27) (K23 [u_] w7.drew)) (λs24 _d25 w26=>
 zd t48 (s24.getD 0 u_) fa_ λt60=>K (.tuple #[t60,(s5.getD 0 u_)]) w26))
theorem aa9(h:X9 t0 t1 t2 t3 w K):zc prog jc #[t0,t1,t2,t3] w K:=
 okC false (.s (.r (rz 4 0 10)) (.s (.r (rz 8 0 33)) (.j [11] (.s (.r (rz 2 0 0)) (.c (.r (ra 5 0 128 (.grp 24 true (ri 10 5 593924) [34] (ra 2 15 0 (.grp 36 true (ri 3 17 4) [39] (ra 2 20 0 (.grp 41 true (ri 3 22 4) [44] (rz 3 25 8)))))))) (.n))) (.s (.r (ra 3 0 0 (ra 1 14 0 (.grp 49 true (ri 10 3 606464) [59] (ra 1 13 0 (rz 2 15 0)))))) (.n))))) func38 rfl (by kernel_rfl) (by kernel_rfl) h
def Qa(t0 t1 t2:Value)(w:World)(K:VW):Prop:=
 pw w (Instr.box 25 t0) λt3 w1=>
 lo w1 25 t3 λt14=>ca yV #[t14,t1] w1 λt16 w2=>
 pe t16 0 λt17=>pe t16 1 λt18=>za (λK3=>
 bt .eql 29 t18 (i6 0) λt20=>zb t20 (ca yO #[t17,t2] w2 λt24 w7=>
 ca zW #[t17,t24] w7 λt25 w8=>
 K3 [t25] w8) (K3 [t18] w2)) (λs4 _d5 w6=>
 bt .neq 29 (s4.getD 0 u_) (i6 0) λt27=>zb t27 (K (.tuple #[(Value.slice Option.none 0 0),(s4.getD 0 u_)]) w6) (ff w6 t17 155 3 66 λt32=>pp (Builtin.len_ #[66] 3 #[t32]) λt33=>zu [(Value.slice Option.none 0 0),(i6 0)] w6 (λs10 _d11 w12 K9=>
 bf .lss 3 (s10.getD 1 u_) t33 λt35=>zb t35 (xl w12 66 t32 (s10.getD 1 u_) 82 λt37=>pw w12 (Instr.alloc 82 true (.tuple #[])) λt12 w13=>
 so w13 82 t12 t37 λw14=>lo w14.drew 82 t12 λt40=>fl w14.drew t12 82 3 3 λt43=>xl w14.drew 44 t2 t43 48 λt45=>ca kJ #[t17,t40,t45] w14.drew λt46 w15=>
 pw w15 (Instr.buildSlice 44 1 #[(0,t46)]) λt47 w16=>
 pw w16 (Builtin.append_ #[44,44] 44 #[(s10.getD 0 u_),t47]) λt48 w17=>
 bt .add 3 (s10.getD 1 u_) (i6 1) λt49=>K9 [t48,t49] w17) (K (.tuple #[(s10.getD 0 u_),(s4.getD 0 u_)]) w12))))
theorem aba(h:Qa t0 t1 t2 w K):zc prog vV #[t0,t1,t2] w K:=
 okC false (.s (.r (rz 3 0 2)) (.s (.r (rz 8 0 33)) (.j [9] (.s (.r (rz 2 0 0)) (.c (.r (rz 6 0 640)) (.n))) (.s (.s (.r (rz 2 0 0)) (.c (.s (.r (rz 3 0 0)) (.n)) (.n))) (.s (.r (rz 1 0 0)) (.s (.s (.r (rz 6 0 64)) (.b (.lp [10,34] (.s (.r (rz 1 0 0)) (.s (.c (.n) (.n)) (.s (.b (.s (.r (rz 4 0 164)) (.r (rz 12 0 2769936)))) (.r (rz 2 0 0)))))))) (.s (.r (rz 4 0 0)) (.n)))))))) func44 rfl (by kernel_rfl) (by kernel_rfl) h
def Qb(t0 t1 t2 t3:Value)(w:World)(K:VW):Prop:=
 pw w (Instr.box 25 t0) λt4 w1=>
 NC w w1∧
 lo w1 25 t4 λt21=>ca yV #[t21,t1] w1 λt23 w2=>
 NC w1 w2∧
 pe t23 0 λt24=>pe t23 1 λt25=>pw w2 (Instr.alloc 151 true (.tuple #[])) λt12 w3=>
 NC w2 w3∧
 so w3 151 t12 t24 λw4=>NC w3 w4∧
 za (λK5=>
 bt .eql 29 t25 (i6 0) λt27=>zb t27 (lo w4.drew 151 t12 λt28=>lo w4.drew 151 t12 λt29=>ca yO #[t29,t2] w4.drew λt31 w9=>
 NC w4.drew w9∧
 Ext w4.drew w9∧
 za (λK10=>gIf t31 true (lo w9 151 t12 λt33=>ca xA #[t33,t3] w9 λt35 w14=>
 NC w9 w14∧
 Ext w9 w14∧
 K10 [t35] w14) (K10 [u_] w9)) (λs11 _d12 w13=>
 zd t31 (s11.getD 0 u_) fa_ λt36=>ca zW #[t28,t36] w13 λt37 w15=>
 NC w13 w15∧
 K5 [t37] w15)) (K5 [t25] w4)) (λs6 _d7 w8=>
 bt .neq 29 (s6.getD 0 u_) (i6 0) λt39=>zb t39 (∀w16,Shuts w.heap.size w8 w16→K (.tuple #[(i6 0),(i6 0),fa_,(s6.getD 0 u_)]) w16) (lo w8 151 t12 λt41=>ff w8 t41 155 3 66 λt44=>pp (Builtin.len_ #[66] 3 #[t44]) λt45=>zu [(s6.getD 0 u_),(i6 0)] w8 (λs18 d19 w20 K17=>
 bf .lss 3 (s18.getD 1 u_) t45 λt47=>zb t47 (xl w20 66 t44 (s18.getD 1 u_) 82 λt50=>pw w20 (Instr.alloc 82 true (.tuple #[])) λt14 w21=>
 NC w20 w21∧
 so w21 82 t14 t50 λw22=>NC w21 w22∧
 za (λK23=>
 fl w22.drew t14 82 3 3 λt53=>xl w22.drew 44 t2 t53 48 λt55=>px 44 t3 (s18.getD 1 u_) λt58=>((pw w22.drew (Instr.loadAt 48 t58) λt59 w27=>
 NC w22.drew w27∧
 Ext w22.drew w27∧
 ((pw w27 (Instr.alloc 48 true (.tuple #[])) λt15 w28=>
 NC w27 w28∧
 Ext w27 w28∧
 pw w28 (Instr.alloc 48 true (.tuple #[])) λt16 w29=>
 NC w28 w29∧
 Ext w28 w29∧
 so w29 48 t15 t55 λw30=>NC w29 w30∧
 so w30 48 t16 t59 λw31=>NC w30 w31∧
 K23 [t15,t16] w31)∧
 (pw w27 (Instr.alloc 48 true (.tuple #[])) λt16_33 w32=>
 NC w27 w32∧
 Ext w27 w32∧
 pw w32 (Instr.alloc 48 true (.tuple #[])) λt15_35 w34=>
 NC w32 w34∧
 Ext w32 w34∧
 so w34 48 t15_35 t55 λw36=>NC w34 w36∧
 so w36 48 t16_33 t59 λw37=>NC w36 w37∧
 K23 [t15_35,t16_33] w37)))∧
 (((pw w22.drew (Instr.alloc 48 true (.tuple #[])) λt15_39 w38=>
 NC w22.drew w38∧
 Ext w22.drew w38∧
 ((pw w38 (Instr.loadAt 48 t58) λt59_41 w40=>
 NC w38 w40∧
 Ext w38 w40∧
 pw w40 (Instr.alloc 48 true (.tuple #[])) λt16_43 w42=>
 NC w40 w42∧
 Ext w40 w42∧
 so w42 48 t15_39 t55 λw44=>NC w42 w44∧
 so w44 48 t16_43 t59_41 λw45=>NC w44 w45∧
 K23 [t15_39,t16_43] w45)∧
 (pw w38 (Instr.alloc 48 true (.tuple #[])) λt16_47 w46=>
 NC w38 w46∧
 Ext w38 w46∧
 ((pw w46 (Instr.loadAt 48 t58) λt59_49 w48=>
 NC w46 w48∧
 Ext w46 w48∧
 so w48 48 t15_39 t55 λw50=>NC w48 w50∧
 so w50 48 t16_47 t59_49 λw51=>NC w50 w51∧
 K23 [t15_39,t16_47] w51)∧
 (so w46 48 t15_39 t55 λw52=>NC w46 w52∧
 pw w52 (Instr.loadAt 48 t58) λt59_54 w53=>
 NC w52 w53∧
 Ext w52 w53∧
 so w53 48 t16_47 t59_54 λw55=>NC w53 w55∧
 K23 [t15_39,t16_47] w55)))))∧
 (pw w22.drew (Instr.alloc 48 true (.tuple #[])) λt16_57 w56=>
 NC w22.drew w56∧
 Ext w22.drew w56∧
 ((pw w56 (Instr.loadAt 48 t58) λt59_59 w58=>
 NC w56 w58∧
 Ext w56 w58∧
 pw w58 (Instr.alloc 48 true (.tuple #[])) λt15_61 w60=>
 NC w58 w60∧
 Ext w58 w60∧
 so w60 48 t15_61 t55 λw62=>NC w60 w62∧
 so w62 48 t16_57 t59_59 λw63=>NC w62 w63∧
 K23 [t15_61,t16_57] w63)∧
 (pw w56 (Instr.alloc 48 true (.tuple #[])) λt15_65 w64=>
 NC w56 w64∧
 Ext w56 w64∧
 ((pw w64 (Instr.loadAt 48 t58) λt59_67 w66=>
 NC w64 w66∧
 Ext w64 w66∧
 so w66 48 t15_65 t55 λw68=>NC w66 w68∧
 so w68 48 t16_57 t59_67 λw69=>NC w68 w69∧
 K23 [t15_65,t16_57] w69)∧
 (so w64 48 t15_65 t55 λw70=>NC w64 w70∧
 pw w70 (Instr.loadAt 48 t58) λt59_72 w71=>
 NC w70 w71∧
 Ext w70 w71∧
 so w71 48 t16_57 t59_72 λw73=>NC w71 w73∧
 K23 [t15_65,t16_57] w73))))))))) (λs24 _d25 w26=>
 lo w26 151 t12 λt60=>fa t60 155 1 λt62=>fl w26 t62 101 6 99 λt64=>pp (Builtin.len_ #[99] 3 #[t64]) λt65=>pw w26 (Instr.alloc 3 true (.tuple #[])) λt17 w74=>
 NC w26 w74∧
 so w74 3 t17 t65 λw75=>NC w74 w75∧
 pp (Instr.makeFunc (.func 100) #[] #[t12,(s24.getD 0 u_),(s24.getD 1 u_),t17]) λt66=>pw w75 (Instr.alloc 178 true (.tuple #[])) λt18 w76=>
 NC w75 w76∧
 so w76 178 t18 t66 λw77=>NC w76 w77∧
 lo w77 178 t18 λt67=>fl w77 t14 82 0 3 λt69=>cv t67 #[t69] w77 λ_t70 w78=>
 NC w77 w78∧
 lo w78 48 (s24.getD 1 u_) λt71=>ca YD #[t71] w78 λt72 w79=>
 NC w78 w79∧
 VK prog 1 t72 w79 (λx80 w81 S82 KR83=>
 (Ext w81 w81∧∀w84,Nl w79.heap.size w81 w84→
 lo w84 151 t12 λt74=>lo w84 82 t14 λt76=>ca yE #[t74,(x80.getD 0 u_),t76] w84 λt77 w85=>
 NC w84 w85∧
 pp (Op.unary .not t77) λt78=>zb t78 (lo w85 178 t18 λt79=>cv t79 #[(x80.getD 0 u_)] w85 λ_t81 w86=>
 NC w85 w86∧
 (ExtBut S82 w84 w86∧KR83 .normal w86)) ((ExtBut S82 w84 w85∧KR83 .normal w85)))) (λw87=>
 lo w87.drew 3 t17 λt82=>lo w87.drew 151 t12 λt83=>fa t83 155 1 λt85=>fl w87.drew t85 101 6 99 λt87=>pp (Builtin.len_ #[99] 3 #[t87]) λt88=>bf .lss 3 t82 t88 λt89=>zb t89 (lo w87.drew.drew 3 t17 λt91=>∀w88,Shuts w.heap.size w87.drew.drew w88→K (.tuple #[(s18.getD 1 u_),t91,fa_,(s18.getD 0 u_)]) w88) (bt .add 3 (s18.getD 1 u_) (i6 1) λt93=>K17 [(s18.getD 0 u_),t93] w87.drew)) (λw89=>
 ∀w90,Shuts w.heap.size w89 w90→K (.tuple #[(d19.getD 8 u_),(d19.getD 9 u_),(d19.getD 10 u_),(s18.getD 0 u_)]) w90) [])) (∀w91,Shuts w.heap.size w20 w91→K (.tuple #[(i6 0),(i6 0),tr_,(s18.getD 0 u_)]) w91))))
theorem abb(h:Qb t0 t1 t2 t3 w K):zc prog vW #[t0,t1,t2,t3] w K:=
 okC true (.s (.r (rz 5 0 2)) (.s (.r (rz 9 0 40993)) (.j [11] (.s (.r (rz 2 0 0)) (.c (.r (ra 5 0 197 (.grp 32 true (ri 3 5 49) [35] (rz 3 8 8)))) (.n))) (.s (.s (.r (rz 2 0 0)) (.c (.s (.r (rz 5 0 0)) (.n)) (.n))) (.s (.s (.r (rz 6 0 65)) (.b (.lp [11,46] (.s (.r (rz 1 0 0)) (.s (.c (.n) (.n)) (.s (.b (.s (.r (rz 6 0 2192)) (.j [15,16] (.r (ra 8 0 272 (.alt 8 .u (.alt 9 .u (rz 3 10 43) (ra 1 10 3 (ra 1 9 3 (rz 2 11 10)))) (.alt 9 .u (.alt 8 .u (rz 3 10 43) (ra 1 10 3 (.alt 8 .u (rz 2 11 10) (ra 1 11 2 (ra 1 8 3 (rz 1 12 2)))))) (ra 1 10 3 (.alt 8 .u (ra 1 9 3 (rz 2 11 10)) (ra 1 9 3 (.alt 8 .u (rz 2 11 10) (ra 1 11 2 (ra 1 8 3 (rz 1 12 2))))))))))) (.s (.r (rz 8 0 41217)) (.s (.r (rz 3 0 40)) (.s (.r (rz 4 0 145)) (.s (.s (.r (rz 2 0 9)) (.b (.rf [] (.r (rz 1 0 0)) (.b (.s (.r (rz 5 0 145)) (.c (.r (rz 3 0 33)) (.n))))))) (.s (.r (rz 8 0 1029)) (.c (.s (.r (rz 7 0 4)) (.n)) (.n)))))))))) (.r (rz 2 0 0)))))))) (.s (.r (rz 5 0 0)) (.n))))))) func45 rfl (by kernel_rfl) (by kernel_rfl) h
def Qc(t0 t1 t2:Value)(w:World)(K:VW):Prop:=
 pw w (Instr.box 25 t0) λt3 w1=>
 lo w1 25 t3 λt16=>ca yV #[t16,t1] w1 λt18 w2=>
 pe t18 0 λt19=>pe t18 1 λt20=>pw w2 (Instr.alloc 151 true (.tuple #[])) λt10 w3=>
 so w3 151 t10 t19 λw4=>za (λK5=>
 bt .eql 29 t20 (i6 0) λt22=>zb t22 (lo w4.drew 151 t10 λt23=>lo w4.drew 151 t10 λt24=>ca xA #[t24,t2] w4.drew λt26 w9=>
 Ext w4.drew w9∧
 ca zW #[t23,t26] w9 λt27 w10=>
 K5 [t27] w10) (K5 [t20] w4)) (λs6 _d7 w8=>
 bt .neq 29 (s6.getD 0 u_) (i6 0) λt29=>zb t29 (K (.tuple #[(i6 0),(i6 0),fa_,(s6.getD 0 u_)]) w8) (za (λK11=>
 lo w8 151 t10 λt31=>fa t31 155 1 λt33=>fl w8 t33 101 6 99 λt35=>pp (Builtin.len_ #[99] 3 #[t35]) λt36=>zu [(i6 0),(i6 0),fa_,(i6 0)] w8 (λs16 _d17 w18 K15=>
 bf .lss 3 (s16.getD 3 u_) t36 λt38=>zb t38 (lo w18 151 t10 λt40=>ff w18 t40 155 3 66 λt43=>pp (Builtin.len_ #[66] 3 #[t43]) λt44=>zu [(s16.getD 0 u_),(s16.getD 1 u_),(s16.getD 2 u_),(Value.slice Option.none 0 0),(i6 0)] w18 (λs20 _d21 w22 K19=>
 bf .lss 3 (s20.getD 4 u_) t44 λt46=>zb t46 (za (λK23=>
 xl w22 66 t43 (s20.getD 4 u_) 82 λt49=>pw w22 (Instr.alloc 82 true (.tuple #[])) λt14 w27=>
 so w27 82 t14 t49 λw28=>xl w28 44 t2 (s20.getD 4 u_) 48 λt53=>ca xB #[t53,(s16.getD 3 u_)] w28 λt55 w29=>
 pp (Op.unary .not t55) λt56=>zb t56 (K23 [(s20.getD 0 u_),(s20.getD 1 u_),(s20.getD 2 u_),(s20.getD 3 u_)] w29) (za (λK30=>
 bt .eql 69 (s20.getD 3 u_) (Value.slice Option.none 0 0) λt58=>zb t58 (lo w29 151 t10 λt59=>ca xJ #[t59,(s16.getD 3 u_)] w29 λt61 w34=>
 K30 [t61] w34) (K30 [(s20.getD 3 u_)] w29)) (λs31 _d32 w33=>
 pp (Instr.makeFunc (.func 105) #[] #[t10,t14]) λt63=>ca zV #[(s31.getD 0 u_),t63] w33 λt64 w35=>
 zb t64 (K11 [(s20.getD 4 u_),(s16.getD 3 u_),tr_] w35) (K23 [(s20.getD 0 u_),(s20.getD 1 u_),(s20.getD 2 u_),(s31.getD 0 u_)] w35)))) (λs24 _d25 w26=>
 bt .add 3 (s20.getD 4 u_) (i6 1) λt67=>K19 [(s24.getD 0 u_),(s24.getD 1 u_),(s24.getD 2 u_),(s24.getD 3 u_),t67] w26)) (bt .add 3 (s16.getD 3 u_) (i6 1) λt68=>K15 [(s20.getD 0 u_),(s20.getD 1 u_),(s20.getD 2 u_),t68] w22))) (K11 [(s16.getD 0 u_),(s16.getD 1 u_),(s16.getD 2 u_)] w18))) (λs12 _d13 w14=>
 pp (Op.unary .not (s12.getD 2 u_)) λt72=>K (.tuple #[(s12.getD 0 u_),(s12.getD 1 u_),t72,(s6.getD 0 u_)]) w14)))
theorem abc(h:Qc t0 t1 t2 w K):zc prog vX #[t0,t1,t2] w K:=
 okC false (.s (.r (rz 5 0 2)) (.b (.s (.r (rz 9 0 40993)) (.j [9] (.s (.r (rz 2 0 0)) (.c (.r (rz 6 0 709)) (.n))) (.s (.s (.r (rz 2 0 0)) (.c (.s (.r (rz 5 0 0)) (.n)) (.n))) (.s (.n) (.j [6,7,8] (.s (.r (rz 7 0 257)) (.b (.lp [6,7,8,37] (.s (.r (rz 1 0 0)) (.s (.c (.n) (.n)) (.s (.b (.s (.r (rz 2 0 0)) (.s (.r (rz 1 0 0)) (.s (.r (rz 6 0 65)) (.b (.lp [6,7,8,12,45] (.s (.r (rz 1 0 0)) (.s (.c (.n) (.n)) (.j [6,7,8,12] (.b (.s (.r (rz 6 0 2192)) (.s (.s (.r (rz 7 0 2112)) (.c (.n) (.n))) (.j [12] (.s (.r (rz 2 0 0)) (.c (.r (rz 4 0 33)) (.n))) (.s (.r (rz 3 0 32)) (.c (.s (.r (rz 5 0 0)) (.n)) (.n))))))) (.r (rz 2 0 0))))))))))) (.r (rz 2 0 0)))))))) (.s (.r (rz 9 0 0)) (.n))))))))) func46 rfl (by kernel_rfl) (by kernel_rfl) h
def aas(t0 t1 t2 t3 t4:Value)(w:World)(K:VW):Prop:=
 pw w (Instr.box 25 t0) λt5 w1=>
 lo w1 25 t5 λt26=>ca yV #[t26,t1] w1 λt28 w2=>
 pe t28 0 λt29=>pe t28 1 λt30=>za (λK3=>
 bt .eql 29 t30 (i6 0) λt32=>zb t32 (ca yO #[t29,t2] w2 λt36 w7=>
 za (λK8=>gIf t36 true (ca x8 #[t29,t3] w7 λt40 w12=>
 K8 [t40] w12) (K8 [u_] w7)) (λs9 _d10 w11=>
 zd t36 (s9.getD 0 u_) fa_ λt41=>za (λK13=>gIf t41 true (ca xa #[t29,t4] w11 λt45 w17=>
 K13 [t45] w17) (K13 [u_] w11)) (λs14 _d15 w16=>
 zd t41 (s14.getD 0 u_) fa_ λt46=>ca zW #[t29,t46] w16 λt47 w18=>
 K3 [t47] w18))) (K3 [t30] w2)) (λs4 _d5 w6=>
 bt .neq 29 (s4.getD 0 u_) (i6 0) λt49=>zb t49 (K (.tuple #[(Value.slice Option.none 0 0),fa_,(s4.getD 0 u_)]) w6) (ff w6 t29 155 3 66 λt54=>xl w6 66 t54 t3 82 λt57=>pw w6 (Instr.alloc 82 true (.tuple #[])) λt14 w19=>
 so w19 82 t14 t57 λw20=>fl w20 t14 82 3 3 λt60=>xl w20 44 t2 t60 48 λt62=>pw w20 (Instr.alloc 48 true (.tuple #[])) λt15 w21=>
 so w21 48 t15 t62 λw22=>pw w22 (Instr.makeMap 218 none) λt63 w23=>
 fl w23 t14 82 0 3 λt65=>pw w23 (Instr.buildSlice 55 1 #[(0,t65)]) λt66 w24=>
 pw w24 (Instr.buildSlice 219 1 #[(0,t66)]) λt67 w25=>
 zu [t67] w25 (λs27 _d28 w29 K26=>
 pp (Builtin.len_ #[219] 3 #[(s27.getD 0 u_)]) λt69=>bt .gtr 3 t69 (i6 0) λt70=>za (λK30=>gIf t70 true (pq w29 (Instr.lookup 218 t63 t4 false) λt74=>bt .eql 55 t74 (Value.slice Option.none 0 0) λt75=>K30 [t75] w29) (K30 [u_] w29)) (λs31 _d32 w33=>
 zd t70 (s31.getD 0 u_) fa_ λt76=>zb t76 (pp (Builtin.len_ #[219] 3 #[(s27.getD 0 u_)]) λt78=>zu [(Value.slice Option.none 0 0),(i6 0)] w33 (λs35 _d36 w37 K34=>
 bf .lss 3 (s35.getD 1 u_) t78 λt80=>zb t80 (za (λK38=>
 xl w37 219 (s27.getD 0 u_) (s35.getD 1 u_) 55 λt83=>pp (Builtin.len_ #[55] 3 #[t83]) λt86=>bt .sub 3 t86 (i6 1) λt87=>xl w37 55 t83 t87 3 λt89=>pp (Builtin.len_ #[55] 3 #[t83]) λt91=>bt .gtr 3 t91 (i6 1) λt92=>za (λK42=>gIf t92 true (lo w37 82 t14 λt96=>ca yE #[t29,t89,t96] w37 λt97 w46=>
 K42 [t97] w46) (K42 [u_] w37)) (λs43 _d44 w45=>
 zd t92 (s43.getD 0 u_) fa_ λt98=>zb t98 (K38 [(s35.getD 0 u_)] w45) (ca xj #[t29,t89] w45 λt101 w47=>
 ca jm #[t101] w47 λ_t103 w48=>
 pp (Builtin.len_ #[55] 3 #[t101]) λt105=>zu [(s35.getD 0 u_),(i6 0)] w48 (λs50 _d51 w52 K49=>
 bf .lss 3 (s50.getD 1 u_) t105 λt107=>zb t107 (za (λK53=>
 xl w52 55 t101 (s50.getD 1 u_) 3 λt109=>lo w52 48 t15 λt110=>ca xB #[t110,t109] w52 λt112 w57=>
 za (λK58=>gIf t112 true (pq w57 (Instr.lookup 218 t63 t109 false) λt116=>bt .eql 55 t116 (Value.slice Option.none 0 0) λt117=>K58 [t117] w57) (K58 [u_] w57)) (λs59 _d60 w61=>
 zd t112 (s59.getD 0 u_) fa_ λt118=>zb t118 (xl w61 219 (s27.getD 0 u_) (s35.getD 1 u_) 55 λt124=>ca qQ #[t124] w61 λt125 w62=>
 pw w62 (Instr.buildSlice 55 1 #[(0,t109)]) λt127 w63=>
 pw w63 (Builtin.append_ #[55,55] 55 #[t125,t127]) λt128 w64=>
 pu w64 (Instr.mapUpdate 218 t63 t109 t128) λw65=>pq w65 (Instr.lookup 218 t63 t109 false) λt132=>pw w65 (Instr.buildSlice 219 1 #[(0,t132)]) λt133 w66=>
 pw w66 (Builtin.append_ #[219,219] 219 #[(s50.getD 0 u_),t133]) λt134 w67=>
 K53 [t134] w67) (K53 [(s50.getD 0 u_)] w61))) (λs54 _d55 w56=>
 bt .add 3 (s50.getD 1 u_) (i6 1) λt135=>K49 [(s54.getD 0 u_),t135] w56)) (K38 [(s50.getD 0 u_)] w52))))) (λs39 _d40 w41=>
 bt .add 3 (s35.getD 1 u_) (i6 1) λt136=>K34 [(s39.getD 0 u_),t136] w41)) (K26 [(s35.getD 0 u_)] w37))) (pq w33.drew (Instr.lookup 218 t63 t4 false) λt140=>pq w33.drew (Instr.lookup 218 t63 t4 false) λt143=>bt .neq 55 t143 (Value.slice Option.none 0 0) λt144=>K (.tuple #[t140,t144,(s4.getD 0 u_)]) w33.drew)))))
theorem ad8(h:aas t0 t1 t2 t3 t4 w K):zc prog Xy #[t0,t1,t2,t3,t4] w K:=
 okC false (.s (.r (rz 4 0 2)) (.s (.r (rz 8 0 33)) (.j [12] (.s (.r (rz 2 0 0)) (.c (.r (ra 5 0 128 (.grp 37 true (ri 3 5 32) [40] (ra 2 8 0 (.grp 42 true (ri 3 10 32) [45] (rz 3 13 8)))))) (.n))) (.s (.s (.r (rz 2 0 0)) (.c (.s (.r (rz 4 0 0)) (.n)) (.n))) (.s (.r (rz 9 0 168000)) (.s (.r (rz 7 0 10512)) (.s (.r (rz 2 0 2)) (.s (.r (rz 5 0 164)) (.s (.b (.lp [17] (.s (.s (.r (ra 4 0 0 (.grp 71 true (ri 4 4 16) [75] (rz 1 8 0)))) (.c (.n) (.n))) (.b (.s (.r (rz 1 0 0)) (.s (.s (.r (rz 3 0 0)) (.b (.lp [18,79] (.s (.r (rz 1 0 0)) (.s (.c (.n) (.n)) (.j [18] (.b (.s (.r (rz 5 0 16)) (.s (.r (rz 7 0 1024)) (.s (.s (.r (ra 4 0 0 (.grp 93 true (ri 4 4 144) [97] (rz 1 8 0)))) (.c (.n) (.n))) (.s (.r (rz 4 0 32)) (.s (.r (rz 2 0 8)) (.s (.r (rz 3 0 0)) (.b (.lp [18,106] (.s (.r (rz 1 0 0)) (.s (.c (.n) (.n)) (.j [18] (.b (.s (.r (rz 3 0 4)) (.s (.r (ra 4 0 33 (.grp 113 true (ri 4 4 16) [117] (rz 1 8 0)))) (.c (.s (.r (rz 11 0 2761728)) (.r (rz 7 0 2624))) (.n))))) (.r (rz 2 0 0)))))))))))))) (.r (rz 2 0 0)))))))) (.r (rz 2 0 0)))))))) (.s (.r (rz 11 0 1040)) (.n))))))))))) func76 rfl (by kernel_rfl) (by kernel_rfl) h
def abP(t0 t1:Value)(w:World)(K:VW):Prop:=
 pw w (Instr.box 25 t0) λt2 w1=>
 bt .lss 3 t1 (i6 0) λt13=>za (λK2=>gIf t13 false (fl w1 t2 25 1 23 λt17=>pp (Builtin.len_ #[23] 3 #[t17]) λt18=>bf .geq 3 t1 t18 λt19=>K2 [t19] w1) (K2 [u_] w1)) (λs3 _d4 w5=>
 zd t13 tr_ (s3.getD 0 u_) λt20=>zb t20 (K (.tuple #[(Value.pointer Option.none),(i6 2)]) w5) (lo w5 25 t2 λt22=>ca YC #[t22,t1] w5 λt24 w6=>
 pe t24 0 λt25=>pe t24 1 λt26=>pw w6 (Instr.alloc 74 true (.tuple #[])) λt6 w7=>
 so w7 74 t6 t25 λw8=>bt .eql 29 t26 (i6 2) λt28=>zb t28 (K (.tuple #[(Value.pointer Option.none),t26]) w8) (lo w8.drew 25 t2 λt30=>fl w8.drew t2 25 1 23 λt32=>xl w8.drew 23 t32 t1 101 λt35=>lo w8.drew 74 t6 λt36=>pp (Instr.build 155 #[(0,t30),(1,t35),(2,t36),(4,t26)]) λt38=>pw w8.drew (Instr.box 155 t38) λt39 w9=>
 fa t39 155 1 λt42=>fl w9 t42 101 6 99 λt44=>pp (Builtin.len_ #[99] 3 #[t44]) λt45=>zu [(i6 0)] w9 (λs11 _d12 w13 K10=>
 bf .lss 3 (s11.getD 0 u_) t45 λt47=>zb t47 (za (λK14=>
 xl w13 99 t44 (s11.getD 0 u_) 96 λt50=>pw w13 (Instr.alloc 96 true (.tuple #[])) λt10 w18=>
 so w18 96 t10 t50 λw19=>fl w19 t10 96 0 90 λt52=>bt .eql 90 t52 (Value.int .u8 4) λt53=>zb t53 (za (λK20=>
 fl w19.drew t10 96 6 80 λt56=>fl w19.drew t10 96 7 4 λt59=>((ca jG #[t56] w19.drew λt57 w24=>
 Ext w19.drew w24∧
 pp (Instr.build 82 #[(0,(s11.getD 0 u_)),(1,t57),(2,t59)]) λt60=>pw w24 (Instr.alloc 82 true (.tuple #[])) λt11 w25=>
 Ext w24 w25∧
 so w25 82 t11 t60 λw26=>K20 [t11] w26)∧
 (pw w19.drew (Instr.alloc 82 true (.tuple #[])) λt11_28 w27=>
 Ext w19.drew w27∧
 ca jG #[t56] w27 λt57_30 w29=>
 Ext w27 w29∧
 pp (Instr.build 82 #[(0,(s11.getD 0 u_)),(1,t57_30),(2,t59)]) λt60_31=>so w29 82 t11_28 t60_31 λw32=>K20 [t11_28] w32))) (λs21 _d22 w23=>
 za (λK33=>
 bt .eql 29 t26 (i6 0) λt62=>zb t62 (fl w23 t6 74 4 55 λt64=>xl w23 55 t64 (s11.getD 0 u_) 3 λt67=>pf 82 (s21.getD 0 u_) 3 λt68=>so w23 3 t68 t67 λw37=>K33 [] w37) (K33 [] w23)) (λ_s34 _d35 w36=>
 ff w36.drew t39 155 3 66 λt73=>lo w36.drew 82 (s21.getD 0 u_) λt74=>pw w36.drew (Instr.buildSlice 66 1 #[(0,t74)]) λt75 w38=>
 Ext w36.drew w38∧
 pw w38 (Builtin.append_ #[66,66] 66 #[t73,t75]) λt76 w39=>
 fa t39 155 3 λt78=>so w39 66 t78 t76 λw40=>K14 [] w40))) (K14 [] w19)) (λ_s15 _d16 w17=>
 bt .add 3 (s11.getD 0 u_) (i6 1) λt79=>K10 [t79] w17)) (K (.tuple #[t39,(i6 0)]) w13)))))
theorem afg(h:abP t0 t1 w K):zc prog yV #[t0,t1] w K:=
 okC false (.s (.r (rz 3 0 2)) (.s (.s (.r (ra 3 0 0 (.grp 14 false (ri 5 3 16) [19] (rz 1 8 0)))) (.c (.s (.r (rz 2 0 0)) (.n)) (.n))) (.s (.r (rz 9 0 40993)) (.s (.s (.r (rz 2 0 0)) (.c (.s (.r (rz 3 0 0)) (.n)) (.n))) (.s (.r (rz 11 0 529425)) (.s (.s (.r (rz 7 0 256)) (.b (.lp [46] (.s (.r (rz 1 0 0)) (.s (.c (.n) (.n)) (.j [] (.b (.s (.r (rz 6 0 2192)) (.s (.r (rz 3 0 4)) (.c (.j [11] (.r (ra 3 0 16 (ra 2 4 4 (.alt 3 .u (rz 3 6 44) (ra 1 7 3 (ra 1 3 3 (ra 1 6 0 (rz 1 8 2)))))))) (.j [] (.s (.r (rz 2 0 0)) (.c (.r (rz 7 0 8452)) (.n))) (.r (rz 11 0 2143488)))) (.n))))) (.r (rz 2 0 0)))))))) (.s (.r (rz 3 0 0)) (.n)))))))) func78 rfl (by kernel_rfl) (by kernel_rfl) h
def aat(t0:Value)(w:World)(K:VW):Prop:=
 pw w (Instr.box 80 t0) λt1 w1=>
 pw w1 (Instr.alloc 80 true (.tuple #[])) λt2 w2=>
 fl w2.drew t1 80 0 3 λt4=>fl w2.drew t1 80 1 78 λt6=>ca yu #[t6] w2.drew λt7 w3=>
 Ext w2.drew w3∧
 pp (Instr.build 80 #[(0,t4),(1,t7)]) λt8=>so w3 80 t2 t8 λw4=>pq w4 (zg 80 t2) λr5=>K r5 w4
theorem ad9(h:aat t0 w K):zc prog jG #[t0] w K:=
 okC false (.s (.r (rz 2 0 10)) (.s (.r (rz 7 0 9028)) (.n))) func141 rfl (by kernel_rfl) (by kernel_rfl) h
def Zk(t0 t1:Value)(w:World)(K:VW):Prop:=
 pp (Op.unary .not t1) λt6=>zb t6 (K (i6 2) w) (ff w t0 155 4 29 λt10=>K t10 w)
theorem QY(h:Zk t0 t1 w K):zc prog zW #[t0,t1] w K:=
 okC false (.s (.r (rz 1 0 0)) (.s (.s (.r (rz 2 0 0)) (.c (.s (.r (rz 1 0 0)) (.n)) (.n))) (.s (.r (rz 5 0 64)) (.n)))) func79 rfl (by kernel_rfl) (by kernel_rfl) h
def Zl(t0 t1:Value)(w:World)(K:VW):Prop:=
 bt .geq 3 t1 (i6 0) λt6=>za (λK1=>gIf t6 true (fa t0 155 1 λt11=>fl w t11 101 6 99 λt13=>pp (Builtin.len_ #[99] 3 #[t13]) λt14=>bf .lss 3 t1 t14 λt15=>K1 [t15] w) (K1 [u_] w)) (λs2 _d3 w4=>
 zd t6 (s2.getD 0 u_) fa_ λt16=>K t16 w4)
theorem QZ(h:Zl t0 t1 w K):zc prog xa #[t0,t1] w K:=
 okC false (.s (.r (rz 1 0 0)) (.s (.r (ra 3 0 0 (.grp 7 true (ri 8 3 1024) [15] (rz 2 11 0)))) (.n))) func80 rfl (by kernel_rfl) (by kernel_rfl) h
def Z6(t0 t1:Value)(w:World)(K:VW):Prop:=
 bt .geq 3 t1 (i6 0) λt6=>za (λK1=>gIf t6 true (ff w t0 155 3 66 λt12=>pp (Builtin.len_ #[66] 3 #[t12]) λt13=>bf .lss 3 t1 t13 λt14=>K1 [t14] w) (K1 [u_] w)) (λs2 _d3 w4=>
 zd t6 (s2.getD 0 u_) fa_ λt15=>K t15 w4)
theorem Jy(h:Z6 t0 t1 w K):zc prog x8 #[t0,t1] w K:=
 okC false (.s (.r (rz 1 0 0)) (.s (.r (ra 3 0 0 (.grp 7 true (ri 7 3 256) [14] (rz 2 10 0)))) (.n))) func90 rfl (by kernel_rfl) (by kernel_rfl) h
def Zm(t0 t1:Value)(w:World)(K:VW):Prop:=
 fa t0 155 1 λt18=>fl w t18 101 6 99 λt20=>xl w 99 t20 t1 96 λt23=>pw w (Instr.alloc 96 true (.tuple #[])) λt5 w1=>
 so w1 96 t5 t23 λw2=>pw w2 (Instr.alloc 69 true (.tuple #[])) λt6 w3=>
 pp (Instr.makeFunc (.func 142) #[] #[t6]) λt24=>fl w3 t5 96 2 93 λt26=>fl w3 t5 96 3 93 λt28=>pw w3 (Instr.buildSlice 94 2 #[(0,t26),(1,t28)]) λt29 w4=>
 fl w4 t5 96 4 94 λt31=>pw w4 (Builtin.append_ #[94,94] 94 #[t29,t31]) λt32 w5=>
 pp (Builtin.len_ #[94] 3 #[t32]) λt33=>zu [(i6 0)] w5 (λs7 _d8 w9 K6=>
 bf .lss 3 (s7.getD 0 u_) t33 λt35=>zb t35 (za (λK10=>
 xl w9 94 t32 (s7.getD 0 u_) 93 λt37=>pw w9 (Instr.alloc 93 true (.tuple #[])) λt9 w14=>
 so w14 93 t9 t37 λw15=>fl w15 t9 93 0 91 λt39=>bt .eql 91 t39 (Value.int .u8 3) λt40=>za (λK16=>gIf t40 false (fl w15 t9 93 0 91 λt43=>bt .eql 91 t43 (Value.int .u8 4) λt44=>K16 [t44] w15) (K16 [u_] w15)) (λs17 _d18 w19=>
 zd t40 tr_ (s17.getD 0 u_) λt45=>zb t45 (fl w19 t9 93 2 80 λt48=>fl w19 t9 93 0 91 λt50=>bt .eql 91 t50 (Value.int .u8 4) λt51=>cv t24 #[t48,(Value.int .u8 3),t51] w19 λ_t52 w20=>
 K10 [] w20) (K10 [] w19))) (λ_s11 _d12 w13=>
 bt .add 3 (s7.getD 0 u_) (i6 1) λt53=>K6 [t53] w13)) (za (λK21=>
 fl w9 t5 96 0 90 λt55=>bt .eql 90 t55 (Value.int .u8 4) λt57=>zb t57 (fl w9 t5 96 6 80 λt60=>fl w9 t5 96 7 4 λt62=>cv t24 #[t60,(Value.int .u8 3),t62] w9 λ_t63 w25=>
 K21 [] w25) (za (λK26=>
 bt .eql 90 t55 (Value.int .u8 10) λt65=>zb t65 (K26 [t65] w9) (bt .eql 90 t55 (Value.int .u8 11) λt66=>K26 [t66] w9)) (λs27 _d28 w29=>
 zb (s27.getD 0 u_) (fl w29 t5 96 6 80 λt69=>cv t24 #[t69,(Value.int .u8 2),tr_] w29 λ_t70 w30=>
 K21 [] w30) (bt .eql 90 t55 (Value.int .u8 14) λt72=>zb t72 (pp (Instr.build 80 #[]) λt74=>cv t24 #[t74,(Value.int .u8 3),tr_] w29 λ_t75 w31=>
 fa t0 155 1 λt78=>fl w31 t78 101 4 41 λt80=>pp (Instr.sliceAt 41 t80 (some (i6 1)) none none) λt81=>pp (Builtin.len_ #[41] 3 #[t81]) λt82=>zu [(i6 0)] w31 (λs33 _d34 w35 K32=>
 bf .lss 3 (s33.getD 0 u_) t82 λt84=>zb t84 (bt .add 3 (s33.getD 0 u_) (i6 1) λt88=>pp (Instr.build 80 #[(0,t88)]) λt89=>cv t24 #[t89,(Value.int .u8 2),tr_] w35 λ_t90 w36=>
 bt .add 3 (s33.getD 0 u_) (i6 1) λt91=>K32 [t91] w36) (K21 [] w35))) (K21 [] w29))))) (λ_s22 _d23 w24=>
 za (λK37=>
 lo w24 96 t5 λt92=>ca qk #[t92] w24 λt93 w41=>
 zb t93 (za (λK42=>
 fa t0 155 0 λt97=>fl w41.drew t97 25 0 22 λt99=>fa t0 155 1 λt102=>fl w41.drew t102 101 4 41 λt104=>pf 96 t5 1 λt105=>fl w41.drew t105 80 0 3 λt107=>pf 96 t5 1 λt108=>fl w41.drew t108 80 0 3 λt110=>bt .add 3 t110 (i6 1) λt111=>pp (Instr.sliceAt 41 t104 (some t107) (some t111) none) λt112=>pf 96 t5 1 λt113=>fl w41.drew t113 80 1 78 λt115=>pp (Instr.build 80 #[(1,t115)]) λt116=>((ca jF #[t99,t112,t116] w41.drew λt117 w46=>
 pe t117 0 λt118=>pe t117 1 λ_t119=>pw w46 (Instr.alloc 43 true (.tuple #[])) λt11 w47=>
 Ext w46 w47∧
 so w47 43 t11 t118 λw48=>K42 [t11] w48)∧
 (pw w41.drew (Instr.alloc 43 true (.tuple #[])) λt11_50 w49=>
 Ext w41.drew w49∧
 ca jF #[t99,t112,t116] w49 λt117_52 w51=>
 pe t117_52 0 λt118_53=>pe t117_52 1 λ_t119_54=>so w51 43 t11_50 t118_53 λw55=>K42 [t11_50] w55))) (λs43 _d44 w45=>
 za (λK56=>
 fa t0 155 0 λt123=>fl w45.drew t123 25 0 22 λt125=>lo w45.drew 43 (s43.getD 0 u_) λt126=>ca qY #[t125,t126] w45.drew λt127 w60=>
 pe t127 0 λt128=>pe t127 1 λ_t129=>zb t128 (K56 [(Value.int .u8 2)] w60) (K56 [(Value.int .u8 1)] w60)) (λs57 _d58 w59=>
 fl w59 t5 96 1 80 λt133=>cv t24 #[t133,(s57.getD 0 u_),tr_] w59 λ_t135 w61=>
 K37 [] w61))) (K37 [] w41)) (λ_s38 _d39 w40=>
 lo w40 69 t6 λt136=>K t136 w40))))
theorem Q0(h:Zm t0 t1 w K):zc prog xJ #[t0,t1] w K:=
 okC false (.s (.r (rz 1 0 0)) (.s (.r (rz 10 0 672000)) (.s (.r (rz 1 0 2)) (.s (.r (rz 2 0 0)) (.s (.s (.r (rz 10 0 37444)) (.b (.lp [34] (.s (.r (rz 1 0 0)) (.s (.c (.n) (.n)) (.j [] (.b (.s (.r (rz 4 0 164)) (.s (.r (ra 4 0 4 (.grp 41 false (ri 3 4 4) [44] (rz 1 7 0)))) (.c (.r (rz 7 0 8464)) (.n))))) (.r (rz 2 0 0)))))))) (.j [] (.s (.r (rz 2 0 4)) (.b (.s (.r (rz 2 0 0)) (.c (.r (rz 6 0 2320)) (.j [64] (.s (.r (rz 2 0 0)) (.c (.n) (.r (rz 2 0 0)))) (.c (.r (rz 4 0 144)) (.s (.r (rz 2 0 0)) (.c (.s (.r (rz 3 0 32)) (.s (.r (rz 8 0 256)) (.b (.lp [83] (.s (.r (rz 1 0 0)) (.s (.c (.n) (.n)) (.s (.b (.s (.r (rz 2 0 0)) (.r (rz 5 0 512)))) (.r (rz 2 0 0))))))))) (.n))))))))) (.j [] (.s (.r (rz 2 0 9)) (.c (.j [11] (.r (ra 22 0 1100602409216 (.alt 22 .l (rz 6 23 704) (ra 1 26 3 (ra 4 22 2 (rz 2 27 2)))))) (.s (.r (rz 1 0 0)) (.j [13] (.s (.r (rz 12 0 9472)) (.s (.r (rz 1 0 0)) (.c (.r (rz 1 0 0)) (.n)))) (.r (rz 5 0 528))))) (.n))) (.s (.r (rz 2 0 1)) (.n))))))))) func81 rfl (by kernel_rfl) (by kernel_rfl) h
def jW(t0 t1 t2 t3:Value)(w:World)(K:VW):Prop:=
 pw w (Instr.box 80 t0) λt4 w1=>
 lo w1.drew 69 t3 λt7=>lo w1.drew 80 t4 λt8=>ca jG #[t8] w1.drew λt9 w2=>
 Ext w1.drew w2∧
 pp (Instr.build 88 #[(0,t9),(1,t1),(2,t2)]) λt12=>pw w2 (Instr.buildSlice 69 1 #[(0,t12)]) λt13 w3=>
 Ext w2 w3∧
 pw w3 (Builtin.append_ #[69,69] 69 #[t7,t13]) λt14 w4=>
 so w4 69 t3 t14 λw5=>K (.tuple #[]) w5
theorem XQ(h:jW t0 t1 t2 t3 w K):zc prog jT #[t0,t1,t2,t3] w K:=
 okC false (.s (.r (rz 1 0 2)) (.r (ra 2 0 5 (ra 2 3 0 (ra 1 2 3 (rz 4 5 172)))))) func142 rfl (by kernel_rfl) (by kernel_rfl) h
def Zn(t0 t1 t2:Value)(w:World)(K:VW):Prop:=
 pw w (Instr.box 82 t2) λt5 w1=>
 fa t0 155 1 λt10=>fl w1 t10 101 6 99 λt12=>xl w1 99 t12 t1 96 λt15=>pw w1 (Instr.alloc 96 true (.tuple #[])) λt7 w2=>
 so w2 96 t7 t15 λw3=>fl w3 t7 96 0 90 λt18=>bt .eql 90 t18 (Value.int .u8 11) λt19=>zb t19 (pf 96 t7 6 λt20=>fl w3 t20 80 0 3 λt22=>pf 82 t5 1 λt23=>fl w3 t23 80 0 3 λt25=>bf .eql 3 t22 t25 λt26=>K t26 w3) (lo w3 96 t7 λt28=>ca qk #[t28] w3 λt29 w4=>
 zb t29 (fl w4 t7 96 1 80 λt31=>fl w4 t5 82 1 80 λt33=>ca yM #[t31,t33] w4 λt34 w5=>
 K t34 w5) (K fa_ w4))
theorem Q2(h:Zn t0 t1 t2 w K):zc prog yE #[t0,t1,t2] w K:=
 okC false (.s (.r (rz 2 0 2)) (.s (.s (.r (rz 10 0 672000)) (.b (.s (.r (rz 4 0 4)) (.c (.s (.r (rz 8 0 1040)) (.n)) (.s (.r (rz 3 0 9)) (.c (.s (.r (rz 6 0 580)) (.n)) (.n))))))) (.s (.r (rz 1 0 0)) (.n)))) func82 rfl (by kernel_rfl) (by kernel_rfl) h
def vN(t0 t1 t2:Value)(w:World)(K:VW):Prop:=
 pw w (Instr.box 82 t1) λt4 w1=>
 pw w1 (Instr.box 88 t2) λt5 w2=>
 fl w2 t5 88 2 4 λt11=>pp (Op.unary .not t11) λt12=>za (λK3=>gIf t12 true (fl w2 t4 82 2 4 λt15=>pp (Op.unary .not t15) λt16=>K3 [t16] w2) (K3 [u_] w2)) (λs4 _d5 w6=>
 zd t12 (s4.getD 0 u_) fa_ λt17=>zb t17 (K fa_ w6) (fl w6 t4 82 1 80 λt19=>fl w6 t5 88 0 80 λt21=>ca yM #[t19,t21] w6 λt22 w7=>
 zb t22 (K tr_ w7) (fl w7 t5 88 0 80 λt24=>fl w7 t4 82 1 80 λt26=>ca yM #[t24,t26] w7 λt27 w8=>
 pp (Op.unary .not t27) λt28=>zb t28 (K fa_ w8) (pf 88 t5 0 λt29=>fl w8 t29 80 0 3 λt31=>fa t0 155 0 λt35=>fl w8.drew t35 25 0 22 λt37=>fa t0 155 1 λt40=>fl w8.drew t40 101 4 41 λt42=>bt .add 3 t31 (i6 1) λt45=>pp (Instr.sliceAt 41 t42 (some t31) (some t45) none) λt46=>pf 88 t5 0 λt47=>fl w8.drew t47 80 1 78 λt49=>pp (Instr.build 80 #[(1,t49)]) λt50=>pf 82 t4 1 λt51=>fl w8.drew t51 80 1 78 λt53=>pp (Instr.build 80 #[(1,t53)]) λt54=>fl w8.drew t5 88 1 86 λt56=>ca qj #[t37,t46,t50,t54,t56] w8.drew λt57 w9=>
 pe t57 0 λt58=>pe t57 1 λ_t59=>K t58 w9))))
theorem Qn(h:vN t0 t1 t2 w K):zc prog xz #[t0,t1,t2] w K:=
 okC false (.s (.r (rz 3 0 10)) (.s (.s (.r (ra 4 0 4 (.grp 13 true (ri 3 4 4) [16] (rz 1 7 0)))) (.c (.s (.r (rz 1 0 0)) (.n)) (.n))) (.s (.s (.r (rz 5 0 580)) (.c (.s (.r (rz 1 0 0)) (.n)) (.n))) (.s (.s (.r (rz 6 0 580)) (.c (.s (.r (rz 1 0 0)) (.n)) (.n))) (.s (.r (rz 4 0 16)) (.s (.r (rz 30 0 634422504456448)) (.s (.r (rz 2 0 0)) (.n)))))))) func92 rfl (by kernel_rfl) (by kernel_rfl) h
def Z7(t0 t1:Value)(w:World)(K:VW):Prop:=
 fa t0 155 2 λt8=>fl w t8 74 2 3 λt10=>za (λK1=>
 ff w t0 155 4 29 λt14=>bt .neq 29 t14 (i6 0) λt15=>zb t15 (ca qL #[t0] w λt17 w5=>
 K1 [t17] w5) (K1 [t10] w)) (λs2 _d3 w4=>
 fa t0 155 1 λt22=>fl w4.drew t22 101 6 99 λt24=>pp (Builtin.len_ #[99] 3 #[t24]) λt25=>fa t0 155 1 λt28=>fl w4.drew t28 101 1 3 λt30=>bf .add 3 t25 t30 λt31=>ca ve #[t1,(s2.getD 0 u_),t31] w4.drew λt32 w6=>
 K t32 w6)
theorem Jz(h:Z7 t0 t1 w K):zc prog yO #[t0,t1] w K:=
 okC false (.s (.r (rz 1 0 0)) (.s (.r (rz 6 0 256)) (.j [5] (.s (.r (rz 5 0 64)) (.c (.r (rz 3 0 8)) (.n))) (.s (.r (rz 16 0 553652224)) (.n))))) func97 rfl (by kernel_rfl) (by kernel_rfl) h
def jX(t0 t1 t2:Value)(w:World)(K:VW):Prop:=
 pw w (Instr.box 151 t0) λt3 w1=>
 pw w1 (Instr.box 82 t1) λt4 w2=>
 pw w2 (Instr.box 48 t2) λt5 w3=>
 pw w3 (Instr.alloc 48 true (.tuple #[])) λt6 w4=>
 lo w4 151 t3 λt14=>fa t14 155 1 λt16=>fl w4 t16 101 6 99 λt18=>pp (Builtin.len_ #[99] 3 #[t18]) λt19=>ca Xv #[t19] w4 λt20 w5=>
 pe t20 0 λt21=>pe t20 1 λ_t22=>pw w5 (Instr.alloc 48 true (.tuple #[])) λt7 w6=>
 so w6 48 t7 t21 λw7=>pw w7 (Instr.alloc 238 true (.tuple #[])) λt9 w8=>
 pp (Instr.makeFunc (.func 155) #[] #[t3,t5,t7,t9]) λt23=>fl w8 t4 82 0 3 λt26=>cv t23 #[t26] w8 λ_t27 w9=>
 zu [] w9 (λ_s11 _d12 w13 K10=>
 ca kc #[t9] w13 λt29 w14=>
 pe t29 0 λt30=>pe t29 1 λt31=>pp (Op.unary .not t31) λt33=>zb t33 (lo w14 48 t7 λt34=>so w14 48 t6 t34 λw15=>pq w15 (zg 48 t6) λr16=>K r16 w15) (lo w14 151 t3 λt35=>lo w14 82 t4 λt37=>ca yE #[t35,t30,t37] w14 λt38 w17=>
 pp (Op.unary .not t38) λt39=>zb t39 (cv t23 #[t30] w17 λ_t42 w18=>
 K10 [] w18) (K10 [] w17)))
theorem XR(h:jX t0 t1 t2 w K):zc prog kJ #[t0,t1,t2] w K:=
 okC false (.s (.r (rz 4 0 170)) (.s (.r (rz 13 0 10494209)) (.s (.r (rz 1 0 2)) (.s (.r (rz 2 0 0)) (.s (.r (rz 4 0 144)) (.b (.lp [] (.b (.s (.r (rz 6 0 2)) (.s (.s (.r (rz 2 0 0)) (.c (.s (.r (rz 2 0 9)) (.n)) (.n))) (.s (.r (rz 5 0 145)) (.c (.r (rz 3 0 32)) (.n))))))))))))) func98 rfl (by kernel_rfl) (by kernel_rfl) h
def jx(t0 t1 t2 t3 t4:Value)(w:World)(K:VW):Prop:=
 lo w 151 t1 λt8=>ca xj #[t8,t0] w λt10 w1=>
 pp (Builtin.len_ #[55] 3 #[t10]) λt11=>zu [(i6 0)] w1 (λs3 _d4 w5 K2=>
 bf .lss 3 (s3.getD 0 u_) t11 λt13=>zb t13 (za (λK6=>
 xl w5 55 t10 (s3.getD 0 u_) 3 λt15=>lo w5 48 t2 λt16=>ca xB #[t16,t15] w5 λt18 w10=>
 za (λK11=>gIf t18 true (lo w10 48 t3 λt20=>ca xB #[t20,t15] w10 λt22 w15=>
 pp (Op.unary .not t22) λt23=>K11 [t23] w15) (K11 [u_] w10)) (λs12 _d13 w14=>
 zd t18 (s12.getD 0 u_) fa_ λt24=>zb t24 (fl w14.drew t3 48 1 46 λt26=>bt .quo 3 t15 (i6 64) λt28=>xl w14.drew 46 t26 t28 205 λt30=>bt .rem 3 t15 (i6 64) λt32=>bt .shl 205 (Value.int .u64 1) t32 λt33=>bf .or 205 t30 t33 λt34=>px 46 t26 t28 λt35=>so w14.drew 205 t35 t34 λw16=>ca xN #[t4,t15] w16 λ_t37 w17=>
 K6 [] w17) (K6 [] w14))) (λ_s7 _d8 w9=>
 bt .add 3 (s3.getD 0 u_) (i6 1) λt38=>K2 [t38] w9)) (K (.tuple #[]) w5))
theorem YN(h:jx t0 t1 t2 t3 t4 w K):zc prog jq #[t0,t1,t2,t3,t4] w K:=
 okC false (.s (.r (rz 5 0 33)) (.b (.lp [12] (.s (.r (rz 1 0 0)) (.s (.c (.n) (.n)) (.j [] (.b (.s (.r (rz 3 0 4)) (.s (.r (ra 4 0 33 (.grp 19 true (ri 4 4 33) [23] (rz 1 8 0)))) (.c (.s (.r (rz 12 0 8389636)) (.r (rz 2 0 8))) (.n))))) (.r (rz 2 0 0)))))))) func155 rfl (by kernel_rfl) (by kernel_rfl) h
def vO(t0 t1:Value)(w:World)(K:VW):Prop:=
 ff w.drew t0 155 3 66 λt9=>pp (Builtin.len_ #[66] 3 #[t9]) λt10=>fa t0 155 1 λt13=>fl w.drew t13 101 6 99 λt15=>pp (Builtin.len_ #[99] 3 #[t15]) λt16=>ca ve #[t1,t10,t16] w.drew λt17 w1=>
 K t17 w1
theorem Qo(h:vO t0 t1 w K):zc prog xA #[t0,t1] w K:=
 okC false (.s (.r (rz 1 0 0)) (.s (.r (rz 14 0 34603264)) (.n))) func99 rfl (by kernel_rfl) (by kernel_rfl) h
def Yy(t0 t1 t2 t3 t4:Value)(w:World)(K:VW):Prop:=
 lo w 151 t1 λt8=>ca xj #[t8,t0] w λt10 w1=>
 NC w w1∧
 pp (Builtin.len_ #[55] 3 #[t10]) λt11=>zu [(i6 0)] w1 (λs3 _d4 w5 K2=>
 bf .lss 3 (s3.getD 0 u_) t11 λt13=>zb t13 (za (λK6=>
 xl w5 55 t10 (s3.getD 0 u_) 3 λt15=>lo w5 48 t2 λt16=>ca xB #[t16,t15] w5 λt18 w10=>
 NC w5 w10∧
 za (λK11=>gIf t18 true (lo w10 48 t3 λt20=>ca xB #[t20,t15] w10 λt22 w15=>
 NC w10 w15∧
 pp (Op.unary .not t22) λt23=>K11 [t23] w15) (K11 [u_] w10)) (λs12 _d13 w14=>
 zd t18 (s12.getD 0 u_) fa_ λt24=>zb t24 (lo w14 3 t4 λt25=>pp (Builtin.min_ #[3,3] 3 #[t25,t15]) λt27=>so w14 3 t4 t27 λw16=>NC w14 w16∧
 K6 [] w16) (K6 [] w14))) (λ_s7 _d8 w9=>
 bt .add 3 (s3.getD 0 u_) (i6 1) λt28=>K2 [t28] w9)) (∀w17,Shuts w.heap.size w5 w17→K (.tuple #[]) w17))
theorem Vw(h:Yy t0 t1 t2 t3 t4 w K):zc prog Yh #[t0,t1,t2,t3,t4] w K:=
 okC true (.s (.r (rz 5 0 33)) (.b (.lp [12] (.s (.r (rz 1 0 0)) (.s (.c (.n) (.n)) (.j [] (.b (.s (.r (rz 3 0 4)) (.s (.r (ra 4 0 33 (.grp 19 true (ri 4 4 33) [23] (rz 1 8 0)))) (.c (.r (rz 4 0 129)) (.n))))) (.r (rz 2 0 0)))))))) func100 rfl (by kernel_rfl) (by kernel_rfl) h
def Z8(t0 t1:Value)(w:World)(K:VW):Prop:=
 fa t0 155 1 λt8=>fl w t8 101 6 99 λt10=>xl w 99 t10 t1 96 λt13=>pw w (Instr.alloc 96 true (.tuple #[])) λt5 w1=>
 so w1 96 t5 t13 λw2=>fl w2 t5 96 0 90 λt19=>bt .eql 90 t19 (Value.int .u8 14) λt20=>zb t20 (K (Value.slice Option.none 0 0) w2) (fl w2 t5 96 0 90 λt23=>bt .eql 90 t23 (Value.int .u8 12) λt24=>za (λK3=>gIf t24 true (fl w2 t5 96 11 3 λt27=>fl w2 t5 96 10 3 λt29=>bf .neq 3 t27 t29 λt30=>K3 [t30] w2) (K3 [u_] w2)) (λs4 _d5 w6=>
 zd t24 (s4.getD 0 u_) fa_ λt31=>zb t31 (fl w6 t5 96 10 3 λt33=>fl w6 t5 96 11 3 λt35=>pw w6 (Instr.buildSlice 55 2 #[(0,t33),(1,t35)]) λt36 w7=>
 K t36 w7) (fl w6 t5 96 10 3 λt15=>pw w6 (Instr.buildSlice 55 1 #[(0,t15)]) λt16 w8=>
 K t16 w8)))
theorem JA(h:Z8 t0 t1 w K):zc prog xj #[t0,t1] w K:=
 okC false (.s (.r (rz 1 0 0)) (.s (.r (rz 10 0 672000)) (.b (.s (.r (rz 4 0 4)) (.c (.s (.r (rz 1 0 0)) (.n)) (.s (.r (ra 4 0 4 (.grp 25 true (ri 5 4 68) [30] (rz 2 9 0)))) (.c (.s (.r (rz 6 0 580)) (.n)) (.s (.r (rz 4 0 36)) (.n))))))))) func101 rfl (by kernel_rfl) (by kernel_rfl) h
def aau(t0 t1:Value)(w:World)(K:VW):Prop:=
 pw w (Instr.box 48 t0) λt2 w1=>
 fl w1 t2 48 1 46 λt6=>bt .quo 3 t1 (i6 64) λt8=>xl w1 46 t6 t8 205 λt10=>bt .rem 3 t1 (i6 64) λt12=>bf .shr 205 t10 t12 λt13=>bt .and 205 t13 (Value.int .u64 1) λt14=>bt .eql 205 t14 (Value.int .u64 1) λt15=>K t15 w1
theorem aea(h:aau t0 t1 w K):zc prog xB #[t0,t1] w K:=
 okC false (.s (.r (rz 2 0 2)) (.s (.r (rz 12 0 1028)) (.n))) func102 rfl (by kernel_rfl) (by kernel_rfl) h
def Yz(t0 t1 t2:Value)(w:World)(K:VW):Prop:=
 pw w (Instr.box 88 t0) λt3 w1=>
 lo w1 151 t1 λt5=>lo w1 82 t2 λt6=>lo w1 88 t3 λt7=>ca xz #[t5,t6,t7] w1 λt8 w2=>
 K t8 w2
theorem Vx(h:Yz t0 t1 t2 w K):zc prog Yi #[t0,t1,t2] w K:=
 okC false (.s (.r (rz 2 0 2)) (.s (.r (rz 5 0 149)) (.n))) func105 rfl (by kernel_rfl) (by kernel_rfl) h
def Xj(t0:Value)(w:World)(K:VW):Prop:=
 pw w (Instr.box 96 t0) λt1 w1=>
 fl w1 t1 96 0 90 λt4=>bt .geq 90 t4 (Value.int .u8 1) λt5=>za (λK2=>gIf t5 true (fl w1 t1 96 0 90 λt8=>bt .leq 90 t8 (Value.int .u8 8) λt9=>K2 [t9] w1) (K2 [u_] w1)) (λs3 _d4 w5=>
 zd t5 (s3.getD 0 u_) fa_ λt10=>K t10 w5)
theorem aav(h:Xj t0 w K):zc prog qk #[t0] w K:=
 okC false (.s (.r (rz 2 0 2)) (.s (.r (ra 4 0 4 (.grp 6 true (ri 3 4 4) [9] (rz 2 7 0)))) (.n))) func143 rfl (by kernel_rfl) (by kernel_rfl) h
def Zo(t0:Value)(w:World)(K:VW):Prop:=
 fa t0 155 1 λt12=>fl w t12 101 1 3 λt14=>fa t0 155 1 λt17=>fl w t17 101 4 41 λt19=>pp (Builtin.len_ #[41] 3 #[t19]) λt20=>zu [t14,(i6 0)] w (λs2 _d3 w4 K1=>
 bf .lss 3 (s2.getD 1 u_) t20 λt22=>zb t22 (xl w4 41 t19 (s2.getD 1 u_) 43 λt24=>pw w4 (Instr.alloc 43 true (.tuple #[])) λt5 w5=>
 so w5 43 t5 t24 λw6=>lo w6 43 t5 λt25=>ca yC #[t25] w6 λt26 w7=>
 pp (Builtin.len_ #[55] 3 #[t26]) λt27=>zu [(s2.getD 0 u_),(i6 0)] w7 (λs9 _d10 w11 K8=>
 bf .lss 3 (s9.getD 1 u_) t27 λt29=>zb t29 (za (λK12=>
 xl w11 55 t26 (s9.getD 1 u_) 3 λt31=>bt .lss 3 t31 (i6 0) λt33=>zb t33 (bt .add 3 (s9.getD 0 u_) (i6 1) λt35=>K12 [t35] w11) (K12 [(s9.getD 0 u_)] w11)) (λs13 _d14 w15=>
 bt .add 3 (s9.getD 1 u_) (i6 1) λt36=>K8 [(s13.getD 0 u_),t36] w15)) (bt .add 3 (s2.getD 1 u_) (i6 1) λt37=>K1 [(s9.getD 0 u_),t37] w11))) (fa t0 155 1 λt40=>fl w4 t40 101 6 99 λt42=>pp (Builtin.len_ #[99] 3 #[t42]) λt43=>zu [(s2.getD 0 u_),(i6 0)] w4 (λs17 _d18 w19 K16=>
 bf .lss 3 (s17.getD 1 u_) t43 λt45=>zb t45 (za (λK20=>
 xl w19 99 t42 (s17.getD 1 u_) 96 λt47=>pw w19 (Instr.alloc 96 true (.tuple #[])) λt9 w24=>
 so w24 96 t9 t47 λw25=>fl w25 t9 96 0 90 λt49=>bt .eql 90 t49 (Value.int .u8 7) λt50=>zb t50 (fa t0 155 0 λt54=>fl w25.drew t54 25 1 23 λt56=>fl w25.drew t9 96 8 3 λt58=>px 23 t56 t58 λt59=>fl w25.drew t59 101 1 3 λt61=>bf .add 3 (s17.getD 0 u_) t61 λt62=>K20 [t62] w25.drew) (K20 [(s17.getD 0 u_)] w25)) (λs21 _d22 w23=>
 bt .add 3 (s17.getD 1 u_) (i6 1) λt63=>K16 [(s21.getD 0 u_),t63] w23)) (ff w19 t0 155 3 66 λt68=>pp (Builtin.len_ #[66] 3 #[t68]) λt69=>bf .add 3 (s17.getD 0 u_) t69 λt70=>K t70 w19))))
theorem Q3(h:Zo t0 w K):zc prog qL #[t0] w K:=
 okC false (.s (.r (rz 1 0 0)) (.s (.r (rz 6 0 256)) (.s (.s (.r (rz 7 0 256)) (.b (.lp [3,21] (.s (.r (rz 1 0 0)) (.s (.c (.n) (.n)) (.s (.b (.s (.r (rz 4 0 164)) (.s (.r (rz 4 0 9)) (.b (.lp [3,28] (.s (.r (rz 1 0 0)) (.s (.c (.n) (.n)) (.j [3] (.b (.s (.r (rz 3 0 4)) (.s (.r (rz 2 0 0)) (.c (.r (rz 3 0 0)) (.n))))) (.r (rz 2 0 0)))))))))) (.r (rz 2 0 0)))))))) (.s (.s (.r (rz 7 0 256)) (.b (.lp [3,44] (.s (.r (rz 1 0 0)) (.s (.c (.n) (.n)) (.j [3] (.b (.s (.r (rz 4 0 164)) (.s (.r (rz 3 0 4)) (.c (.r (rz 13 0 1065984)) (.n))))) (.r (rz 2 0 0)))))))) (.s (.r (rz 8 0 256)) (.n)))))) func152 rfl (by kernel_rfl) (by kernel_rfl) h
def JR(t0 t1 t2:Value)(w:World)(K:VW):Prop:=
 pw w (Instr.box 3 t2) λt5 w1=>
 pp (Builtin.len_ #[44] 3 #[t0]) λt8=>bf .eql 3 t8 t1 λt10=>za (λK2=>gIf t10 true (pp (Instr.makeFunc (.func 200) #[] #[t5]) λt13=>ca yc #[t0,t13] w1 λt14 w6=>
 pp (Op.unary .not t14) λt15=>K2 [t15] w6) (K2 [u_] w1)) (λs3 _d4 w5=>
 zd t10 (s3.getD 0 u_) fa_ λt16=>K t16 w5)
theorem adv(h:JR t0 t1 t2 w K):zc prog ve #[t0,t1,t2] w K:=
 okC false (.s (.r (rz 2 0 2)) (.s (.r (ra 5 0 0 (.grp 11 true (ri 4 5 32) [15] (rz 2 9 0)))) (.n))) func153 rfl (by kernel_rfl) (by kernel_rfl) h
def Qd(t0 t1:Value)(w:World)(K:VW):Prop:=
 pw w (Instr.box 48 t0) λt2 w1=>
 lo w1 48 t2 λt4=>ca Zr #[t4] w1 λt5 w2=>
 pp (Op.unary .not t5) λt6=>za (λK3=>gIf t6 false (fl w2 t2 48 0 3 λt9=>lo w2 3 t1 λt10=>bf .neq 3 t9 t10 λt11=>K3 [t11] w2) (K3 [u_] w2)) (λs4 _d5 w6=>
 zd t6 tr_ (s4.getD 0 u_) λt12=>K t12 w6)
theorem abd(h:Qd t0 t1 w K):zc prog XZ #[t0,t1] w K:=
 okC false (.s (.r (rz 2 0 2)) (.s (.r (ra 4 0 9 (.grp 7 false (ri 4 4 20) [11] (rz 2 8 0)))) (.n))) func200 rfl (by kernel_rfl) (by kernel_rfl) h
def jy(t0 t1:Value)(w:World)(K:VW):Prop:=
 ff w t0 238 0 55 λt8=>pw w (Instr.buildSlice 55 1 #[(0,t1)]) λt10 w1=>
 pw w1 (Builtin.append_ #[55,55] 55 #[t8,t10]) λt11 w2=>
 fa t0 238 0 λt13=>so w2 55 t13 t11 λw3=>K (.tuple #[]) w3
theorem YO(h:jy t0 t1 w K):zc prog xN #[t0,t1] w K:=
 okC false (.r (rz 11 0 2138368)) func156 rfl (by kernel_rfl) (by kernel_rfl) h
def jO(t0:Value)(w:World)(K:VW):Prop:=
 ff w t0 238 0 55 λt8=>pp (Builtin.len_ #[55] 3 #[t8]) λt9=>bt .eql 3 t9 (i6 0) λt10=>zb t10 (K (.tuple #[(i6 0),fa_]) w) (ff w t0 238 0 55 λt15=>pp (Builtin.len_ #[55] 3 #[t15]) λt16=>bt .sub 3 t16 (i6 1) λt17=>ff w t0 238 0 55 λt21=>xl w 55 t21 t17 3 λt24=>ff w t0 238 0 55 λt29=>pp (Instr.sliceAt 55 t29 none (some t17) none) λt31=>fa t0 238 0 λt33=>so w 55 t33 t31 λw1=>K (.tuple #[t24,tr_]) w1)
theorem Xk(h:jO t0 w K):zc prog kc #[t0] w K:=
 okC false (.s (.r (rz 2 0 0)) (.s (.s (.r (rz 6 0 64)) (.c (.s (.r (rz 3 0 0)) (.n)) (.n))) (.s (.r (rz 7 0 64)) (.s (.r (rz 8 0 4160)) (.s (.r (rz 10 0 524544)) (.s (.r (rz 3 0 0)) (.n))))))) func157 rfl (by kernel_rfl) (by kernel_rfl) h
def yr(t0 t1:Value)(w:World)(K:VW):Prop:=
 ca z8 #[t0,t1] w λt7 w1=>
 bt .geq 3 t7 (i6 0) λt8=>K t8 w1
theorem xF(h:yr t0 t1 w K):zc prog zV #[t0,t1] w K:=
 okC false (.s (.r (rz 1 0 0)) (.s (.r (rz 5 0 32)) (.n))) func104 rfl (by kernel_rfl) (by kernel_rfl) h
def yD(t0 t1:Value)(w:World)(K:VW):Prop:=
 pp (Builtin.len_ #[69] 3 #[t0]) λt7=>zu [(i6 0)] w (λs2 _d3 w4 K1=>
 bf .lss 3 (s2.getD 0 u_) t7 λt9=>zb t9 (xl w4 69 t0 (s2.getD 0 u_) 88 λt15=>cv t1 #[t15] w4 λt16 w5=>
 zb t16 (K (s2.getD 0 u_) w5) (bt .add 3 (s2.getD 0 u_) (i6 1) λt18=>K1 [t18] w5)) (K (i6 (-1)) w4))
theorem xU(h:yD t0 t1 w K):zc prog z8 #[t0,t1] w K:=
 okC false (.s (.r (rz 1 0 0)) (.s (.s (.r (rz 3 0 0)) (.b (.lp [8] (.s (.r (rz 1 0 0)) (.s (.c (.n) (.n)) (.s (.b (.s (.r (rz 2 0 0)) (.s (.r (rz 6 0 2304)) (.c (.s (.r (rz 2 0 0)) (.n)) (.n))))) (.r (rz 2 0 0)))))))) (.s (.r (rz 1 0 0)) (.n)))) func161 rfl (by kernel_rfl) (by kernel_rfl) h
def xq(t0 t1:Value)(w:World)(K:VW):Prop:=
 pp (Builtin.len_ #[78] 3 #[t0]) λt7=>pp (Builtin.len_ #[78] 3 #[t1]) λt9=>bf .neq 3 t7 t9 λt10=>zb t10 (K fa_ w) (pp (Builtin.len_ #[78] 3 #[t0]) λt12=>zu [(i6 0)] w (λs2 _d3 w4 K1=>
 bf .lss 3 (s2.getD 0 u_) t12 λt14=>zb t14 (xl w4.drew 78 t0 (s2.getD 0 u_) 84 λt19=>xl w4.drew 78 t1 (s2.getD 0 u_) 84 λt23=>bf .neq 84 t19 t23 λt24=>zb t24 (K fa_ w4.drew) (bt .add 3 (s2.getD 0 u_) (i6 1) λt25=>K1 [t25] w4.drew)) (K tr_ w4)))
theorem qW(h:xq t0 t1 w K):zc prog yv #[t0,t1] w K:=
 okC false (.s (.r (rz 1 0 0)) (.s (.s (.r (rz 5 0 0)) (.c (.s (.r (rz 1 0 0)) (.n)) (.n))) (.s (.s (.r (rz 3 0 0)) (.b (.lp [13] (.s (.r (rz 1 0 0)) (.s (.c (.n) (.n)) (.s (.b (.s (.r (rz 2 0 0)) (.s (.r (rz 9 0 16448)) (.c (.s (.r (rz 1 0 0)) (.n)) (.n))))) (.r (rz 2 0 0)))))))) (.s (.r (rz 1 0 0)) (.n))))) func94 rfl (by kernel_rfl) (by kernel_rfl) h
end
end Go.Proofs.Tryz
namespace Go.Proofs
open Go.Sh Go.RowKit
section
def ye(p q:PlD):Bool:=decide (p.l=q.l)&&(decide (p.ps.length≤q.ps.length)&&decide (p.ps=q.ps.take p.ps.length))
theorem aeb{l m:List Int}{v vm:Value}{w:World}{r:Gh}{K:Value→World→Prop}(hr:Holds r w)(hl:SlB 1 r xo v l)(hm:SlB 1 r xo vm m)(h:∀w',Ext w w'→K (.bool (decide (l=m))) w'):zc Tryz.prog Tryz.yv #[v,vm] w K:=by
 refine Tryz.qW ?_
 unfold Tryz.xq
 have hlf:=hl.lt
 have hmf:=hm.lt
 obtain⟨p,cap,rfl,_,_⟩:=hl.sl.shape
 obtain⟨pm,cm,rfl,_,_⟩:=hm.sl.shape
 have S:=St.start hr
 refine gg_ ?_
 refine zj (λhne=>?_) (λheq=>?_)
 ·have:=h _ S.ext
  have hn:¬l=m:=λe=>hne (by rw[e])
  rwa[decide_eq_false hn]at this
 have heq:l.length=m.length:=by omega
 refine gg_ ?_
 refine zk (ι:=Nat) (λi=>[.int .i64 (i:Nat)]) (λi w'=>i≤l.length∧(∀k (h1:k<l.length) (h2:k<m.length),k<i→l[k]=m[k])∧StX noX w r w' []) (λi=>l.length-i) 0 rfl ⟨gzl _,λk _ _ h0=>absurd h0 (Nat.not_lt_zero _),S⟩ ?_
 repeat clear S
 rintro i d w6 ⟨hi,hno,S⟩ K4 hK4
 rw[gdz]
 refine gp_ ?_
 refine zj (λhlt=>?_) (λhge=>?_)
 ·have hlt:i<l.length:=by omega
  have hlt2:i<m.length:=by omega
  have S:=S.go (Ext.drew _)
  obtain⟨b,off,hE,_,hc⟩:=aev hl.sl hlt
  obtain⟨b2,off2,hE2,_,hc2⟩:=aev hm.sl hlt2
  subst hE
  subst hE2
  refine gg_ ?_
  refine zf (by rw[tnc];exact S.at hc) ?_
  refine gg_ ?_
  refine zf (by rw[tnc];exact S.at hc2) ?_
  refine gp_ ?_
  refine zj (λhb=>?_) (λhb=>?_)
  ·have:=h _ S.ext
   have hne:¬l=m:=λe=>by subst e;exact hb rfl
   rwa[decide_eq_false hne]at this
  ·refine gp_ ?_
   refine hK4 (i+1) _ ⟨hlt,λk h1 h2 hk=>?_,S⟩ (by omega)
   rcases Nat.lt_or_ge k i with h|h
   ·exact hno k h1 h2 h
   ·obtain rfl:k=i:=by omega
    exact Decidable.not_not.1 hb
 ·have hil:i=l.length:=by omega
  have:=h _ S.ext
  have hy:l=m:=List.ext_getElem heq λk h1 h2=>hno k h1 h2 (by omega)
  rwa[gde hy]at this
theorem xT{p q:PlD}{c d:List Value}{w:World}{r:Gh}{K:Value→World→Prop}(hr:Holds r w)(hp:PlG r c p)(hq:PlG r d q)(h:∀w',Ext w w'→K (.bool (ye p q)) w'):zc Tryz.prog Tryz.yM #[.agg c.toArray,.agg d.toArray] w K:=by
 refine Tryz.aaa ?_
 unfold Tryz.Xc
 obtain⟨v,rfl,hl⟩:=hp
 obtain⟨v2,rfl,hm⟩:=hq
 have hl0:=hl;have hm0:=hm
 have hlf:=hl.lt
 have hmf:=hm.lt
 obtain⟨x,cx,rfl,_,_⟩:=hl.sl.shape
 obtain⟨y,cy,rfl,_,hcy⟩:=hm.sl.shape
 have S:=St.start hr
 refine S.box λb2 w1 S=>?_
 refine S.box λb3 w2 S=>?_
 have S:=S.go (Ext.drew _)
 have S:StX noX w r _ [.cell b3 [.int .i64 q.l,.slice y q.ps.length cy] 80,.cell b2 [.int .i64 p.l,.slice x p.ps.length cx] 80]:=S
 refine gg_ ?_
 refine zh (c:=decide ((p.ps.length:Int)≤(q.ps.length:Int))) (λ_ K2 hK2=>by refine gg_ ?_;exact hK2) ?_
 refine zH (c:=decide (p.ps=q.ps.take p.ps.length)) (λhb K2 hK2=>?_) λw4 e4=>?_
 ·simp only[gba,gdt]at hb
  refine gg_ ?_
  refine agq (e:=84) (n:=1) (p:=y) (i:=(p.ps.length:Int)) (by kernel_rfl) (by omega) (by omega) ?_
  rw[tnc]
  refine aeb S.holds hl0 (aht hm0 (by omega)) λw4 e4=>hK2 _ e4
 have:=h _ (S.go e4).ext
 rwa[ye,show decide (p.ps.length≤q.ps.length)=decide ((p.ps.length:Int)≤(q.ps.length:Int))by rw[decide_eq_decide];omega,← Bool.and_assoc]at this
def XS(d:Int):Int:=if d=3 then 2 else if d=2 then 1 else 0
theorem acf{d:Int}{w:World}{K:Value→World→Prop}(hd:1≤d∧d≤3)(h:K (.int .i64 (XS d)) w):zc Tryz.prog Tryz.vU #[.int .u8 d] w K:=by
 refine Tryz.aaY ?_
 unfold Tryz.X8
 obtain rfl|rfl|rfl:d=1∨d=2∨d=3:=by omega
 ·intro K1 hK1
  intro K5 hK5
  refine gp_ ?_
  refine c_f (by decide) ?_
  refine gp_ ?_
  refine c_f (by decide) ?_
  refine gp_ ?_
  refine c_t (by decide) ?_
  exact hK1 _ _ λ_=>h
 ·intro K1 hK1
  intro K5 hK5
  refine gp_ ?_
  refine c_f (by decide) ?_
  refine gp_ ?_
  refine c_t (by decide) ?_
  refine hK5 _ _ λ_=>?_
  simp only[gdz]
  refine gp_ ?_
  exact hK1 _ _ λ_=>h
 ·intro K1 hK1
  intro K5 hK5
  refine gp_ ?_
  refine c_t (by decide) ?_
  refine gp_ ?_
  refine hK5 _ _ λ_=>?_
  simp only[gdz]
  refine gp_ ?_
  exact hK1 _ _ λ_=>h
noncomputable def yS(ss:List StD)(tys:List TyD)(p q:PlD)(d:Int):Bool×Int:=match zt ss tys q with
 |none=>(false,2)
 |some x=>if ((zt ss tys p).isSome=false∨d<1)∨3<d then(false,2)else(ye p q&&(x.2.drop p.ps.length).all λk=>decide (k≤XS d),0)
theorem Xl{ss:List StD}{tys:List TyD}{p q:PlD}{d:Int}{c c':List Value}{p0 qt:Option Addr}{cap0 capt:Nat}{w:World}{r:Gh}{K:Value→World→Prop}(hr:Holds r w)(hs:StG r p0 ss)(ht:TysG r qt tys)(htl:tys.length≤maxLen)(hp:PlG r c p)(hq:PlG r c' q)
  (h:∀w',Ext w w'→K (.tuple #[.bool (yS ss tys p q d).1,.int .i64 (yS ss tys p q d).2]) w'):zc Tryz.prog Tryz.qj #[.slice p0 ss.length cap0,.slice qt tys.length capt,.agg c.toArray,.agg c'.toArray,.int .u8 d] w K:=by
 refine Tryz.aab ?_
 unfold Tryz.Xd
 have hp0:=hp;have hq0:=hq
 obtain⟨v,rfl,hl⟩:=hp
 obtain⟨v2,rfl,hm⟩:=hq
 have hlf:=hl.lt
 have hmf:=hm.lt
 obtain⟨x,cx,rfl,_,_⟩:=hl.sl.shape
 obtain⟨y,cy,rfl,_,hcy⟩:=hm.sl.shape
 have S:=St.start hr
 refine S.box λb2 w1 S=>?_
 refine S.box λb3 w2 S=>?_
 have S:StX noX w r w2 [.cell b3 [.int .i64 q.l,.slice y q.ps.length cy] 80,.cell b2 [.int .i64 p.l,.slice x p.ps.length cx] 80]:=S
 refine S.ldB (b:=b3) ?_ rfl
 refine Z1 S.holds hs ht htl hq0 (λw4 hn e4=>?_) λt g qa ca vg s w4 hg e4 n4 h4 hsg=>?_
 ·have S:=S.go e4
  refine gS_ ?_
  refine S.al λb12 w5 S=>?_
  refine S.stB (b:=b12) λw6 S=>?_
  refine gp_ ?_
  refine kq (c:=true) (λhb=>by cases hb) λw7 e7=>?_
  have S:=S.go e7
  refine zn (c:=true) (λhb=>by cases hb) ?_
  refine zn (c:=true) (λhb=>by cases hb) ?_
  refine c_t rfl ?_
  have:=h _ S.ext
  rwa[yS,hn]at this
 obtain⟨S,_,_⟩:=S.tell e4 n4
 obtain⟨pg,cg,rfl,_,hcg⟩:=hsg.shape
 have hgl:g.length=q.ps.length:=agr hg
 refine gS_ ?_
 refine S.al λb12 w5 S=>?_
 refine S.stB (b:=b12) λw6 S=>?_
 refine gp_ ?_
 have S:StX noX w (r.or s) w6 [.cell b3 [.int .i64 q.l,.slice y q.ps.length cy] 80,.cell b2 [.int .i64 p.l,.slice x p.ps.length cx] 80]:=S.tl
 refine kq (c:=!(zt ss tys p).isSome) (λ_ K2 hK2=>?_) λw7 e7=>?_
 ·refine S.ldB (b:=b2) ?_ rfl
  refine JO S.holds (RepS.up hs) (TysG.up ht) htl hp0.up λw7 e7=>?_
  refine gp_ ?_
  exact hK2 _ e7
 have S:=S.go e7
 refine zn (c:=decide (d<1)) (λ_ K2 hK2=>by refine gp_ ?_;exact hK2) ?_
 refine zn (c:=decide (3<d)) (λ_ K2 hK2=>by refine gp_ ?_;exact hK2) ?_
 have hE:yS ss tys p q d=if ((zt ss tys p).isSome=false∨d<1)∨3<d then(false,2)else(ye p q&&(g.drop p.ps.length).all λk=>decide (k≤XS d),0):=by rw[yS,hg]
 rw[hE]at h
 refine c_b (λhb=>?_) (λhb=>?_)
 ·have:=h _ S.ext
  rwa[if_pos (by simpa only[Bool.not_true,Bool.false_or,Bool.or_eq_true,Bool.not_eq_true',gdt]using hb)]at this
 simp only[Bool.not_true,Bool.false_or,Bool.or_eq_false_iff,Bool.not_eq_false',decide_eq_false_iff_not]at hb
 rw[if_neg (by rw[hb.1.1];rintro((h|h)|h);cases h;exact hb.1.2 h;exact hb.2 h)]at h
 refine S.ldB (b:=b2) ?_ rfl
 refine S.ldB (b:=b3) ?_ rfl
 refine xT S.holds hp0.up hq0.up λw8 e8=>?_
 have S:=S.go e8
 refine gp_ ?_
 refine c_b (λhn=>?_) (λhy=>?_)
 ·have:=h _ S.ext
  rw[show ye p q=false by simpa using hn]at this
  exact this
 have hy:ye p q=true:=by simpa using hy
 rw[hy,Bool.true_and]at h
 have hle:p.ps.length≤q.ps.length:=by
  simp only[ye,gba,gdt]at hy;exact hy.2.1
 refine gg_ ?_
 rw[tnc]
 refine zk (ι:=Nat) (λi=>[.int .i64 (i:Nat)]) (λi w'=>i≤g.length-p.ps.length∧(∀k (hk:k<g.length),p.ps.length≤k→k<p.ps.length+i→g[k]≤XS d)∧StX noX w (r.or s) w' [.cell b3 [.int .i64 q.l,.slice y q.ps.length cy] 80,.cell b2 [.int .i64 p.l,.slice x p.ps.length cx] 80]) (λi=>g.length-p.ps.length-i) 0 rfl ⟨gzl _,λk _ h1 h2=>by omega,S⟩ ?_
 repeat clear S
 rintro i dd w9 ⟨hi,hno,S⟩ K4 hK4
 rw[gdz]
 refine gp_ ?_
 refine zj (λhlt=>?_) (λhge=>?_)
 ·have hlt:p.ps.length+i<g.length:=by omega
  obtain⟨bg,og,hpg,_,hgg⟩:=xR hsg hlt
  subst hpg
  have e:(if cg=p.ps.length then(some ⟨bg,og,none⟩:Option Addr)else(some ⟨bg,og,none⟩:Option Addr).map (·.add (p.ps.length*1)))=some ⟨bg,og+p.ps.length,none⟩:=by
   rw[if_neg (by omega)];simp[Addr.add]
  rw[e]
  have hgg:=hgg.up (s:=r.or s)
  rw[show og+(p.ps.length+i)=og+p.ps.length+i by omega]at hgg
  refine gg_ ?_
  refine zf (by rw[tnc];exact S.at hgg) ?_
  refine acf (by omega) ?_
  refine gp_ ?_
  refine zj (λhb=>?_) (λhb=>?_)
  ·have:=h _ S.ext
   have hf:((g.drop p.ps.length).all λk=>decide (k≤XS d))=false:=by
    rw[List.all_eq_false]
    refine⟨g[p.ps.length+i],?_,by simpa using hb⟩
    rw[List.mem_iff_getElem]
    exact⟨i,by rw[List.length_drop];omega,by rw[List.getElem_drop]⟩
   rwa[hf]at this
  ·refine gp_ ?_
   refine hK4 (i+1) _ ⟨by omega,λk hk h1 h2=>?_,S⟩ (by omega)
   rcases Nat.lt_or_ge k (p.ps.length+i)with h3|h3
   ·exact hno k hk h1 h3
   ·obtain rfl:k=p.ps.length+i:=by omega
    exact Int.not_lt.1 hb
 ·have:=h _ S.ext
  have hf:((g.drop p.ps.length).all λk=>decide (k≤XS d))=true:=by
   rw[List.all_eq_true]
   intro z hz
   obtain⟨k,hk,rfl⟩:=List.getElem_of_mem hz
   rw[List.length_drop]at hk
   rw[List.getElem_drop,gdt]
   exact hno _ (by omega) (by omega) (by omega)
  rwa[hf]at this
structure LnD where
 q:Int
 pl:PlD
 mu:Bool
 re:Int
structure AcD where
 pl:PlD
 d:Int
 wr:Bool
def LnG(r:Gh)(c:List Value)(x:LnD):Prop:=∃v,c=[.int .i64 x.q,.int .i64 x.pl.l,v,.bool x.mu,.int .i64 x.re]∧SlB 1 r xo v x.pl.ps
def AcG(r:Gh)(c:List Value)(x:AcD):Prop:=∃v,c=[.int .i64 x.pl.l,v,.int .u8 x.d,.bool x.wr]∧SlB 1 r xo v x.pl.ps
theorem LnG.up{r s:Gh}{c:List Value}{x:LnD}(h:LnG r c x)[l:Le r s]:LnG s c x:=by obtain⟨v,h1,h2⟩:=h;exact⟨v,h1,h2.cells⟩
theorem AcG.up{r s:Gh}{c:List Value}{x:AcD}(h:AcG r c x)[l:Le r s]:AcG s c x:=by obtain⟨v,h1,h2⟩:=h;exact⟨v,h1,h2.cells⟩
theorem ags{r:Gh}{v:Value}{l:List Int}(hl:SlB 1 r xo v l):∀x∈l,YK x:=λx hx=>by
 obtain⟨i,hi,rfl⟩:=List.getElem_of_mem hx
 obtain⟨p,cap,rfl,_,_⟩:=hl.sl.shape
 obtain⟨_,_,_,_,_,hc,_⟩:=hl.sl.get (by decide) hi
 exact hc.2
theorem adw{l:List Int}{p:Option Addr}{cap:Nat}{w:World}{r:Gh}{K:Value→World→Prop}(hr:Holds r w)(hl:SlB 1 r xo (.slice p l.length cap) l)(hb:l.length≤1000000)
  (h:∀v' w',Ext w w'→w'.ownsRow w.heap.size 84 1 v' l.length (ints l)→K v' w'):zc Tryz.prog Tryz.yu #[.slice p l.length cap] w K:=by
 refine Tryz.qS ?_
 unfold Tryz.xk
 have S:=St.start hr
 obtain⟨_,_,hE,hp,_⟩:=hl.sl.shape
 cases hE
 refine Xs (e:=84) (n:=1) (by kernel_rfl) ?_
 refine c_b (λhn=>?_) (λhn=>?_)
 ·have hws:l=[]:=by
   cases l with
   |nil=>rfl
   |cons a l=>obtain ⟨b,off,hb,_⟩:=(af7 hl w hr) 0 (.int .i64 a) rfl;rw[hb]at hn;cases hn
  subst hws
  have S:=S.ownNil 84 1
  exact h _ _ S.ext (S.give (.slice none 0 0))
 refine S.lit (e:=84) (cs:=[]) (by kernel_rfl) λb w1 S=>?_
 have S:StX noX w r w1 [.row (.slice (some ⟨b,0,none⟩) 0 0) 84 1 0 []]:=by
  refine⟨S.x,S.holds,λx hx=>?_,λx hx k hk=>?_,List.pairwise_singleton _ _⟩
  ·rw[List.mem_singleton.1 hx]
   have:=qh (w:=w1) (base:=0) (size:=1) (n:=0) (cap:=0) (gzl _) (S.has (.cell b [] 84) (by simp)) (Nat.le_refl _) (by simp[maxLen]) rfl
   exact this
  ·rw[List.mem_singleton.1 hx]at hk
   exact S.mine (.cell b [] 84) (by simp) k (by cases hk;rfl)
 refine S.ap (v:=.slice (some ⟨b,0,none⟩) 0 0) (S.at (af7 hl)) (λv2 w2 S=>?_) (by omega) (by rw[ym];omega) hp (afB _)
 rw[List.nil_append,Nat.zero_add]at S
 exact h _ _ S.ext (S.give v2)
theorem YP{p:PlD}{c:List Value}{w:World}{r:Gh}{K:Value→World→Prop}(hr:Holds r w)(hp:PlG r c p)(hb:p.ps.length≤1000000)
  (h:∀v' w',Ext w w'→w'.ownsRow w.heap.size 84 1 v' p.ps.length (ints p.ps)→K (.agg #[.int .i64 p.l,v']) w'):zc Tryz.prog Tryz.jG #[.agg c.toArray] w K:=by
 refine Tryz.ad9 ?_
 unfold Tryz.aat
 obtain⟨v,rfl,hl⟩:=hp
 obtain⟨qs,caps,rfl,_,_⟩:=hl.sl.shape
 have S:=St.start hr
 refine S.box λb1 w1 S=>?_
 have S:StX noX w r w1 [.cell b1 [.int .i64 p.l,.slice qs p.ps.length caps] 80]:=S
 refine S.al λb2 w2 S=>?_
 have S:=S.go (Ext.drew _)
 refine gg_ ?_
 refine adw S.holds hl hb λv3 w3 e3 h3=>⟨e3,?_⟩
 have S:=S.take e3 h3
 obtain⟨q3,c3,rfl,_⟩:=S.rowS v3
 refine zo (cs:=#[.int .i64 p.l,.slice q3 p.ps.length c3]) (by kernel_rfl) ?_
 refine S.stB (b:=b2) λw4 S=>?_
 refine S.ceB (b:=b2) ?_ rfl
 exact h _ _ S.ext (S.give (.slice q3 p.ps.length c3))
abbrev lnC(v:Value)(x:LnD):List Value:=[.int .i64 x.q,.int .i64 x.pl.l,v,.bool x.mu,.int .i64 x.re]
def k8(vs:List Value)(ls:List LnD):List Value:=(List.zipWith lnC vs ls).flatten
abbrev qN(vs:List Value)(ls:List LnD):List Asr:=List.zipWith (λv x=>Asr.row v 84 1 x.pl.ps.length (ints x.pl.ps)) vs ls
theorem agt{vs:List Value}{ls:List LnD}{v:Value}{x:LnD}(h:vs.length=ls.length):k8 (vs++[v]) (ls++[x])=k8 vs ls++lnC v x:=by
 rw[k8,List.zipWith_append h,List.flatten_append];simp[k8]
theorem agu{vs:List Value}{ls:List LnD}{v:Value}{x:LnD}(h:vs.length=ls.length):qN (vs++[v]) (ls++[x])=qN vs ls++[Asr.row v 84 1 x.pl.ps.length (ints x.pl.ps)]:=by
 rw[qN,List.zipWith_append h];rfl
theorem Vy{R:List Value→LnD→Prop}:∀{vs:List Value}{ls:List LnD},vs.length=ls.length→(∀i (h1:i<vs.length) (h2:i<ls.length),R (lnC vs[i] ls[i]) ls[i])→RowOf 5 R (k8 vs ls) ls
 |[],[],_,_=>RowOf.nil
 |v::vs,x::ls,hl,h=>by
  have h1:=Vy (R:=R) (vs:=vs) (ls:=ls) (by simpa using hl) λi h1 h2=>h (i+1) (by simpa using h1) (by simpa using h2)
  have:=yq (c:=lnC v x) (R:=R) (x:=x) rfl (h 0 (by simp) (by simp)) h1
  rw[k8,List.zipWith_cons_cons,List.flatten_cons]
  exact this
theorem Vz{X:Nat→Prop}{w0 w:World}:∀{vs:List Value}{ls:List LnD}{r:Gh}{L:List Asr},vs.length=ls.length→(∀x∈ls,(∀y∈x.pl.ps,YK y)∧x.pl.ps.length≤1000000)→StX X w0 r w (qN vs ls++L)→
  ∃s,StX X w0 (r.or s) w L∧(∀i (h1:i<vs.length) (h2:i<ls.length),SlB 1 s xo vs[i] ls[i].pl.ps)∧(∀b o,s b o→w0.heap.size≤b∨X b)
 |[],[],r,L,_,_,S=>⟨nothing,S.less (λb o h=>Or.elim h id λh=>h.elim) (List.Sublist.refl _),λi h1 _=>absurd h1 (Nat.not_lt_zero _),λb o h=>h.elim⟩
 |v::vs,x::ls,r,L,hl,hin,S=>by
  have hx:=hin x (List.mem_cons_self ..)
  obtain⟨s1,T,h1,_,a1⟩:=StX.doneRow (l:=x.pl.ps) (R:=xo) (sz:=1) S (abH hx.1) (by decide) rfl
  obtain⟨s2,T2,h2,a2⟩:=Vz (vs:=vs) (ls:=ls) (by simpa using hl) (λy hy=>hin y (List.mem_cons_of_mem _ hy)) T
  refine⟨s1.or s2,T2.less (λb o h=>Or.elim h (λh=>.inl (.inl h)) λh=>Or.elim h (λh=>.inl (.inr h)) .inr) (List.Sublist.refl _),λi k1 k2=>?_,λb o h=>Or.elim h (a1 b o) (a2 b o)⟩
  cases i with
  |zero=>exact SlB.cells ⟨h1,by rw[maxLen];show x.pl.ps.length≤_;omega⟩
  |succ i=>exact SlB.cells (h2 i (by simpa using k1) (by simpa using k2))
def abe(g:GrD)(f:Nat→Int)(q:Nat):List LnD:=match g.pts[q]? with
 |some p=>if p.op=4 then [⟨(q:Int),p.fr,p.mu,f q⟩]else []
 |none=>[]
def lnsI(g:GrD)(f:Nat→Int)(i:Nat):List LnD:=(List.range i).flatMap (abe g f)
theorem abQ{g:GrD}{f:Nat→Int}{i:Nat}:lnsI g f (i+1)=lnsI g f i++abe g f i:=by rw[lnsI,List.range_succ,List.flatMap_append,List.flatMap_singleton];rfl
theorem k9{g:GrD}{f:Nat→Int}:∀{i:Nat},(lnsI g f i).length≤i
 |0=>Nat.le_refl _
 |i+1=>by
  rw[abQ,gla]
  have:=k9 (g:=g) (f:=f) (i:=i)
  have h2:(abe g f i).length≤1:=by
   rw[abe]
   split
   ·split<;>simp
   ·simp
  omega
theorem XT{g:GrD}{f:Nat→Int}{i:Nat}{x:LnD}(h:x∈lnsI g f i):∃q p,q<i∧g.pts[q]? = some p∧p.op=4∧x=⟨(q:Int),p.fr,p.mu,f q⟩:=by
 obtain⟨q,hq,hx⟩:=List.mem_flatMap.1 h
 rw[abe]at hx
 split at hx
 ·rename_i p hp
  split at hx
  ·rename_i ho
   exact⟨q,p,List.mem_range.1 hq,hp,ho,List.mem_singleton.1 hx⟩
  ·cases hx
 ·cases hx
abbrev lkL(u:UnD)(g:GrD)(d:RgD)(e:Int)(p0:Option Addr)(cap0:Nat)(vf vo vt vn vp vl va vln:Value):List Value:=
 [.slice p0 u.ss.length cap0,vf,.int .i64 u.mn,.string g.name,.int .i64 g.lv,vo,.int .i64 g.pn,vt,vn,vp,.int .i64 d.lv,.int .i64 d.pt,.int .i64 d.ct,vl,va,vln,.int .i64 e]
structure LkG2(r:Gh)(b:Nat)(u:UnD)(g:GrD)(d:RgD)(e:Int)(ls:List LnD):Prop where
 ss:∃p0 cap0,(Ob r λw=>w.cell? ⟨b,0,none⟩=some (.slice p0 u.ss.length cap0))∧StG r p0 u.ss
 fs:∃p cap,(Ob r λw=>w.cell? ⟨b,1,none⟩=some (.slice p u.fs.length cap))∧SlB 7 r (GrG r) (.slice p u.fs.length cap) u.fs
 lv:Ob r λw=>w.cell? ⟨b,4,none⟩=some (.int .i64 g.lv)
 tys:∃p cap,(Ob r λw=>w.cell? ⟨b,7,none⟩=some (.slice p g.tys.length cap))∧SlB 5 r (TyC r) (.slice p g.tys.length cap) g.tys
 pts:∃p cap,(Ob r λw=>w.cell? ⟨b,9,none⟩=some (.slice p g.pts.length cap))∧SlB 21 r (PtG r) (.slice p g.pts.length cap) g.pts
 ct:Ob r λw=>w.cell? ⟨b,12,none⟩=some (.int .i64 d.ct)
 lns:∃p cap,(Ob r λw=>w.cell? ⟨b,15,none⟩=some (.slice p ls.length cap))∧SlG 5 r (LnG r) (.slice p ls.length cap) ls
 er:Ob r λw=>w.cell? ⟨b,16,none⟩=some (.int .i64 e)
theorem LkG2.up{r s:Gh}{b:Nat}{u:UnD}{g:GrD}{d:RgD}{e:Int}{ls:List LnD}(h:LkG2 r b u g d e ls)[l:Le r s]:LkG2 s b u g d e ls:=by
 obtain⟨⟨p0,c0,h1,h2⟩,⟨p1,c1,h3,h4⟩,h5,⟨p2,c2,h6,h7⟩,⟨p3,c3,h8,h9⟩,h10,⟨p4,c4,h11,h12⟩,h13⟩:=h
 exact⟨⟨p0,c0,h1.up,RepS.up h2⟩,⟨p1,c1,h3.up,h4.up' l λ_ _ h=>GrG.up h⟩,h5.up,⟨p2,c2,h6.up,h7.up' l λ_ _ h=>TyG.up h⟩,⟨p3,c3,h8.up,h9.up' l λ_ _ h=>PtG.up h⟩,h10.up,⟨p4,c4,h11.up,h12.up' l λ_ _ h=>LnG.up h⟩,h13.up⟩
def reF(d:RgD)(e:Int)(q:Nat):Int:=if e=0 then atL d.at' q else 0
theorem aaw{u:UnD}{fn:Int}{v:Value}{w:World}{r:Gh}{K:Value→World→Prop}(hr:Holds r w)(hu:UnG r v u)
  (h0:isU u fn (-1)=false→∀w',Ext w w'→K (.tuple #[.pointer none,.int .i64 2]) w')
  (h1:isU u fn (-1)=true→∀(g:GrD)(s:Gh) b vs p0 cap0 vf vo vt vn vp vl va (pl:Option Addr) (cl:Nat) w',u.fs[fn.toNat]? = some g→Above w s→vs.length=(lnsI g (reF (zN (zF u fn (-1))).1 (zN (zF u fn (-1))).2) g.pts.length).length→
   GrG r [.string g.name,.int .i64 g.lv,vo,.int .i64 g.pn,vt,vn,vp] g→UnG r (.agg #[.slice p0 u.ss.length cap0,vf,.int .i64 u.mn]) u→
   StX noX w (r.or s) w' (.cell b (lkL u g (zN (zF u fn (-1))).1 (zN (zF u fn (-1))).2 p0 cap0 vf vo vt vn vp vl va (.slice pl (lnsI g (reF (zN (zF u fn (-1))).1 (zN (zF u fn (-1))).2) g.pts.length).length cl)) 155 ::
    .row (.slice pl (lnsI g (reF (zN (zF u fn (-1))).1 (zN (zF u fn (-1))).2) g.pts.length).length cl) 82 5 (lnsI g (reF (zN (zF u fn (-1))).1 (zN (zF u fn (-1))).2) g.pts.length).length (k8 vs (lnsI g (reF (zN (zF u fn (-1))).1 (zN (zF u fn (-1))).2) g.pts.length)) ::
    qN vs (lnsI g (reF (zN (zF u fn (-1))).1 (zN (zF u fn (-1))).2) g.pts.length))→K (.tuple #[.pointer (some ⟨b,0,none⟩),.int .i64 0]) w'):zc Tryz.prog Tryz.yV #[v,.int .i64 fn] w K:=by
 refine Tryz.afg ?_
 unfold Tryz.abP
 have hu0:=hu
 obtain⟨p0,cap0,vf,rfl,_,_,hst,hsl,hfn⟩:=hu
 obtain⟨qf,capf,rfl,_,_⟩:=hfn.sl.shape
 have hfl:u.fs.length≤9223372036854775807:=hfn.few
 have S:=St.start hr
 refine S.box λb2 w1 S=>?_
 have S:StX noX w r w1 [.cell b2 [.slice p0 u.ss.length cap0,.slice qf u.fs.length capf,.int .i64 u.mn] 25]:=S
 refine gp_ ?_
 refine zn (c:=decide (fn≥(u.fs.length:Int))) (λ_ K2 hK2=>by refine gg_ ?_;exact hK2) ?_
 refine c_b (λhb=>?_) (λhb=>?_)
 ·refine h0 ?_ _ S.ext
  simp only[Bool.or_eq_true,gdt]at hb
  rw[isU]
  rcases hb with hb|hb
  ·rw[decide_eq_false (by omega)];rfl
  ·rw[decide_eq_false (show¬fn<(u.fs.length:Int)by omega),Bool.and_false,Bool.false_and]
 simp only[Bool.or_eq_false_iff,decide_eq_false_iff_not]at hb
 have hlt:fn.toNat<u.fs.length:=by omega
 refine S.ldB (b:=b2) ?_ rfl
 refine adX S.holds hu0 λv3 s w4 e4 n4 hd=>?_
 obtain⟨S,_,a4⟩:=S.tell e4 n4
 have hE2:isU u fn (-1)=false→(zN (zF u fn (-1))).2=2:=λh=>by rw[zF,h];rfl
 have hE0:isU u fn (-1)=true→(zN (zF u fn (-1))).2≠2:=λh=>by
  obtain⟨_,_,_,_,hA⟩:=kk h
  rw[hA,zN,if_pos rfl]
  split
  ·show(5:Int)≠2;decide
  ·show(0:Int)≠2;decide
 have hEd:isU u fn (-1)=true→(zN (zF u fn (-1))).2=0→(zN (zF u fn (-1))).1.at'.length=u.fs[fn.toNat].pts.length:=λh h2=>by
  obtain⟨_,_,_,_,hA⟩:=kk h
  obtain⟨_,h3,_⟩:=ajg h2
  rw[h3,hA]
  exact(Z2).2
 have hMy:isU u fn (-1)=true→MayU u:=λh=>(kk h).1
 generalize (zN (zF u fn (-1))).2=e at h1 hE2 hE0 hEd⊢
 generalize (zN (zF u fn (-1))).1=d at hd h1 hEd
 obtain⟨q1,c1,q2,c2,rfl,g1,g2⟩:=hd.shape
 refine gS_ ?_
 refine S.al λb6 w5 S=>?_
 refine S.stB (b:=b6) λw6 S=>?_
 refine gp_ ?_
 refine zj (λh2=>?_) (λh2=>?_)
 ·have hn:isU u fn (-1)=false:=by
   cases hi:isU u fn (-1)with
   |false=>rfl
   |true=>exact absurd h2 (hE0 hi)
  rw[h2]
  exact h0 hn _ S.ext
 have hy:isU u fn (-1)=true:=by
  cases hi:isU u fn (-1)with
  |true=>rfl
  |false=>exact absurd (hE2 hi) h2
 have hM:=hMy hy
 have hH:=hM.hd hlt
 have hpt:=hM.pts _ (gem hlt)
 have hEd:=hEd hy
 have h1:=h1 hy u.fs[fn.toNat]
 clear h0 hE2 hE0 hMy
 have hgi:u.fs[fn.toNat]? = some u.fs[fn.toNat]:=gqg hlt
 obtain⟨bf,of,cf,hqE,hcf,hgc,hfo⟩:=hfn.sl.get (by decide) hlt
 have hp24:=hH.pt1024
 generalize u.fs[fn.toNat]=g at hgc hH hEd h1 hgi hp24 hpt
 have hgc0:=hgc
 obtain⟨vo,vt,vn,vp,rfl,m1,m2,m3,m4⟩:=hgc
 obtain⟨qo,capo,rfl,_,_⟩:=m1.sl.shape
 obtain⟨qt,capt,rfl,_,_⟩:=m2.sl.shape
 obtain⟨qn,capn,rfl,_,_⟩:=m3.sl.shape
 obtain⟨qp,capp,rfl,_,_⟩:=m4.sl.shape
 have S:=S.go (Ext.drew _)
 have S:StX noX w (r.or s) _ [.cell b6 (rgL d.lv d.pt d.ct (.slice q1 d.tys.length c1) (.slice q2 d.at'.length c2)) 74,.cell b2 [.slice p0 u.ss.length cap0,.slice qf u.fs.length capf,.int .i64 u.mn] 25]:=S
 refine S.ldB (b:=b2) ?_ rfl
 subst hqE
 refine gg_ ?_
 refine zq (n:=7) hcf (λj v hj=>by simpa using S.at ((hfo j v hj).up (s:=r.or s))) ?_
 refine S.ldB (b:=b6) ?_ rfl
 refine zo (cs:=(lkL u g d e p0 cap0 (.slice (some ⟨bf,of,none⟩) u.fs.length capf) (.slice qo g.outs.length capo) (.slice qt g.tys.length capt) (.slice qn g.nms.length capn) (.slice qp g.pts.length capp) (.slice q1 d.tys.length c1) (.slice q2 d.at'.length c2) (.slice none 0 0)).toArray) (by kernel_rfl) ?_
 refine S.box λb39 w7 S=>?_
 have S:=S.ownNil 82 5
 generalize hf:reF d e=f at h1
 have S:StX noX w (r.or s) w7 (.row (.slice none 0 0) 82 5 (lnsI g f 0).length (k8 [] (lnsI g f 0))::.cell b39 (lkL u g d e p0 cap0 (.slice (some ⟨bf,of,none⟩) u.fs.length capf) (.slice qo g.outs.length capo) (.slice qt g.tys.length capt) (.slice qn g.nms.length capn) (.slice qp g.pts.length capp) (.slice q1 d.tys.length c1) (.slice q2 d.at'.length c2) (.slice none 0 0)) 155::.cell b6 (rgL d.lv d.pt d.ct (.slice q1 d.tys.length c1) (.slice q2 d.at'.length c2)) 74::.cell b2 [.slice p0 u.ss.length cap0,.slice (some ⟨bf,of,none⟩) u.fs.length capf,.int .i64 u.mn] 25::qN [] (lnsI g f 0)):=S
 refine gg_ ?_
 refine zk (ι:=Nat) (λi=>[.int .i64 (i:Nat)]) (λi w'=>i≤g.pts.length∧∃vs pl cl,vs.length=(lnsI g f i).length∧StX noX w (r.or s) w' (.row (.slice pl (lnsI g f i).length cl) 82 5 (lnsI g f i).length (k8 vs (lnsI g f i))::.cell b39 (lkL u g d e p0 cap0 (.slice (some ⟨bf,of,none⟩) u.fs.length capf) (.slice qo g.outs.length capo) (.slice qt g.tys.length capt) (.slice qn g.nms.length capn) (.slice qp g.pts.length capp) (.slice q1 d.tys.length c1) (.slice q2 d.at'.length c2) (.slice pl (lnsI g f i).length cl)) 155::.cell b6 (rgL d.lv d.pt d.ct (.slice q1 d.tys.length c1) (.slice q2 d.at'.length c2)) 74::.cell b2 [.slice p0 u.ss.length cap0,.slice (some ⟨bf,of,none⟩) u.fs.length capf,.int .i64 u.mn] 25::qN vs (lnsI g f i))) (λi=>g.pts.length-i) 0 rfl ⟨gzl _,[],none,0,rfl,S⟩ ?_
 repeat clear S
 rintro i dd w8 ⟨hi,vs,pl,cl,hvl,S⟩ K4 hK4
 rw[gdz]
 refine gp_ ?_
 refine zj (λhlti=>?_) (λhgei=>?_)
 ·have hlti:i<g.pts.length:=by omega
  have hfew:=k9 (g:=g) (f:=f) (i:=i)
  obtain⟨bp,op,cp,hpE,hcp,hpg,hpo⟩:=m4.sl.get (by decide) hlti
  obtain⟨x1,x2,x3,x4,x5,y1,y2,y3,y4,y5,rfl,hpg0⟩:=j6 hpg
  have hp:=hpt _ (gem hlti)
  have hnx:lnsI g f (i+1)=lnsI g f i++(if g.pts[i].op=4 then [⟨(i:Int),g.pts[i].fr,g.pts[i].mu,f i⟩]else []):=by
   rw[abQ,abe,gqg hlti]
  generalize g.pts[i]=p at hcp hpg0 hpo hp hnx
  obtain⟨kto,ka,kb,kargs,kfr⟩:=XO hpg0
  generalize lnsI g f i=ls at S hvl hfew hnx
  have join:∃R:World→Prop,(∀w',R w'↔∃vs pl cl,vs.length=(lnsI g f (i+1)).length∧StX noX w (r.or s) w' (.row (.slice pl (lnsI g f (i+1)).length cl) 82 5 (lnsI g f (i+1)).length (k8 vs (lnsI g f (i+1)))::.cell b39 (lkL u g d e p0 cap0 (.slice (some ⟨bf,of,none⟩) u.fs.length capf) (.slice qo g.outs.length capo) (.slice qt g.tys.length capt) (.slice qn g.nms.length capn) (.slice qp g.pts.length capp) (.slice q1 d.tys.length c1) (.slice q2 d.at'.length c2) (.slice pl (lnsI g f (i+1)).length cl)) 155::.cell b6 (rgL d.lv d.pt d.ct (.slice q1 d.tys.length c1) (.slice q2 d.at'.length c2)) 74::.cell b2 [.slice p0 u.ss.length cap0,.slice (some ⟨bf,of,none⟩) u.fs.length capf,.int .i64 u.mn] 25::qN vs (lnsI g f (i+1)))):=⟨_,λ_=>Iff.rfl⟩
  obtain⟨R,hR⟩:=join
  refine zi (λy w'=>y=[]∧R w') (λK3 hK3=>?_) ?_
  ·rw[hpE]
   refine gg_ ?_
   refine zq (n:=21) hcp (λj v hj=>by rw[tnc];exact S.at ((hpo j v hj).up (s:=r.or s))) ?_
   refine S.al λb10 w9 S=>?_
   refine S.stB (b:=b10) λw10 S=>?_
   refine gg_ ?_
   refine zj (λho=>?_) (λho=>?_)
   ·have h8:p.fr.ps.length≤8:=by
     have k3:=(agp (a:=0) hM hH hp ho (by decide)).2.2.1
     unfold zs at k3
     split at k3
     ·simpa using k3
     ·cases k3
    rw[if_pos ho]at hnx
    have S:StX noX w (r.or s) w10 (.cell b10 (ptL p x1 x2 x3 x4 x5 y1 y2 y3 y4 y5) 96::.row (.slice pl ls.length cl) 82 5 (ls).length (k8 vs (ls))::.cell b39 (lkL u g d e p0 cap0 (.slice (some ⟨bf,of,none⟩) u.fs.length capf) (.slice qo g.outs.length capo) (.slice qt g.tys.length capt) (.slice qn g.nms.length capn) (.slice qp g.pts.length capp) (.slice q1 d.tys.length c1) (.slice q2 d.at'.length c2) (.slice pl ls.length cl)) 155::.cell b6 (rgL d.lv d.pt d.ct (.slice q1 d.tys.length c1) (.slice q2 d.at'.length c2)) 74::.cell b2 [.slice p0 u.ss.length cap0,.slice (some ⟨bf,of,none⟩) u.fs.length capf,.int .i64 u.mn] 25::qN vs (ls)):=S
    refine zi (λy w'=>∃b11 vp,y=[.pointer (some ⟨b11,0,none⟩)]∧StX noX w (r.or s) w' (.cell b11 [.int .i64 (i:Nat),.int .i64 p.fr.l,vp,.bool p.mu,.int .i64 0] 82::.row vp 84 1 p.fr.ps.length (ints p.fr.ps)::.row (.slice pl ls.length cl) 82 5 (ls).length (k8 vs (ls))::.cell b39 (lkL u g d e p0 cap0 (.slice (some ⟨bf,of,none⟩) u.fs.length capf) (.slice qo g.outs.length capo) (.slice qt g.tys.length capt) (.slice qn g.nms.length capn) (.slice qp g.pts.length capp) (.slice q1 d.tys.length c1) (.slice q2 d.at'.length c2) (.slice pl ls.length cl)) 155::.cell b6 (rgL d.lv d.pt d.ct (.slice q1 d.tys.length c1) (.slice q2 d.at'.length c2)) 74::.cell b2 [.slice p0 u.ss.length cap0,.slice (some ⟨bf,of,none⟩) u.fs.length capf,.int .i64 u.mn] 25::qN vs (ls))) (λK5 hK5=>?_) ?_
    ·have S:=S.go (Ext.drew _)
     refine gg_ ?_
     refine S.ldN (b:=b10) (vs:=[.int .i64 p.fr.l,.slice x5 p.fr.ps.length y5]) ?_
     refine gg_ ?_
     refine⟨?_,?_⟩
     ·refine YP S.holds kfr.up (by omega) λvp w11 e11 h11=>⟨e11,?_⟩
      have S:=S.take e11 h11
      obtain⟨qv,cv,rfl,_⟩:=S.rowS vp
      refine zo (cs:=#[.int .i64 (i:Nat),.int .i64 p.fr.l,.slice qv p.fr.ps.length cv,.bool p.mu,.int .i64 0]) (by kernel_rfl) ?_
      refine S.alU λb11 w12 S=>?_
      refine S.stB (b:=b11) λw13 S=>?_
      exact hK5 _ _ ⟨b11,_,rfl,S.less (λ_ _ h=>h) (.cons_cons _ (.cons_cons _ (.cons _ (List.Sublist.refl _))))⟩
     ·refine S.alU λb11 w12 S=>?_
      refine YP S.holds kfr.up (by omega) λvp w11 e11 h11=>⟨e11,?_⟩
      have S:=S.take e11 h11
      obtain⟨qv,cv,rfl,_⟩:=S.rowS vp
      refine zo (cs:=#[.int .i64 (i:Nat),.int .i64 p.fr.l,.slice qv p.fr.ps.length cv,.bool p.mu,.int .i64 0]) (by kernel_rfl) ?_
      refine S.stB (b:=b11) λw13 S=>?_
      exact hK5 _ _ ⟨b11,_,rfl,(S.permO (.swap _ _ _)).less (λ_ _ h=>h) (.cons_cons _ (.cons_cons _ (.cons _ (List.Sublist.refl _))))⟩
    ·repeat clear S
     rintro _ w11 ⟨b11,vp,rfl,S⟩ dd
     rw[gdz]
     refine zi (λy w'=>y=[]∧StX noX w (r.or s) w' (.cell b11 (lnC vp ⟨(i:Int),p.fr,p.mu,f i⟩) 82::.row vp 84 1 p.fr.ps.length (ints p.fr.ps)::.row (.slice pl ls.length cl) 82 5 (ls).length (k8 vs (ls))::.cell b39 (lkL u g d e p0 cap0 (.slice (some ⟨bf,of,none⟩) u.fs.length capf) (.slice qo g.outs.length capo) (.slice qt g.tys.length capt) (.slice qn g.nms.length capn) (.slice qp g.pts.length capp) (.slice q1 d.tys.length c1) (.slice q2 d.at'.length c2) (.slice pl ls.length cl)) 155::.cell b6 (rgL d.lv d.pt d.ct (.slice q1 d.tys.length c1) (.slice q2 d.at'.length c2)) 74::.cell b2 [.slice p0 u.ss.length cap0,.slice (some ⟨bf,of,none⟩) u.fs.length capf,.int .i64 u.mn] 25::qN vs (ls))) (λK5 hK5=>?_) ?_
     ·refine gp_ ?_
      refine zj (λhe=>?_) (λhe=>?_)
      ·have hil:i<d.at'.length:=by rw[hEd he];exact hlti
       obtain⟨ba,oa,hpa,_,hca⟩:=xR g2 hil
       have hfi:f i=d.at'[i]:=by rw[← hf,reF,if_pos he,atL,tnc,ggd,gqg hil,Option.getD_some]
       rw[hfi]at hK5
       rw[hpa]at S
       refine gg_ ?_
       refine zf (by rw[tnc];exact S.at (hca.up (s:=r.or s))) ?_
       refine gp_ ?_
       refine S.st (b:=b11) (λw12 S=>?_) (by simp)
       refine hK5 _ _ ⟨rfl,?_⟩
       rw[hpa]
       exact S
      ·have hfi:f i=0:=by rw[← hf,reF,if_neg he]
       rw[hfi]at hK5
       exact hK5 _ _ ⟨rfl,S⟩
     ·repeat clear S
      rintro _ w12 ⟨rfl,S⟩ dd
      have S:=S.go (Ext.drew _)
      have S:StX noX w (r.or s) _ (.cell b11 (lnC vp ⟨(i:Int),p.fr,p.mu,f i⟩) 82::.row vp 84 1 p.fr.ps.length (ints p.fr.ps)::.row (.slice pl ls.length cl) 82 5 (ls).length (k8 vs (ls))::.cell b39 (lkL u g d e p0 cap0 (.slice (some ⟨bf,of,none⟩) u.fs.length capf) (.slice qo g.outs.length capo) (.slice qt g.tys.length capt) (.slice qn g.nms.length capn) (.slice qp g.pts.length capp) (.slice q1 d.tys.length c1) (.slice q2 d.at'.length c2) (.slice pl ls.length cl)) 155::.cell b6 (rgL d.lv d.pt d.ct (.slice q1 d.tys.length c1) (.slice q2 d.at'.length c2)) 74::.cell b2 [.slice p0 u.ss.length cap0,.slice (some ⟨bf,of,none⟩) u.fs.length capf,.int .i64 u.mn] 25::qN vs (ls)):=S
      obtain⟨qv,cv,rfl,_⟩:=S.rowS vp
      refine gg_ ?_
      refine S.litU (e:=82) (cs:=lnC (.slice qv p.fr.ps.length cv) ⟨(i:Int),p.fr,p.mu,f i⟩) (by kernel_rfl) λb12 w13 S=>?_
      refine S.ap (v:=.slice pl ls.length cl) (m':=1) (Sl.blk (S.blk b12)) (λv14 w14 S=>?_) (by omega)
      obtain⟨p14,c14,rfl,_⟩:=S.rowS v14
      refine gg_ ?_
      refine S.st (b:=b39) (λw15 S=>?_) (by simp)
      refine hK3 _ _ ⟨rfl,(hR _).2 ⟨vs++[.slice qv p.fr.ps.length cv],p14,c14,?_,?_⟩⟩
      ·rw[hnx,gla,gla,hvl];rfl
      ·rw[hnx,agt hvl,agu hvl,gla,gls]
       have S:=S.tl.tl
       refine S.permO ?_
       exact List.perm_append_singleton _ (_::_::_::_::qN vs ls)
   ·rw[if_neg ho,List.append_nil]at hnx
    refine hK3 _ _ ⟨rfl,(hR _).2 ⟨vs,pl,cl,by rw[hnx];exact hvl,?_⟩⟩
    rw[hnx]
    exact S.tl
  ·repeat clear S
   rintro _ w9 ⟨rfl,hRw⟩ dd
   obtain⟨vs,pl,cl,hvl,S⟩:=(hR _).1 hRw
   refine gp_ ?_
   exact hK4 (i+1) _ ⟨hlti,vs,pl,cl,hvl,S⟩ (by omega)
 ·obtain rfl:i=g.pts.length:=by omega
  subst hf
  refine h1 s b39 vs p0 cap0 (.slice (some ⟨bf,of,none⟩) u.fs.length capf) (.slice qo g.outs.length capo) (.slice qt g.tys.length capt) (.slice qn g.nms.length capn) (.slice qp g.pts.length capp) (.slice q1 d.tys.length c1) (.slice q2 d.at'.length c2) pl cl w8 hgi a4 hvl hgc0 hu0 ?_
  exact(S.permO (.swap _ _ _)).less (λ_ _ h=>h) (.cons_cons _ (.cons_cons _ (.cons _ (.cons _ (List.Sublist.refl _)))))
noncomputable def lkE(u:UnD)(fn:Int):Int:=(zN (zF u fn (-1))).2
noncomputable def lkR(u:UnD)(fn:Int):RgD:=(zN (zF u fn (-1))).1
noncomputable def lkS(u:UnD)(fn:Int)(g:GrD):List LnD:=lnsI g (reF (lkR u fn) (lkE u fn)) g.pts.length
theorem agv{u:UnD}{fn:Int}{g:GrD}{r:Gh}{c:List Value}(hg:GrG r c g)(hM:MayU u){k:Nat}(hH:HeadU u k g)(hpt:∀p∈g.pts,zG u g p=true):∀x∈lkS u fn g,(∀y∈x.pl.ps,YK y)∧x.pl.ps.length≤8:=λx hx=>by
 obtain⟨q,p,_,hp,ho,rfl⟩:=XT hx
 have hlt:=(List.getElem?_eq_some_iff.1 hp).1
 have hpe:=(List.getElem?_eq_some_iff.1 hp).2
 obtain⟨vo,vt,vn,vp,rfl,m1,m2,m3,m4⟩:=hg
 obtain⟨qp,capp,rfl,_,_⟩:=m4.sl.shape
 obtain⟨bp,op,cp,hpE,hcp,hpg,hpo⟩:=m4.sl.get (by decide) hlt
 rw[hpe]at hpg
 obtain⟨x1,x2,x3,x4,x5,y1,y2,y3,y4,y5,rfl,hpg0⟩:=j6 hpg
 obtain⟨kto,ka,kb,kargs,kfr⟩:=XO hpg0
 obtain⟨_,hE,hst⟩:=kfr
 cases hE
 refine⟨ags hst,?_⟩
 have k3:=(agp (a:=0) hM hH (hpt p (hpe▸gem hlt)) ho (by decide)).2.2.1
 unfold zs at k3
 split at k3
 ·simpa using k3
 ·cases k3
theorem qc{u:UnD}{fn:Int}{v:Value}{w:World}{r:Gh}{K:Value→World→Prop}(hr:Holds r w)(hu:UnG r v u)
  (h0:isU u fn (-1)=false→∀w',Ext w w'→K (.tuple #[.pointer none,.int .i64 2]) w')
  (h1:isU u fn (-1)=true→∀g b s w',u.fs[fn.toNat]? = some g→Ext w w'→New w s w'→LkG2 (r.or s) b u g (lkR u fn) (lkE u fn) (lkS u fn g)→K (.tuple #[.pointer (some ⟨b,0,none⟩),.int .i64 0]) w'):zc Tryz.prog Tryz.yV #[v,.int .i64 fn] w K:=by
 refine aaw hr hu h0 λhi g s b vs p0 cap0 vf vo vt vn vp vl va pl cl w' hg ha hvl hgr hun S=>?_
 obtain⟨hM,hf0,hlt,_,_⟩:=kk hi
 have hge:u.fs[fn.toNat]=g:=(List.getElem?_eq_some_iff.1 hg).2
 have hH:=hM.hd hlt
 have hpt:=hM.pts _ (gem hlt)
 rw[hge]at hH hpt
 have hin:=agv (fn:=fn) hgr hM hH hpt
 have h1:=h1 hi g
 change ∀x∈lnsI g (reF (zN (zF u fn (-1))).1 (zN (zF u fn (-1))).2) g.pts.length,_ at hin
 unfold lkR lkE lkS at h1
 unfold lkR lkE at h1
 generalize (zN (zF u fn (-1))).1=d at *
 generalize (zN (zF u fn (-1))).2=e at *
 generalize lnsI g (reF d e) g.pts.length=ls at S hin hvl h1
 have S:StX noX w (r.or s) w' (qN vs ls++[.cell b (lkL u g d e p0 cap0 vf vo vt vn vp vl va (.slice pl ls.length cl)) 155,.row (.slice pl ls.length cl) 82 5 ls.length (k8 vs ls)]):=S.permO (List.perm_append_comm (l₂:=[_,_]))
 obtain⟨s1,S,hs1,a1⟩:=Vz hvl (λx hx=>⟨(hin x hx).1,by have:=(hin x hx).2;omega⟩) S
 obtain⟨s2,S,hs2,_,a2⟩:=(S.permO (.swap _ _ _)).doneRow (l:=ls) (R:=LnG s1) (sz:=5) (Vy hvl λi k1 k2=>⟨_,rfl,hs1 i k1 k2⟩) (by decide) rfl
 obtain⟨S,a3⟩:=StX.frzNew S b
 have T:StX noX w (r.or (((s.or s1).or s2).or (Go.Sh.one b (lkL u g d e p0 cap0 vf vo vt vn vp vl va (.slice pl ls.length cl)) 155))) w' []:=
  S.less (λb o h=>Or.elim h (λh=>.inl (.inl (.inl (.inl h)))) λh=>Or.elim h (λh=>Or.elim h (λh=>Or.elim h (λh=>.inl (.inl (.inl (.inr h)))) λh=>.inl (.inl (.inr h))) λh=>.inl (.inr h)) .inr) (List.Sublist.refl _)
 refine h1 b _ w' hg T.ext (StX.newOf (q:=(((s.or s1).or s2).or (Go.Sh.one b (lkL u g d e p0 cap0 vf vo vt vn vp vl va (.slice pl ls.length cl)) 155))) T ?_) ?_
 ·exact((ha.or' λb o ho=>(a1 b o ho).resolve_right id).or' λb o ho=>(a2 b o ho).resolve_right id).or' a3
 ·generalize hq:(((s.or s1).or s2).or (Go.Sh.one b (lkL u g d e p0 cap0 vf vo vt vn vp vl va (.slice pl ls.length cl)) 155))=q
  have l1:Le s1 q:=by rw[← hq];infer_instance
  have l2:Le s2 q:=by rw[← hq];infer_instance
  have l3:Le (Go.Sh.one b (lkL u g d e p0 cap0 vf vo vt vn vp vl va (.slice pl ls.length cl)) 155) q:=by rw[← hq];infer_instance
  have lq:Le q (r.or q):=inferInstance
  have l3:Le (Go.Sh.one b (lkL u g d e p0 cap0 vf vo vt vn vp vl va (.slice pl ls.length cl)) 155) (r.or q):=⟨λb o h=>lq.le b o (l3.le b o h)⟩
  have l1:Le s1 (r.or q):=⟨λb o h=>lq.le b o (l1.le b o h)⟩
  have l2:Le s2 (r.or q):=⟨λb o h=>lq.le b o (l2.le b o h)⟩
  have hgr:GrG (r.or q) _ g:=GrG.up hgr
  have hun:UnG (r.or q) _ u:=UnG.up hun
  obtain⟨po,co,vf',hE,_,_,hst,_,hfn⟩:=hun
  cases hE
  obtain⟨vo',vt',vn',vp',hE2,m1,m2,m3,m4⟩:=hgr
  cases hE2
  obtain⟨qf,capf,rfl,_,_⟩:=hfn.sl.shape
  obtain⟨qt,capt,rfl,_,_⟩:=m2.sl.shape
  obtain⟨qp,capp,rfl,_,_⟩:=m4.sl.shape
  refine⟨⟨p0,cap0,?_,hst⟩,⟨qf,capf,?_,hfn⟩,?_,⟨qt,capt,?_,m2⟩,⟨qp,capp,?_,m4⟩,?_,⟨pl,cl,?_,hs2.up' l2 λc x hx=>LnG.up hx⟩,?_⟩ <;>
   exact xd (c:=lkL u g d e p0 cap0 (.slice qf u.fs.length capf) vo (.slice qt g.tys.length capt) vn (.slice qp g.pts.length capp) vl va (.slice pl ls.length cl)) (T:=155) rfl
section
variable {u:UnD} {g:GrD} {d:RgD} {e:Int} {ls:List LnD} {b:Nat} {w:World} {r:Gh} {K:Value→World→Prop}
theorem yY{y:Bool}(hr:Holds r w)(hL:LkG2 r b u g d e ls)(h:K (.int .i64 (if y=true then e else 2)) w):zc Tryz.prog Tryz.zW #[.pointer (some ⟨b,0,none⟩),.bool y] w K:=by
 refine Tryz.QY ?_
 unfold Tryz.Zk
 cases y with
 |false=>
  refine gp_ ?_
  exact h
 |true=>
  refine gp_ ?_
  refine c_f rfl ?_
  refine n_some ?_
  refine gp_ ?_
  refine zf (hL.er w hr) ?_
  exact h
theorem Z9{q:Int}(hr:Holds r w)(hL:LkG2 r b u g d e ls)(h:K (.bool (decide (0≤q)&&decide (q<(g.pts.length:Int)))) w):zc Tryz.prog Tryz.xa #[.pointer (some ⟨b,0,none⟩),.int .i64 q] w K:=by
 refine Tryz.QZ ?_
 unfold Tryz.Zl
 obtain⟨p,cap,hc,hs⟩:=hL.pts
 have hf:=hs.few
 have hf2:g.pts.length≤9223372036854775807:=hf
 have S:=St.start hr
 refine gp_ ?_
 refine zh (c:=decide (q<(g.pts.length:Int))) (λ_ K2 hK2=>?_) h
 refine n_some ?_
 refine gg_ ?_
 refine zf (S.at hc) ?_
 refine gg_ ?_
 exact hK2
theorem JS{q:Int}(hr:Holds r w)(hL:LkG2 r b u g d e ls)(hf:ls.length≤1000000)(h:K (.bool (decide (0≤q)&&decide (q<(ls.length:Int)))) w):zc Tryz.prog Tryz.x8 #[.pointer (some ⟨b,0,none⟩),.int .i64 q] w K:=by
 refine Tryz.Jy ?_
 unfold Tryz.Z6
 obtain⟨p,cap,hc,hs⟩:=hL.lns
 have S:=St.start hr
 refine gp_ ?_
 refine zh (c:=decide (q<(ls.length:Int))) (λ_ K2 hK2=>?_) h
 refine n_some ?_
 refine gg_ ?_
 refine zf (S.at hc) ?_
 refine gg_ ?_
 exact hK2
theorem Xm{p:PtD}{c:List Value}(hr:Holds r w)(hp:PtG r c p)(h:∀w',Ext w w'→K (.bool (decide (1≤p.op)&&decide (p.op≤8))) w'):zc Tryz.prog Tryz.qk #[.agg c.toArray] w K:=by
 refine Tryz.aav ?_
 unfold Tryz.Xj
 obtain⟨x1,x2,x3,x4,x5,y1,y2,y3,y4,y5,rfl,hpg0⟩:=j6 hp
 have S:=St.start hr
 refine S.box λb1 w1 S=>?_
 have S:StX noX w r w1 [.cell b1 (ptL p x1 x2 x3 x4 x5 y1 y2 y3 y4 y5) 96]:=S
 refine gg_ ?_
 refine zh (c:=decide (p.op≤8)) (λ_ K2 hK2=>by refine gg_ ?_;exact hK2) ?_
 exact h _ S.ext
def jd(p:PtD)(x:LnD):Bool:=if p.op=11 then decide (p.fr.l=x.pl.l)else(decide (1≤p.op)&&decide (p.op≤8))&&ye p.to x.pl
theorem Ya{q:Int}{x:LnD}{c:List Value}(hr:Holds r w)(hL:LkG2 r b u g d e ls)(hx:LnG r c x)(hq0:0≤q)(hq:q.toNat<g.pts.length)(h:∀w',Ext w w'→K (.bool (jd g.pts[q.toNat] x)) w'):
  zc Tryz.prog Tryz.yE #[.pointer (some ⟨b,0,none⟩),.int .i64 q,.agg c.toArray] w K:=by
 refine Tryz.Q2 ?_
 unfold Tryz.Zn
 have hx0:=hx
 obtain⟨vx,rfl,hxs⟩:=hx
 obtain⟨qx,cx,rfl,_,_⟩:=hxs.sl.shape
 obtain⟨pp,cpp,hc,hs⟩:=hL.pts
 obtain⟨bp,op,cp,hpE,hcp,hpg,hpo⟩:=hs.sl.get (by decide) hq
 generalize g.pts[q.toNat]=p at hpg h
 obtain⟨x1,x2,x3,x4,x5,y1,y2,y3,y4,y5,rfl,hpg0⟩:=j6 hpg
 obtain⟨kto,ka,kb,kargs,kfr⟩:=XO hpg0
 have S:=St.start hr
 refine S.box λb5 w1 S=>?_
 have S:StX noX w r w1 [.cell b5 [.int .i64 x.q,.int .i64 x.pl.l,.slice qx x.pl.ps.length cx,.bool x.mu,.int .i64 x.re] 82]:=S
 refine n_some ?_
 refine gg_ ?_
 refine zf (S.at hc) ?_
 rw[hpE]
 refine gg_ ?_
 refine zq (n:=21) hcp (λj v hj=>S.at (hpo j v hj)) ?_
 refine S.al λb7 w2 S=>?_
 refine S.stB (b:=b7) λw3 S=>?_
 have S:StX noX w r w3 [.cell b7 (ptL p x1 x2 x3 x4 x5 y1 y2 y3 y4 y5) 96,.cell b5 [.int .i64 x.q,.int .i64 x.pl.l,.slice qx x.pl.ps.length cx,.bool x.mu,.int .i64 x.re] 82]:=S
 refine gg_ ?_
 refine zj (λho=>?_) (λho=>?_)
 ·refine gg_ ?_
  have:=h _ S.ext
  rwa[jd,if_pos ho]at this
 ·refine S.ldB (b:=b7) ?_ rfl
  refine Xm S.holds hpg0 λw4 e4=>?_
  have S:=S.go e4
  have hk:jd p x=((decide (1≤p.op)&&decide (p.op≤8))&&ye p.to x.pl):=by rw[jd,if_neg ho]
  rw[hk]at h
  refine c_b (λhy=>?_) (λhn=>?_)
  ·rw[hy,Bool.true_and]at h
   refine gg_ ?_
   refine S.ldN (b:=b7) (vs:=[.int .i64 p.to.l,.slice x1 p.to.ps.length y1]) ?_
   refine gg_ ?_
   refine S.ldN (b:=b5) (vs:=[.int .i64 x.pl.l,.slice qx x.pl.ps.length cx]) ?_
   refine xT S.holds kto (q:=x.pl) ⟨_,rfl,hxs⟩ λw5 e5=>?_
   exact h _ (S.go e5).ext
  ·have:=h _ S.ext
   rwa[hn,Bool.false_and]at this
end
end
end Go.Proofs
namespace Go.Proofs
open Go.Sh Go.RowKit Go.BM
section
section
variable {u:UnD} {g:GrD} {d:RgD} {e:Int} {ls:List LnD} {b:Nat} {w:World} {r:Gh} {K:Value→World→Prop}
noncomputable def ji(u:UnD)(g:GrD)(x:LnD)(a:AcD):Bool:=
 if(!a.wr && !x.mu)=true then false else if ye x.pl a.pl=true then true else if ye a.pl x.pl=true then
  (match g.tys[a.pl.l.toNat]? with|some t=>(yS u.ss [t] ⟨0,a.pl.ps⟩ ⟨0,x.pl.ps⟩ a.d).1|none=>false)
 else false
theorem Qe{x:LnD}{a:AcD}{c c':List Value}(hr:Holds r w)(hL:LkG2 r b u g d e ls)(hx:LnG r c x)(ha:AcG r c' a)(h0:0≤x.pl.l)(h1:x.pl.l.toNat<g.tys.length)(h:∀w',Ext w w'→K (.bool (ji u g x a)) w'):
  zc Tryz.prog Tryz.xz #[.pointer (some ⟨b,0,none⟩),.agg c.toArray,.agg c'.toArray] w K:=by
 refine Tryz.Qn ?_
 unfold Tryz.vN
 obtain⟨vx,rfl,hxs⟩:=hx
 obtain⟨qx,cx,rfl,_,_⟩:=hxs.sl.shape
 obtain⟨va,rfl,has⟩:=ha
 obtain⟨qa,ca,rfl,_,_⟩:=has.sl.shape
 obtain⟨p0,cap0,hss,hst⟩:=hL.ss
 obtain⟨qt,capt,hts,hty⟩:=hL.tys
 have hpx:PlG r [.int .i64 x.pl.l,.slice qx x.pl.ps.length cx] x.pl:=⟨_,rfl,hxs⟩
 have hpa:PlG r [.int .i64 a.pl.l,.slice qa a.pl.ps.length ca] a.pl:=⟨_,rfl,has⟩
 have S:=St.start hr
 refine S.box λb4 w1 S=>?_
 refine S.box λb5 w2 S=>?_
 have S:StX noX w r w2 [.cell b5 [.int .i64 a.pl.l,.slice qa a.pl.ps.length ca,.int .u8 a.d,.bool a.wr] 88,.cell b4 [.int .i64 x.q,.int .i64 x.pl.l,.slice qx x.pl.ps.length cx,.bool x.mu,.int .i64 x.re] 82]:=S
 refine gg_ ?_
 refine zh (c:=!x.mu) (λ_ K2 hK2=>by refine gg_ ?_;exact hK2) ?_
 refine c_b (λhb=>?_) (λhb=>?_)
 ·have:=h _ S.ext
  rwa[ji,if_pos hb]at this
 rw[ji,if_neg (by rw[hb];decide)]at h
 refine gg_ ?_
 refine S.ldN (b:=b4) (vs:=[.int .i64 x.pl.l,.slice qx x.pl.ps.length cx]) ?_
 refine gg_ ?_
 refine S.ldN (b:=b5) (vs:=[.int .i64 a.pl.l,.slice qa a.pl.ps.length ca]) ?_
 refine xT S.holds hpx hpa λw3 e3=>?_
 have S:=S.go e3
 refine c_b (λhp=>?_) (λhp=>?_)
 ·rw[if_pos hp]at h
  exact h _ S.ext
 rw[if_neg (by rw[hp];decide)]at h
 refine gg_ ?_
 refine S.ldN (b:=b5) (vs:=[.int .i64 a.pl.l,.slice qa a.pl.ps.length ca]) ?_
 refine gg_ ?_
 refine S.ldN (b:=b4) (vs:=[.int .i64 x.pl.l,.slice qx x.pl.ps.length cx]) ?_
 refine xT S.holds hpa hpx λw4 e4=>?_
 have S:=S.go e4
 refine gp_ ?_
 refine c_b (λhq=>?_) (λhq=>?_)
 ·rw[if_neg (by intro hh;rw[hh]at hq;cases hq)]at h
  exact h _ S.ext
 have hq:ye a.pl x.pl=true:=by cases hh:ye a.pl x.pl with|true=>rfl|false=>rw [hh]at hq;cases hq
 have hl:a.pl.l=x.pl.l:=by rw[ye]at hq;simp only[gba,gdt]at hq;exact hq.1
 have hlt:a.pl.l.toNat<g.tys.length:=by rw[hl];exact h1
 rw[if_pos hq,gqg hlt]at h
 have hg0:0≤a.pl.l:=by rw[hl];exact h0
 have htf:=hty.few
 have htf:g.tys.length≤9223372036854775807:=htf
 obtain⟨_,_,hE,_,hct⟩:=hty.sl.shape
 cases hE
 refine gg_ ?_
 have S:=S.go (Ext.drew _)
 refine zf (S.at hss) ?_
 refine gg_ ?_
 refine zf (S.at hts) ?_
 refine gg_ ?_
 have hlen:(a.pl.l+1).toNat-a.pl.l.toNat=[g.tys[a.pl.l.toNat]].length:=by show _=1;omega
 have hsub:=(ZB hty.sl).sub (a:=a.pl.l.toNat) (n:=1) (cap:=capt) hct
 rw[aet hlt]at hsub
 rw[hlen]
 generalize (if capt=a.pl.l.toNat then qt else qt.map (·.add (a.pl.l.toNat*5)))=qy at hsub⊢
 refine Xl (p:=⟨0,a.pl.ps⟩) (q:=⟨0,x.pl.ps⟩) (c:=[.int .i64 0,.slice qa a.pl.ps.length ca]) (c':=[.int .i64 0,.slice qx x.pl.ps.length cx]) S.holds hst hsub (by simp[maxLen]) ⟨_,rfl,has⟩ ⟨_,rfl,hxs⟩ λw5 e5=>?_
 refine gp_ ?_
 refine gp_ ?_
 exact h _ (S.go e5).ext
theorem qH{W:Int}{ws:List (BitVec 64)}{k:Int}{c:List Value}(hr:Holds r w)(hx:RwbC r c (W,ws))(hk:0≤k)(hk2:k<64*ws.length)(hl:ws.length≤100000)
  (h:∀w',Ext w w'→K (.bool (bit ws k.toNat)) w'):zc Tryz.prog Tryz.xB #[.agg c.toArray,.int .i64 k] w K:=by
 refine Tryz.aea ?_
 unfold Tryz.aau
 obtain⟨p,cap,rfl,hS⟩:=hx
 have hfew:ws.length≤9223372036854775807:=hS.few
 have S:=St.start hr
 refine S.box λb1 w1 S=>?_
 have S:StX noX w r w1 [.cell b1 [.int .i64 W,.slice p ws.length cap] 48]:=S
 have hlt:k.toNat/64<ws.length:=by omega
 obtain⟨b2,o2,rfl,_,hc⟩:=Xh hS.sl hlt
 have hB:bit ws k.toNat=decide (((ws[k.toNat/64] >>> (k.toNat%64)) &&& BitVec.ofInt 64 1).toNat=(1:Int)):=by
  rw[bit,ggd,gqg hlt,Option.getD_some,Bool.eq_iff_iff,gdt,ad0]
 rw[hB]at h
 generalize ws[k.toNat/64]=x at hc h
 refine gg_ ?_
 refine zf (by rw[show (k/64).toNat=k.toNat/64 by omega];exact S.at hc) ?_
 refine gg_ ?_
 rw[show (k%64).toNat=k.toNat%64 by omega]
 exact h _ S.ext
theorem YQ{q:Int}(hr:Holds r w)(hL:LkG2 r b u g d e ls)(hq0:0≤q)(hq:q.toNat<g.pts.length)(h:∀v' w',Ext w w'→w'.ownsRow w.heap.size 3 1 v' (nextP g.pts[q.toNat]).length (ints (nextP g.pts[q.toNat]))→K v' w'):
  zc Tryz.prog Tryz.xj #[.pointer (some ⟨b,0,none⟩),.int .i64 q] w K:=by
 refine Tryz.JA ?_
 unfold Tryz.Z8
 obtain⟨pp,cpp,hc,hs⟩:=hL.pts
 obtain⟨bp,op,cp,hpE,hcp,hpg,hpo⟩:=hs.sl.get (by decide) hq
 generalize g.pts[q.toNat]=p at hpg h
 obtain⟨x1,x2,x3,x4,x5,y1,y2,y3,y4,y5,rfl,hpg0⟩:=j6 hpg
 have S:=St.start hr
 refine n_some ?_
 refine gg_ ?_
 refine zf (S.at hc) ?_
 rw[hpE]
 refine gg_ ?_
 refine zq (n:=21) hcp (λj v hj=>S.at (hpo j v hj)) ?_
 refine S.al λb5 w2 S=>?_
 refine S.stB (b:=b5) λw3 S=>?_
 have S:StX noX w r w3 [.cell b5 (ptL p x1 x2 x3 x4 x5 y1 y2 y3 y4 y5) 96]:=S
 refine gg_ ?_
 refine zj (λh14=>?_) (λh14=>?_)
 ·have hnp:nextP p=[]:=by rw[nextP,if_pos h14]
  have S:=(S.drop b5).ownNil 3 1
  rw[hnp]at h
  exact h _ _ S.ext (S.give (.slice none 0 0))
 ·refine gg_ ?_
  refine zh (c:=decide (p.el≠p.nx)) (λ_ K2 hK2=>by refine gg_ ?_;exact hK2) ?_
  refine c_b (λhc=>?_) (λhc=>?_)
  ·simp only[gba,gdt]at hc
   have hnp:nextP p=[p.nx,p.el]:=by rw[nextP,if_neg h14,if_pos ⟨hc.1,λe=>hc.2 e.symm⟩]
   refine gg_ ?_
   refine S.lit (e:=3) (cs:=[.int .i64 p.nx,.int .i64 p.el]) (by kernel_rfl) λb9 w9 S=>?_
   have S:=(S.drop b5).toRow 2 1 rfl (by decide)
   rw[hnp]at h
   exact h _ _ S.ext (S.give (.slice (some ⟨b9,0,none⟩) 2 2))
  ·have hnp:nextP p=[p.nx]:=by
    simp only[Bool.and_eq_false_iff,decide_eq_false_iff_not]at hc
    rw[nextP,if_neg h14,if_neg (by rintro⟨h1,h2⟩;rcases hc with hc|hc;exact hc h1;exact hc λe=>h2 e.symm)]
   refine gg_ ?_
   refine S.lit (e:=3) (cs:=[.int .i64 p.nx]) (by kernel_rfl) λb9 w9 S=>?_
   have S:=(S.drop b5).toRow 1 1 rfl (by decide)
   rw[hnp]at h
   exact h _ _ S.ext (S.give (.slice (some ⟨b9,0,none⟩) 1 1))
end
end
end Go.Proofs
namespace Go.Proofs
open Go.Sh Go.RowKit
section
def jj(o:OpD):List AcD:=if Vr o=true then [⟨o.pl,3,decide (o.k=4)⟩]else []
def XU(n:Nat):List AcD:=(List.range n).map λi:Nat=>⟨⟨(i:Int)+1,[]⟩,2,true⟩
def qd(g:GrD)(p:PtD):List AcD:=
 if p.op=4 then [⟨p.fr,3,p.mu⟩]else if p.op=10∨p.op=11 then [⟨p.fr,2,true⟩]else if p.op=14 then⟨⟨0,[]⟩,3,true⟩::XU (g.tys.length-1)else []
noncomputable def YR(u:UnD)(g:GrD)(p:PtD):List AcD:=if adq p=true then [⟨p.to,if (xm u.ss (kZ u.ss g.tys p.to)).1=true then 2 else 1,true⟩]else []
noncomputable def jk(u:UnD)(g:GrD)(p:PtD):List AcD:=(p.a::p.b::p.args).flatMap jj++qd g p++YR u g p
structure LkH(g:GrD)(p:PtD):Prop where
 args:p.args.length≤1000
 ops:∀o∈p.a::p.b::p.args,Vr o=true→o.pl.ps.length≤1000000
 fr:p.op=4∨p.op=10∨p.op=11→p.fr.ps.length≤1000000
 ret:p.op=14→1≤g.tys.length
 tys:g.tys.length≤900000
 to':adq p=true→0≤p.to.l∧p.to.l.toNat<g.tys.length∧p.to.ps.length≤1000000
theorem VA{l:List OpD}:(l.flatMap jj).length≤l.length:=by
 induction l with
 |nil=>exact Nat.le_refl _
 |cons a l ih=>
  rw[List.flatMap_cons,gla,List.length_cons,jj]
  split
  ·rw[gls];omega
  ·rw[List.length_nil];omega
theorem VB{n:Nat}:(XU n).length=n:=by simp[XU]
theorem agw{n:Nat}:XU (n+1)=XU n++[⟨⟨(n:Int)+1,[]⟩,2,true⟩]:=by rw[XU,XU,List.range_succ,List.map_append];rfl
def LkJ(w0:World)(r:Gh)(b:Nat)(M:List Asr)(l:List AcD)(w:World):Prop:=
 ∃s v cs,Above w0 s∧RowOf 4 (AcG s) cs l∧StX noX w0 (r.or s) w (.cell b [v] 69::.row v 88 4 l.length cs::M)
abbrev akj(b:Nat):Value:=.func (.func Tryz.jT) #[] #[.pointer (some ⟨b,0,none⟩)]
theorem kH{w0 w:World}{r:Gh}{b:Nat}{M:List Asr}{l:List AcD}{a:AcD}{c:List Value}{K:Value→World→Prop}(hJ:LkJ w0 r b M l w)(hp:PlG r c a.pl)(hb:a.pl.ps.length≤1000000)(hl:l.length≤999999)
  (h:∀w',LkJ w0 r b M (l++[a]) w'→K (.tuple #[]) w'):zy Tryz.prog (akj b) #[.agg c.toArray,.int .u8 a.d,.bool a.wr] w K:=by
 refine ajY (by kernel_rfl) ?_
 refine Tryz.XQ ?_
 unfold Tryz.jW
 obtain⟨s,v,cs,ha,hR,S⟩:=hJ
 obtain⟨vp,rfl,hps⟩:=hp
 obtain⟨qa,ca,rfl,_,_⟩:=hps.sl.shape
 have hin:=ags hps
 refine S.box λb4 w1 S=>?_
 have S:=S.go (Ext.drew _)
 have S:StX noX w0 (r.or s) _ (.cell b4 [.int .i64 a.pl.l,.slice qa a.pl.ps.length ca] 80::.cell b [v] 69::.row v 88 4 l.length cs::M):=S
 refine S.ld (b:=b) ?_
 refine S.ldB (b:=b4) ?_ rfl
 refine YP S.holds ⟨_,rfl,hps.up' inferInstance λ_ _ h=>h⟩ hb λv3 w2 e2 h2=>⟨e2,?_⟩
 have S:=S.take e2 h2
 obtain⟨q3,c3,rfl,_⟩:=S.rowS v3
 obtain⟨s1,S,h1,_,a1⟩:=StX.doneRow (l:=a.pl.ps) (R:=xo) (sz:=1) S (abH hin) (by decide) rfl
 have a1:Above w0 s1:=λb o ho=>(a1 b o ho).resolve_right id
 have S:=S.reGh
 have h1:SlB 1 s1 xo (.slice q3 a.pl.ps.length c3) a.pl.ps:=SlB.cells ⟨h1,by rw[maxLen];omega⟩
 refine zo (cs:=#[.int .i64 a.pl.l,.slice q3 a.pl.ps.length c3,.int .u8 a.d,.bool a.wr]) (by kernel_rfl) ?_
 refine S.litU (e:=88) (cs:=[.int .i64 a.pl.l,.slice q3 a.pl.ps.length c3,.int .u8 a.d,.bool a.wr]) (by kernel_rfl) λb5 w3 S=>?_
 refine S.ap (v:=v) (m':=1) (Sl.blk (S.blk b5)) (λv4 w4 S=>?_) (by omega)
 refine S.st (b:=b) (λw5 S=>?_) (by simp) (S.row1 v4)
 refine h _ ⟨s.or s1,v4,cs++[.int .i64 a.pl.l,.slice q3 a.pl.ps.length c3,.int .u8 a.d,.bool a.wr],ha.or' a1,(hR.mono λc x h=>AcG.up h).snoc rfl ⟨_,rfl,h1.up' inferInstance λ_ _ h=>h⟩,?_⟩
 have S:=(S.drop b5).drop b4
 rw[gla,gls]
 exact S
theorem ajp{x a b:Asr}{M:List Asr}:(a::b::x::M).Perm (x::a::b::M):=(List.Perm.cons _ (.swap _ _ _)).trans (.swap _ _ _)
theorem LkJ.tl{w0 w:World}{r:Gh}{b:Nat}{M:List Asr}{x:Asr}{l:List AcD}(h:LkJ w0 r b (x::M) l w):LkJ w0 r b M l w:=by
 obtain⟨s,v,cs,ha,hR,S⟩:=h
 exact⟨s,v,cs,ha,hR,S.less (λb o h=>h) (.cons_cons _ (.cons_cons _ (List.sublist_cons_self _ _)))⟩
theorem LkJ.hold{w0 w:World}{r:Gh}{b:Nat}{M:List Asr}{l:List AcD}(h:LkJ w0 r b M l w):Holds r w:=by
 obtain⟨s,v,cs,ha,hR,S⟩:=h
 exact S.holds.le
theorem Q4{u:UnD}{g:GrD}{d:RgD}{e:Int}{ls:List LnD}{b:Nat}{p:PtD}{q:Int}{w:World}{r:Gh}{K:Value→World→Prop}(hr:Holds r w)(hL:LkG2 r b u g d e ls)(hq0:0≤q)(hq:q.toNat<g.pts.length)(hpe:g.pts[q.toNat]=p)(hH:LkH g p)
  (h:∀v' s w',Ext w w'→New w s w'→SlG 4 s (AcG s) v' (jk u g p)→K v' w'):zc Tryz.prog Tryz.xJ #[.pointer (some ⟨b,0,none⟩),.int .i64 q] w K:=by
 refine Tryz.Q0 ?_
 unfold Tryz.Zm
 obtain⟨pp,cpp,hc,hs⟩:=hL.pts
 obtain⟨p0,cap0,hss,hst⟩:=hL.ss
 obtain⟨qt,capt,hts,hty⟩:=hL.tys
 obtain⟨bp,op,cp,hpE,hcp,hpg,hpo⟩:=hs.sl.get (by decide) hq
 rw[hpe]at hpg
 obtain⟨z1,z2,z3,z4,z5,t1,t2,t3,t4,t5,rfl,hp0⟩:=j6 hpg
 obtain⟨kto,ka,kb,kl,kf⟩:=XO hp0
 have S:=St.start hr
 refine gg_ ?_
 refine zf (S.at hc) ?_
 rw[hpE]
 refine gg_ ?_
 refine zq (n:=21) hcp (λj v hj=>S.at (hpo j v hj)) ?_
 refine S.al λb5 w1 S=>?_
 refine S.stB (b:=b5) λw2 S=>?_
 refine S.al λb6 w3 S=>?_
 have S:StX noX w r w3 [.cell b6 [.slice none 0 0] 69,.cell b5 (ptL p z1 z2 z3 z4 z5 t1 t2 t3 t4 t5) 96]:=S
 refine gg_ ?_
 refine S.ldN (b:=b5) (vs:=[.int .u8 p.a.k,.int .i64 p.a.n,.int .i64 p.a.pl.l,.slice z2 p.a.pl.ps.length t2]) ?_
 refine gg_ ?_
 refine S.ldN (b:=b5) (vs:=[.int .u8 p.b.k,.int .i64 p.b.n,.int .i64 p.b.pl.l,.slice z3 p.b.pl.ps.length t3]) ?_
 refine S.lit (e:=93) (cs:=[.int .u8 p.a.k,.int .i64 p.a.n,.int .i64 p.a.pl.l,.slice z2 p.a.pl.ps.length t2,.int .u8 p.b.k,.int .i64 p.b.n,.int .i64 p.b.pl.l,.slice z3 p.b.pl.ps.length t3]) (by kernel_rfl) λb7 w4 S=>?_
 have S:=S.toRow 2 4 rfl (by decide)
 refine gg_ ?_
 obtain⟨xs,hxr,hxs⟩:=aim (by decide) kl.sl
 obtain⟨_,_,hE,hq4,_⟩:=kl.sl.shape
 cases hE
 have hargs:=hH.args
 refine S.ap (v:=.slice (some ⟨b7,0,none⟩) 2 2) (S.at hxs) (λv24 w5 S=>?_) (by omega) hxr.1 hq4 (ae3 hxr (by decide) λc x hx=>ain hx)
 have hrow:RowOf 4 (OpG r) ([.int .u8 p.a.k,.int .i64 p.a.n,.int .i64 p.a.pl.l,.slice z2 p.a.pl.ps.length t2,.int .u8 p.b.k,.int .i64 p.b.n,.int .i64 p.b.pl.l,.slice z3 p.b.pl.ps.length t3]++xs) (p.a::p.b::p.args):=
  RowOf.app (l:=[p.a,p.b]) (yq (c:=[.int .u8 p.a.k,.int .i64 p.a.n,.int .i64 p.a.pl.l,.slice z2 p.a.pl.ps.length t2]) rfl ka (yG rfl kb)) hxr
 obtain⟨s5,T,hs5,_,ha5⟩:=S.doneRow hrow (by decide) (by simp;omega)
 repeat clear S
 have ha5:Above w s5:=λb o ho=>(ha5 b o ho).resolve_right id
 obtain⟨q5,c5,rfl,_,_⟩:=hs5.shape
 have hs5:SlG 4 (r.or s5) (OpG (r.or s5)) (.slice q5 (p.a::p.b::p.args).length c5) (p.a::p.b::p.args):=hs5.up' inferInstance λ_ _ h=>OpG.up h
 have hol:(p.a::p.b::p.args).length≤1002:=by simp;omega
 have hin:=hH.ops
 have hJ:LkJ w (r.or s5) b6 [.cell b5 (ptL p z1 z2 z3 z4 z5 t1 t2 t3 t4 t5) 96] [] w5:=by
  refine⟨nothing,.slice none 0 0,[],Above.no,RowOf.nil,?_⟩
  have T:=T.ownNil 88 4
  have T:=T.permO (.swap _ _ _)
  exact T.less (λb o h=>Or.elim h id λh=>h.elim) (List.Sublist.refl _)
 clear T
 have hLL:jk u g p=(p.a::p.b::p.args).flatMap jj++qd g p++YR u g p:=rfl
 rw[hLL]at h
 clear hLL hrow hxr hxs
 generalize p.a::p.b::p.args=ops at hs5 hol hin h
 refine gg_ ?_
 refine zk (ι:=Nat) (λi=>[.int .i64 (i:Nat)]) (λi w'=>i≤ops.length∧LkJ w (r.or s5) b6 [.cell b5 (ptL p z1 z2 z3 z4 z5 t1 t2 t3 t4 t5) 96] ((ops.take i).flatMap jj) w') (λi=>ops.length-i) 0 rfl ⟨gzl _,hJ⟩ ?_
 clear hJ
 rintro i d w6 ⟨hi,hJ⟩ K6 hK6
 simp only[gdz]
 refine gg_ ?_
 refine zj (λhlti=>?_) (λhge=>?_)
 ·have hlti:i<ops.length:=by omega
  obtain⟨bo,oo,co,hqo,hcl,hoc,hoo⟩:=hs5.get (by decide) hlti
  have hnx:(ops.take (i+1)).flatMap jj=(ops.take i).flatMap jj++jj ops[i]:=by rw[List.take_succ_eq_append_getElem hlti,List.flatMap_append,List.flatMap_singleton]
  have hino:=hin ops[i] (gem hlti)
  have hfew:=VA (l:=ops.take i)
  rw[List.length_take]at hfew
  generalize ops[i]=o at hoc hnx hino
  obtain⟨qo,ko,rfl⟩:=aes hoc
  obtain⟨_,hE,hops⟩:=hoc
  cases hE
  cases hqo
  refine zi (λx w'=>LkJ w (r.or s5) b6 [.cell b5 (ptL p z1 z2 z3 z4 z5 t1 t2 t3 t4 t5) 96] ((ops.take (i+1)).flatMap jj) w') (λK10 hK10=>?_) ?_
  ·obtain⟨s,v,cs,ha,hR,S⟩:=hJ
   refine gg_ ?_
   refine zq (n:=4) rfl (λj v hj=>by rw[tnc];exact S.at (Ob.up (s:=(r.or s5).or s) (hoo j v hj))) ?_
   refine S.al λb9 w7 S=>?_
   refine S.stB (b:=b9) λw8 S=>?_
   have S:StX noX w ((r.or s5).or s) w8 (.cell b9 [.int .u8 o.k,.int .i64 o.n,.int .i64 o.pl.l,.slice qo o.pl.ps.length ko] 93::.cell b6 [v] 69::.row v 88 4 ((ops.take i).flatMap jj).length cs::[.cell b5 (ptL p z1 z2 z3 z4 z5 t1 t2 t3 t4 t5) 96]):=S
   refine gg_ ?_
   refine zn (c:=decide (o.k=4)) (λ_ K2 hK2=>by refine gg_ ?_;exact hK2) ?_
   refine c_b (λhb=>?_) (λhb=>?_)
   ·have hb:Vr o=true:=hb
    refine gg_ ?_
    refine S.ldN (b:=b9) (vs:=[.int .i64 o.pl.l,.slice qo o.pl.ps.length ko]) ?_
    refine gg_ ?_
    have J:LkJ w (r.or s5) b6 (.cell b9 [.int .u8 o.k,.int .i64 o.n,.int .i64 o.pl.l,.slice qo o.pl.ps.length ko] 93::[.cell b5 (ptL p z1 z2 z3 z4 z5 t1 t2 t3 t4 t5) 96]) ((ops.take i).flatMap jj) w8:=⟨s,v,cs,ha,hR,S.permO ajp⟩
    refine kH (a:=⟨o.pl,3,decide (o.k=4)⟩) J ⟨_,rfl,hops⟩ (hino hb) (by omega) λw9 J=>?_
    refine hK10 _ _ ?_
    rw[hnx,jj,if_pos hb]
    exact J.tl
   ·have hb:Vr o=false:=hb
    refine hK10 _ _ ?_
    rw[hnx,jj,if_neg (by rw[hb];decide),List.append_nil]
    exact⟨s,v,cs,ha,hR,S.tl⟩
  ·clear hJ
   rintro _ w10 J d
   refine gg_ ?_
   exact hK6 (i+1) _ ⟨hlti,J⟩ (by omega)
 have hie:i=ops.length:=by omega
 subst hie
 clear hK6 K6 hge hi d
 rw[List.take_length]at hJ
 have hA:(ops.flatMap jj).length≤1002:=Nat.le_trans VA hol
 generalize ops.flatMap jj=A at hJ hA h
 clear hs5 hin hol
 have hfr:PlG (r.or s5) [.int .i64 p.fr.l,.slice z5 p.fr.ps.length t5] p.fr:=kf.up
 have hto:PlG (r.or s5) [.int .i64 p.to.l,.slice z1 p.to.ps.length t1] p.to:=kto.up
 have hno:PlG (r.or s5) [.int .i64 0,.slice none 0 0] ⟨0,[]⟩:=⟨_,rfl,SlG.nil,gzl _⟩
 have htl:=hH.tys
 refine zi (λx w'=>LkJ w (r.or s5) b6 [.cell b5 (ptL p z1 z2 z3 z4 z5 t1 t2 t3 t4 t5) 96] (A++qd g p) w') (λK21 hK21=>?_) ?_
 ·obtain⟨s,v,cs,ha,hR,S⟩:=id hJ
  refine gg_ ?_
  refine zj (λh4=>?_) (λh4=>?_)
  ·have hsw:qd g p=[⟨p.fr,3,p.mu⟩]:=by rw[qd,if_pos h4]
   rw[hsw]at hK21
   refine gg_ ?_
   refine S.ldN (b:=b5) (vs:=[.int .i64 p.fr.l,.slice z5 p.fr.ps.length t5]) ?_
   refine gg_ ?_
   refine kH (a:=⟨p.fr,3,p.mu⟩) hJ hfr (hH.fr (.inl h4)) (by omega) λw9 J=>?_
   exact hK21 _ _ J
  refine gg_ ?_
  refine zi (λx w'=>x=[.bool (decide (p.op=10)||decide (p.op=11))]∧w'=w6) (λK26 hK26=>?_) ?_
  ·refine gg_ ?_
   refine zj (λh10=>?_) (λh10=>?_)
   ·refine hK26 _ _ ⟨?_,rfl⟩
    rw[gde h10];rfl
   ·refine gg_ ?_
    refine hK26 _ _ ⟨?_,rfl⟩
    rw[decide_eq_false h10];rfl
  rintro _ _ ⟨rfl,rfl⟩ d
  rw[gdz]
  refine c_b (λh1=>?_) (λh1=>?_)
  ·have h1:p.op=10∨p.op=11:=by simpa using h1
   have hsw:qd g p=[⟨p.fr,2,true⟩]:=by rw[qd,if_neg h4,if_pos h1]
   rw[hsw]at hK21
   refine gg_ ?_
   refine S.ldN (b:=b5) (vs:=[.int .i64 p.fr.l,.slice z5 p.fr.ps.length t5]) ?_
   refine gg_ ?_
   refine kH (a:=⟨p.fr,2,true⟩) hJ hfr (hH.fr (.inr h1)) (by omega) λw9 J=>?_
   exact hK21 _ _ J
  have h1:¬(p.op=10∨p.op=11):=by simpa using h1
  refine gg_ ?_
  refine zj (λh14=>?_) (λh14=>?_)
  ·have hsw:qd g p=⟨⟨0,[]⟩,3,true⟩::XU (g.tys.length-1):=by rw[qd,if_neg h4,if_neg h1,if_pos h14]
   rw[hsw]at hK21
   have hty1:=hH.ret h14
   refine gg_ ?_
   refine kH (a:=⟨⟨0,[]⟩,3,true⟩) hJ hno (by decide) (by omega) λw9 J=>?_
   refine gg_ ?_
   refine zf (hts.up (s:=r.or s5) _ J.hold) ?_
   have hct:g.tys.length≤capt:=by obtain⟨_,_,hE,_,hct⟩:=hty.sl.shape;cases hE;exact hct
   refine gg_ ?_
   refine zk (ι:=Nat) (λi=>[.int .i64 (i:Nat)]) (λi w'=>i≤g.tys.length-1∧LkJ w (r.or s5) b6 [.cell b5 (ptL p z1 z2 z3 z4 z5 t1 t2 t3 t4 t5) 96] (A++(⟨⟨0,[]⟩,3,true⟩::XU i)) w') (λi=>g.tys.length-1-i) 0 rfl ⟨gzl _,J⟩ ?_
   clear J hJ S
   rintro i d2 w10 ⟨hi,J⟩ K5 hK5
   simp only[gdz]
   refine gg_ ?_
   refine zj (λhlti=>?_) (λhge=>?_)
   ·have hlti:i<g.tys.length-1:=by omega
    refine gg_ ?_
    have hli:=VB (n:=i)
    refine kH (a:=⟨⟨(i:Int)+1,[]⟩,2,true⟩) J ⟨_,rfl,SlG.nil,gzl _⟩ (gzl _) (by rw[gla,List.length_cons];omega) λw11 J=>?_
    refine gg_ ?_
    refine hK5 (i+1) _ ⟨hlti,?_⟩ (by omega)
    rw[agw]
    simpa only[List.append_assoc,List.cons_append]using J
   ·have hie:i=g.tys.length-1:=by omega
    rw[hie]at J
    exact hK21 _ _ J
  ·have hsw:qd g p=[]:=by rw[qd,if_neg h4,if_neg h1,if_neg h14]
   rw[hsw,List.append_nil]at hK21
   exact hK21 _ _ hJ
 clear hJ
 rintro _ w7 J d
 have hsl:(qd g p).length≤900000:=by
  rw[qd]
  split
  ·simp
  ·split
   ·simp
   ·split
    ·rw[List.length_cons,VB];omega
    ·simp
 have hB:(A++qd g p).length≤901002:=by rw[gla];omega
 generalize A++qd g p=B at J hB h
 clear hno hfr hA
 refine zi (λx w'=>LkJ w (r.or s5) b6 [.cell b5 (ptL p z1 z2 z3 z4 z5 t1 t2 t3 t4 t5) 96] (B++YR u g p) w') (λK37 hK37=>?_) ?_
 ·have hp5:PtG (r.or s5) (ptL p z1 z2 z3 z4 z5 t1 t2 t3 t4 t5) p:=PtG.up hp0
  obtain⟨s,v,cs,ha,hR,S⟩:=J
  refine S.ldB (b:=b5) ?_ rfl
  refine Xm (S.holds.le (h:=inferInstance)) hp5 λw8 e8=>?_
  have S:=S.go e8
  have hag:(decide (1≤p.op)&&decide (p.op≤8))=adq p:=rfl
  rw[hag]
  refine c_b (λhy=>?_) (λhn=>?_)
  ·obtain⟨g0,g1,g2⟩:=hH.to' hy
   have hT:kZ u.ss g.tys p.to=(yj u.ss [g.tys[p.to.l.toNat]] ⟨0,p.to.ps⟩).1:=by rw[kZ,ggd,gqg g1];rfl
   have hasA:YR u g p=[⟨p.to,if (xm u.ss (kZ u.ss g.tys p.to)).1=true then 2 else 1,true⟩]:=by rw[YR,if_pos hy]
   rw[hasA]at hK37
   rw[hT]at hK37
   have S:=S.go (Ext.drew _)
   have hp2:PlG ((r.or s5).or s) [.int .i64 0,.slice z1 p.to.ps.length t1] ⟨0,p.to.ps⟩:=by
    obtain⟨_,hE,hl⟩:=hto
    cases hE
    exact⟨_,rfl,hl.up' inferInstance λ_ _ h=>h⟩
   have hct:g.tys.length≤capt:=by obtain⟨_,_,hE,_,hct⟩:=hty.sl.shape;cases hE;exact hct
   have hsub:=(ZB hty.sl).sub (a:=p.to.l.toNat) (n:=1) (cap:=capt) hct
   rw[aet g1]at hsub
   refine zi (λx w'=>∃bt p' cap' sT,x=[.pointer (some ⟨bt,0,none⟩)]∧TyG sT (tyV (yj u.ss [g.tys[p.to.l.toNat]] ⟨0,p.to.ps⟩).1 p' cap') (yj u.ss [g.tys[p.to.l.toNat]] ⟨0,p.to.ps⟩).1∧Above w s∧
    StX noX w (((r.or s5).or s).or sT) w' (.cell bt (tyL (yj u.ss [g.tys[p.to.l.toNat]] ⟨0,p.to.ps⟩).1 p' cap') 43::.cell b6 [v] 69::.row v 88 4 B.length cs::[.cell b5 (ptL p z1 z2 z3 z4 z5 t1 t2 t3 t4 t5) 96])) (λK42 hK42=>?_) ?_
   ·refine gg_ ?_
    refine zf (S.at (hss.up (s:=(r.or s5).or s))) ?_
    refine gg_ ?_
    refine zf (S.at (hts.up (s:=(r.or s5).or s))) ?_
    refine gg_ ?_
    have hlen:(p.to.l+1).toNat-p.to.l.toNat=[g.tys[p.to.l.toNat]].length:=by show _=1;omega
    rw[hlen]
    generalize (if capt=p.to.l.toNat then qt else qt.map (·.add (p.to.l.toNat*5)))=qx at hsub⊢
    have hst2:StG ((r.or s5).or s) p0 u.ss:=RepS.up (RepS.up (s:=r.or s5) hst)
    have hsub2:TysG ((r.or s5).or s) qx [g.tys[p.to.l.toNat]]:=TysG.up (TysG.up (t:=r.or s5) hsub)
    refine⟨?_,?_⟩
    ·refine QR (p:=⟨0,p.to.ps⟩) S.holds hst2 hsub2 (by simp[maxLen]) hp2 λv' sn w9 e9 n9 ht _=>?_
     obtain⟨S,_,hab⟩:=S.tell e9 n9
     have ht0:=ht
     obtain⟨p',cap',rfl,_⟩:=ht
     refine gS_ ?_
     refine S.alU λbt w10 S=>?_
     refine S.stB (b:=bt) λw11 S=>?_
     exact hK42 _ _ ⟨bt,p',cap',sn,rfl,ht0,ha,S⟩
    ·refine S.alU λbt w10 S=>?_
     refine QR (p:=⟨0,p.to.ps⟩) S.holds hst2 hsub2 (by simp[maxLen]) hp2 λv' sn w9 e9 n9 ht _=>?_
     obtain⟨S,_,hab⟩:=S.tell e9 n9
     have ht0:=ht
     obtain⟨p',cap',rfl,_⟩:=ht
     refine gS_ ?_
     refine S.stB (b:=bt) λw11 S=>?_
     exact hK42 _ _ ⟨bt,p',cap',sn,rfl,ht0,ha,S⟩
   ·clear S
    rintro _ w12 ⟨bt,p',cap',sT,rfl,ht,ha,S⟩ d
    generalize (yj u.ss [g.tys[p.to.l.toNat]] ⟨0,p.to.ps⟩).1=T at ht S hK37
    rw[gdz]
    refine zi (λx w'=>x=[.int .u8 (if(xm u.ss T).1=true then 2 else 1)]∧StX noX w (((r.or s5).or s).or sT) w' (.cell bt (tyL T p' cap') 43::.cell b6 [v] 69::.row v 88 4 B.length cs::[.cell b5 (ptL p z1 z2 z3 z4 z5 t1 t2 t3 t4 t5) 96])) (λK56 hK56=>?_) ?_
    ·have S:=S.go (Ext.drew _)
     refine gg_ ?_
     refine zf (S.at (hss.up (s:=((r.or s5).or s).or sT))) ?_
     refine S.ldB (b:=bt) ?_ rfl
     have hst2:StG (((r.or s5).or s).or sT) p0 u.ss:=RepS.up (RepS.up (s:=(r.or s5).or s) (RepS.up (s:=r.or s5) hst))
     refine X7 S.holds hst2 (TyG.up ht) λw13 e13=>?_
     have S:=S.go e13
     refine gp_ ?_
     refine gp_ ?_
     refine c_b (λhb=>?_) (λhb=>?_)
     ·refine hK56 _ _ ⟨?_,S⟩
      rw[if_pos hb]
     ·refine hK56 _ _ ⟨?_,S⟩
      rw[if_neg (by rw[hb];decide)]
    ·clear S
     rintro _ w14 ⟨rfl,S⟩ d
     rw[gdz]
     refine gg_ ?_
     refine S.ldN (b:=b5) (vs:=[.int .i64 p.to.l,.slice z1 p.to.ps.length t1]) ?_
     have J:LkJ w ((r.or s5).or sT) b6 (.cell bt (tyL T p' cap') 43::[.cell b5 (ptL p z1 z2 z3 z4 z5 t1 t2 t3 t4 t5) 96]) B w14:=by
      refine⟨s,v,cs,ha,hR,(S.permO ajp).less (λb o h=>Or.elim h (λh=>Or.elim h (λh=>.inl (.inl h)) .inr) λh=>.inl (.inr h)) (List.Sublist.refl _)⟩
     refine kH (a:=⟨p.to,if (xm u.ss T).1=true then 2 else 1,true⟩) J (hto.up (s:=(r.or s5).or sT)) g2 (by omega) λw15 J=>?_
     refine hK37 _ _ ?_
     obtain⟨s2,v2,cs2,ha2,hR2,S2⟩:=J.tl
     exact⟨s2,v2,cs2,ha2,hR2,S2.less (λb o h=>Or.elim h (λh=>.inl (.inl h)) .inr) (List.Sublist.refl _)⟩
  ·refine hK37 _ _ ?_
   rw[YR,if_neg (by rw[hn];decide),List.append_nil]
   exact⟨s,v,cs,ha,hR,S⟩
 ·clear J
  rintro _ w9 ⟨s,v,cs,ha,hR,S⟩ d
  refine S.ld (b:=b6) ?_
  have S:=S.permO (.swap _ _ _)
  obtain⟨s9,S,hs9,_,a9⟩:=S.doneRow hR (by decide) rfl
  have a9:Above w s9:=λb o ho=>(a9 b o ho).resolve_right id
  have T:StX noX w (r.or ((s5.or s).or s9)) w9 []:=S.less (λb o h=>Or.elim h (λh=>.inl (.inl (.inl h))) λh=>Or.elim h (λh=>Or.elim h (λh=>.inl (.inl (.inr h))) λh=>.inl (.inr h)) .inr) (List.nil_sublist _)
  exact h v ((s5.or s).or s9) w9 T.ext (StX.newOf T ((ha5.or' ha).or' a9)) (hs9.up' inferInstance λ_ _ h=>AcG.up h)
theorem agx{u:UnD}{g:GrD}{k:Nat}{p:PtD}(hM:MayU u)(hH:HeadU u k g)(hp:zG u g p=true):LkH g p:=by
 have h5:=hH.ty512
 refine⟨ahg hM hp,λo ho h1=>?_,λho=>?_,λ_=>?_,by omega,λha=>?_⟩
 ·have hk:o.k=3∨o.k=4:=by rw[Vr,Bool.or_eq_true,gdt,gdt]at h1;exact h1
  have hg:=af9 hp o (by
   rw[adl,List.mem_filter,ae4,gdt]
   exact⟨ho,by omega⟩)
  have:=jM (aiv hg h1).1
  omega
 ·have:=jM (Vt hp ho)
  omega
 ·have h1:=hH.pn0;have h2:=hH.pn1
  omega
 ·rw[adq,gba,gdt,gdt]at ha
  have h0:=ahe hp ha
  have h1:=afe hM hH h0
  have h2:=jM h0
  exact⟨h1.l0,by rw[← (Z2 (u:=u)).1];exact h1.l1,by omega⟩
noncomputable def yz(u:UnD)(fn:Int)(ok:Bool):Int:=if isU u fn (-1)=true∧ok=true then lkE u fn else 2
theorem ajq{u:UnD}{fn:Int}(h:isU u fn (-1)=false):lkE u fn=2:=by
 rw[lkE,ajf h];rfl
structure IsF(u:UnD)(fn:Int)(g:GrD):Prop where
 is:isU u fn (-1)=true
 may:MayU u
 at':u.fs[fn.toNat]? = some g
 fn0:0≤fn
 head:HeadU u fn.toNat g
 pts:∀p∈g.pts,zG u g p=true
theorem isF{u:UnD}{fn:Int}{g:GrD}(hi:isU u fn (-1)=true)(hg:u.fs[fn.toNat]? = some g):IsF u fn g:=by
 obtain⟨hM,hf0,hlt,_,_⟩:=kk hi
 have hge:u.fs[fn.toNat]=g:=(List.getElem?_eq_some_iff.1 hg).2
 have hH:=hM.hd hlt
 have hpt:=hM.pts _ (gem hlt)
 rw[hge]at hH hpt
 exact⟨hi,hM,hg,hf0,hH,hpt⟩
section
variable {u:UnD} {fn q:Int} {v:Value} {w:World} {r:Gh} {K:Value→World→Prop}
noncomputable def km(u:UnD)(fn q:Int):Bool:=match u.fs[fn.toNat]? with
 |some g=>decide (0≤q)&&decide (q<(g.pts.length:Int))
 |none=>false
theorem adx(hr:Holds r w)(hu:UnG r v u)
  (h0:yz u fn (km u fn q)≠0→∀w',Ext w w'→K (.tuple #[.slice none 0 0,.int .i64 (yz u fn (km u fn q))]) w')
  (h1:yz u fn (km u fn q)=0→∀g p v' s w',IsF u fn g→0≤q→g.pts[q.toNat]? = some p→Ext w w'→New w s w'→SlG 4 s (AcG s) v' (jk u g p)→K (.tuple #[v',.int .i64 0]) w'):zc Tryz.prog Tryz.ZM #[v,.int .i64 fn,.int .i64 q] w K:=by
 refine Tryz.acd ?_
 unfold Tryz.QW
 obtain⟨p0,cap0,vf,rfl,b1,b2,b3,b4,b5⟩:=id hu
 have S:=St.start hr
 refine S.box λb3 w1 S=>?_
 have S:StX noX w r w1 [.cell b3 [.slice p0 u.ss.length cap0,vf,.int .i64 u.mn] 25]:=S
 refine S.ldB (b:=b3) ?_ rfl
 refine qc S.holds hu (λhi w2 e2=>?_) λhi g b s w2 hg e2 n2 hL=>?_
 ·have S:=S.go e2
  refine gp_ ?_
  refine gp_ ?_
  have hE:yz u fn (km u fn q)=2:=by rw[yz,if_neg (by rw[hi];simp)]
  rw[hE]at h0
  refine zi (λx w'=>x=[.int .i64 2]∧w'=w2) (λK3 hK3=>?_) ?_
  ·refine gp_ ?_
   refine c_f rfl ?_
   exact hK3 _ _ ⟨rfl,rfl⟩
  rintro _ _ ⟨rfl,rfl⟩ d
  rw[gdz]
  refine gp_ ?_
  refine c_t rfl ?_
  exact h0 (by decide) _ S.ext
 ·obtain⟨S,_,ha⟩:=S.tell e2 n2
  have F:=isF hi hg
  have hP:km u fn q=(decide (0≤q)&&decide (q<(g.pts.length:Int))):=by rw[km,hg]
  refine gp_ ?_
  refine gp_ ?_
  refine zi (λx w'=>x=[.int .i64 (yz u fn (km u fn q))]∧w'=w2) (λK3 hK3=>?_) ?_
  ·refine gp_ ?_
   refine c_t rfl ?_
   refine Z9 S.holds hL ?_
   refine yY S.holds hL ?_
   refine hK3 _ _ ⟨?_,rfl⟩
   rw[yz,hP,hi]
   simp only[true_and]
  rintro _ _ ⟨rfl,rfl⟩ d
  rw[gdz]
  refine gp_ ?_
  refine zj (λhne=>?_) (λhe=>?_)
  ·exact h0 hne _ S.ext
  ·have he:yz u fn (km u fn q)=0:=by omega
   have hq:0≤q∧q.toNat<g.pts.length:=by
    cases hh:km u fn q with
    |false=>rw [hh,yz,if_neg (by simp)]at he;cases he
    |true=>rw [hP,gba,gdt,gdt]at hh;omega
   have hpm:=F.pts _ (gem hq.2)
   refine Q4 S.holds hL hq.1 hq.2 rfl (agx F.may F.head hpm) λv' s2 w4 e4 n4 hs=>?_
   obtain⟨S,_,ha4⟩:=S.tell e4 n4
   rw[he]
   exact h1 he g g.pts[q.toNat] v' s2 w4 F hq.1 (gqg hq.2) S.ext (StX.newOf S ha4) hs
theorem ady(hr:Holds r w)(hu:UnG r v u)
  (h0:yz u fn (km u fn q)≠0→∀w',Ext w w'→K (.tuple #[.slice none 0 0,.int .i64 (yz u fn (km u fn q))]) w')
  (h1:yz u fn (km u fn q)=0→∀g p v' s w',IsF u fn g→0≤q→g.pts[q.toNat]? = some p→Ext w w'→New w s w'→SlG 1 s xn v' (mkd ((lkS u fn g).map (jd p)))→K (.tuple #[v',.int .i64 0]) w'):zc Tryz.prog Tryz.ZN #[v,.int .i64 fn,.int .i64 q] w K:=by
 refine Tryz.ace ?_
 unfold Tryz.QX
 obtain⟨p0,cap0,vf,rfl,b1,b2,b3,b4,b5⟩:=id hu
 have S:=St.start hr
 refine S.box λb3 w1 S=>?_
 have S:StX noX w r w1 [.cell b3 [.slice p0 u.ss.length cap0,vf,.int .i64 u.mn] 25]:=S
 refine S.ldB (b:=b3) ?_ rfl
 refine qc S.holds hu (λhi w2 e2=>?_) λhi g b s w2 hg e2 n2 hL=>?_
 ·have S:=S.go e2
  refine gp_ ?_
  refine gp_ ?_
  have hE:yz u fn (km u fn q)=2:=by rw[yz,if_neg (by rw[hi];simp)]
  rw[hE]at h0
  refine zi (λx w'=>x=[.int .i64 2]∧w'=w2) (λK3 hK3=>?_) ?_
  ·refine gp_ ?_
   refine c_f rfl ?_
   exact hK3 _ _ ⟨rfl,rfl⟩
  rintro _ _ ⟨rfl,rfl⟩ d
  rw[gdz]
  refine gp_ ?_
  refine c_t rfl ?_
  exact h0 (by decide) _ S.ext
 ·obtain⟨S,_,ha⟩:=S.tell e2 n2
  have F:=isF hi hg
  have hP:km u fn q=(decide (0≤q)&&decide (q<(g.pts.length:Int))):=by rw[km,hg]
  refine gp_ ?_
  refine gp_ ?_
  refine zi (λx w'=>x=[.int .i64 (yz u fn (km u fn q))]∧w'=w2) (λK3 hK3=>?_) ?_
  ·refine gp_ ?_
   refine c_t rfl ?_
   refine Z9 S.holds hL ?_
   refine yY S.holds hL ?_
   refine hK3 _ _ ⟨?_,rfl⟩
   rw[yz,hP,hi]
   simp only[true_and]
  rintro _ _ ⟨rfl,rfl⟩ d
  rw[gdz]
  refine gp_ ?_
  refine zj (λhne=>?_) (λhe=>?_)
  ·exact h0 hne _ S.ext
  have he:yz u fn (km u fn q)=0:=by omega
  have hq:0≤q∧q.toNat<g.pts.length:=by
   cases hh:km u fn q with
   |false=>rw [hh,yz,if_neg (by simp)]at he;cases he
   |true=>rw [hP,gba,gdt,gdt]at hh;omega
  rw[he]
  obtain⟨pl,cl,hlc,hls⟩:=id hL.lns
  have hfew:(lkS u fn g).length≤1000000:=Nat.le_trans k9 (by have:=F.head.pt1024;omega)
  have h1:=h1 he g g.pts[q.toNat]
  generalize lkS u fn g=ls at hL hlc hls hfew h1
  refine n_some ?_
  refine gg_ ?_
  refine zf (S.at hlc) ?_
  have S:=S.ownNil 3 1
  have hM:(ls.map (jd g.pts[q.toNat])).length=ls.length:=List.length_map _
  generalize hMe:ls.map (jd g.pts[q.toNat])=M at hM h1
  have hkl:∀i (h:i<ls.length) (hm:i<M.length),M[i]'hm=jd g.pts[q.toNat] ls[i]:=λi h hm=>by subst hMe;rw[List.getElem_map]
  refine gg_ ?_
  refine zk (ι:=Nat×Value) (λi=>[i.2,.int .i64 (i.1:Nat)]) (λi w'=>i.1≤ls.length∧StX noX w (r.or s) w' (.row i.2 3 1 (mkd (M.take i.1)).length (ints (mkd (M.take i.1)))::[.cell b3 [.slice p0 u.ss.length cap0,vf,.int .i64 u.mn] 25])) (λi=>ls.length-i.1) (0,.slice none 0 0) rfl ⟨gzl _,S⟩ ?_
  repeat clear S
  rintro⟨i,vp⟩ d w5 ⟨hi,S⟩ K9 hK9
  simp only at hi S⊢
  simp only[gdz,gds]
  refine gg_ ?_
  refine zj (λhlt=>?_) (λhge=>?_)
  ·have hlt:i<ls.length:=by omega
   have hlt':i<M.length:=by omega
   have hsn:=ahp hlt'
   rw[hkl i hlt hlt']at hsn
   have hml:(mkd (M.take i)).length≤1000000:=Nat.le_trans ait (by rw[List.length_take];omega)
   obtain⟨bo,oo,co,hqo,hcl,hoc,hoo⟩:=hls.get (by decide) hlt
   generalize ls[i]=x at hoc hsn
   obtain⟨vx,rfl,hxs⟩:=hoc
   obtain⟨qx,cx,rfl,_,_⟩:=hxs.sl.shape
   cases hqo
   refine zi (λy w'=>∃v',y=[v']∧StX noX w (r.or s) w' (.row v' 3 1 (mkd (M.take (i+1))).length (ints (mkd (M.take (i+1))))::[.cell b3 [.slice p0 u.ss.length cap0,vf,.int .i64 u.mn] 25])) (λK13 hK13=>?_) ?_
   ·refine gg_ ?_
    refine zq (n:=5) rfl (λj v hj=>by rw[tnc];exact S.at (hoo j v hj)) ?_
    refine S.al λb12 w7 S=>?_
    refine S.stB (b:=b12) λw8 S=>?_
    refine S.ldB (b:=b12) ?_ rfl
    refine Ya S.holds hL ⟨_,rfl,hxs⟩ hq.1 hq.2 λw9 e9=>?_
    have S:=(S.go e9).drop b12
    refine c_b (λhy=>?_) (λhn=>?_)
    ·rw[if_pos hy]at hsn
     refine S.lit (e:=3) (cs:=[.int .i64 (i:Nat)]) (by kernel_rfl) λb13 w10 S=>?_
     refine S.ap (v:=vp) (m':=1) (Sl.blk (S.blk b13)) (λv11 w11 S=>?_) (by omega)
     refine hK13 _ _ ⟨v11,rfl,?_⟩
     rw[hsn,gla,Yx]
     exact S.drop b13
    ·rw[if_neg (by rw[hn];decide),List.append_nil]at hsn
     refine hK13 _ _ ⟨vp,rfl,?_⟩
     rw[hsn]
     exact S
   ·repeat clear S
    rintro _ w12 ⟨v',rfl,S⟩ d
    simp only[gdz]
    refine gg_ ?_
    exact hK9 (i+1,v') _ ⟨hlt,S⟩ (by show ls.length-(i+1)<ls.length-i;omega)
  ·have hie:i=ls.length:=by omega
   rw[hie,← hM,List.take_length]at S
   obtain⟨s9,S,hs9,_,a9⟩:=StX.doneRow (l:=mkd M) (R:=xn) (sz:=1) S kG (by decide) rfl
   have a9:Above w s9:=λb o ho=>(a9 b o ho).resolve_right id
   have S:=S.reGh
   exact h1 _ (s.or s9) _ F hq.1 (gqg hq.2) S.ext (StX.newOf (q:=s.or s9) S (ha.or' a9)) (hs9.up' inferInstance λ_ _ h=>h)
end
end
end Go.Proofs
