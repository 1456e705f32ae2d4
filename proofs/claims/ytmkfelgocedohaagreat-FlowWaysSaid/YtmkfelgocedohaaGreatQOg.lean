/-
  Contracts of flow: Right, Loop.
  Contract of flow: Loop.
  graph.Calls and the document's Calls.
  What the document says of points: Next, Operands, Assigns, Calls, places compared.
  Shallow readings of functions. Made by a program (wip/gen/gen.py) out of the translation; the kernel checks each equality.
  Contracts of loanwordref12: Next, in, rising, Before, reach, Reach.
  Contracts of loanwordref12: reach, Reach, Above.
  Contracts of loanwordref12: Reach, Above, Is.
  Contracts of loanwordref12: Is, Loop.
  Contract of loanwordref12: Right.
  Plain law: the walk's marks as two rows of truths, and the walk as a recursion.
  Contract of loanwordref12: walker.walk.
  Contract of loanwordref12: Walk.
  Shallow readings of functions. Made by a program (wip/gen/gen.py) out of the translation; the kernel checks each equality.
  Contracts of loanwordlaw12: in, same, inside.
  Contract of loanwordlaw12: fits.
  loanwordlaw12's small units: plain facts.
  Contract of loanwordlaw12: line.
  A map of numbers of one's own: made, filled, asked.
  Contract of flow: Way.
  Contract of loanwordlaw12: awake.
-/
import Derived.Test.YtmkfelgocedohaaGreatQOf
import Derived.Test.YtmkfelgocedohaaGreatQOe
import Derived.Test.YtmkfelgocedohaaGreatQOb
import Derived.Test.YtmkfelgocedohaaGreatQOd
section
namespace Go.Proofs
open Go.Sh Go.RowKit
set_option maxRecDepth 100000
set_option linter.unusedSimpArgs false
set_option linter.unusedVariables false
theorem J9 {A C : List Int} {b p : Int} {q : Nat} (h : A.length=q) : (ints (A++b::C)).set (0+q) (.int .i64 p)=ints (A++p::C):=by
 rw [Nat.zero_add,ints,ints,List.map_append,List.map_append,List.set_append_right _ _ (by rw [List.length_map];omega),List.length_map,h,Nat.sub_self];rfl
theorem YM {n : zg} {q : Int} : (abvL n q).length≤n.length:=by
 rw [Za]
 cases h : ku n q with
 |none=>exact Nat.zero_le _
 |some m=>exact Nat.le_trans ab2 (Nat.le_of_eq (Zb h))
set_option maxHeartbeats 1000000 in
theorem JH {u : UnD} {n : Int} {v : Value} {w : World} {r : Gh} {K : Value→World→Prop} (hr : Holds r w) (hu : UnG r v u)
  (h : ∀ v' s w',Ext w w'→New w s w'→SlG 1 s zu v' (if fnE u n=0 then (List.range (netU u n).length).map (fun i=>yP (netU u n) (i : Nat)) else [])→K (.tuple #[v',.int .i64 (fnE u n)]) w') : zd Tryz.prog Tryz.vc #[v,.int .i64 n] w K:=by
 refine Tryz.ady ?_
 unfold Tryz.Jw
 have hu0:=hu
 obtain ⟨p0,cap0,vf,rfl,_,_,hst,hsl,hfn⟩:=hu
 obtain ⟨qf,capf,rfl,_,_⟩:=hfn.sl.shape
 have S:=St.start hr
 refine S.box fun b3 w1 S=>?_
 have S : StX noX w r w1 [.cell b3 [.slice p0 u.ss.length cap0,.slice qf u.fs.length capf,.int .i64 u.mn] 25]:=S
 refine S.ldB (b:=b3) ?_ rfl
 refine x7 S.holds hu0 fun vn sn w2 e2 n2 hnet=>?_
 obtain ⟨S,_,a2⟩:=S.tell e2 n2
 have S:=S.tl
 refine gS_ ?_
 refine zj (fun hne=>?_) (fun heq=>?_)
 ·rw [if_neg hne] at h
  exact h _ nothing _ S.ext New.nothing SlG.nil
 have hE : fnE u n=0:=by omega
 rw [if_pos hE,hE] at h
 obtain ⟨hlt,he,hF⟩:=z7 hE
 obtain ⟨_,hN⟩:=hnet hE
 rw [← he] at hN
 have hfew:=hF.few
 refine aca S.holds hN.up hF.ok hF.nar hF.nd hF.pos (by omega) fun v1 s1 w4 R e4 n4 hR hRl hRa=>?_
 obtain ⟨S,_,a4⟩:=S.tell e4 n4
 obtain ⟨pR,capR,rfl,_,_⟩:=hR.shape
 generalize netU u n=nn at *
 obtain ⟨pn,capn,rfl,_,_⟩:=hN.sl.shape
 refine S.lit (e:=3) (cs:=[.int .i64 (-1)]) (by kernel_rfl) fun b26 w5 S=>?_
 refine gg_ ?_
 refine aeH (sb:=b26) (z:=-1) S hF.pos (by omega) fun b29 w6 S=>?_
 have S:=S.drop b26
 have e0 : List.replicate nn.length (Value.int .i64 (-1))=ints (List.replicate nn.length (-1)):=by simp [ints]
 rw [e0] at S
 refine gg_ ?_
 have hrow : ∀ (i : Nat) (hi : i<nn.length),isN nn (i : Nat):=fun i hi=>⟨Int.natCast_nonneg i,by omega⟩
 refine zh (ι:=Nat) (fun i=>[.int .i64 (i : Nat)]) (fun i w'=>i≤nn.length∧StX noX w ((r.or sn).or s1) w' [.cell b29 (ints ((List.range i).map (fun i=>yP nn (i : Nat))++List.replicate (nn.length - i) (-1))) 3]) (fun i=>nn.length - i) 0 rfl ⟨Nat.zero_le _,by simpa using S⟩ ?_
 repeat clear S
 rintro i d w7 ⟨hi,S⟩ K6 hK6
 rw [List.getD_cons_zero]
 refine gp_ ?_
 refine zj (fun hlti=>?_) (fun hge=>?_)
 ·have hlti : i<nn.length:=by omega
  obtain ⟨p9,cap9,bR,oR,uq,hE9,rfl,hcR,hrw⟩:=J8 (n:=nn) hR (q:=(i : Nat)) (by rw [hRl,Int.toNat_natCast];exact hlti)
  cases hE9
  rw [hRa _ (hrow i hlti)] at hrw
  refine gg_ ?_
  refine zi (S.at hcR) ?_
  refine YL (s:=s1) S.holds hrw.up (fun m hm=>by rw [Zb hm];omega) fun v' s w8 e8 n8 hs=>?_
  obtain ⟨S,_,a8⟩:=S.tell e8 n8
  rw [← Za] at hs
  obtain ⟨pl,capl,rfl,_,_⟩:=hs.shape
  have hll:=YM (n:=nn) (q:=(i : Nat))
  have hAl : ((List.range i).map fun i=>yP nn (i : Nat)).length=i:=by simp
  have hmem : ∀ x ∈ abvL nn (i : Nat),isN nn x:=fun x hx=>(kc.1 hx).2.1
  have hre : yP nn (i : Nat)=(abvL nn (i : Nat)).foldl (fun b p=>if p≠(i : Int)∧((abvL nn p).length : Int)=((abvL nn (i : Nat)).length : Int) - 1 then p else b) (-1):=rfl
  refine gg_ ?_
  generalize abvL nn (i : Nat)=l at hs hll hmem hre
  rw [show nn.length - i=(nn.length - (i+1))+1 by omega,List.replicate_succ] at S
  refine zh (ι:=Nat) (fun j=>[.int .i64 (j : Nat)]) (fun j w'=>j≤l.length∧StX noX w (((r.or sn).or s1).or s) w' [.cell b29 (ints ((List.range i).map (fun i=>yP nn (i : Nat))++((l.take j).foldl (fun b p=>if p≠(i : Int)∧((abvL nn p).length : Int)=(l.length : Int) - 1 then p else b) (-1))::List.replicate (nn.length - (i+1)) (-1))) 3]) (fun j=>l.length - j) 0 rfl ⟨Nat.zero_le _,S⟩ ?_
  repeat clear S
  rintro j d w9 ⟨hj,S⟩ K11 hK11
  rw [List.getD_cons_zero]
  refine gp_ ?_
  refine zj (fun hltj=>?_) (fun hgej=>?_)
  ·have hltj : j<l.length:=by omega
   obtain ⟨bl,ol,rfl,_,hcl⟩:=zE hs hltj
   have htk : (l.take (j+1)).foldl (fun b p=>if p≠(i : Int)∧((abvL nn p).length : Int)=(l.length : Int) - 1 then p else b) (-1)=(if l[j]≠(i : Int)∧((abvL nn l[j]).length : Int)=(l.length : Int) - 1 then l[j] else (l.take j).foldl (fun b p=>if p≠(i : Int)∧((abvL nn p).length : Int)=(l.length : Int) - 1 then p else b) (-1)):=by
    rw [List.take_succ_eq_append_getElem hltj,List.foldl_append];rfl
   have hxN:=hmem l[j] (List.getElem_mem hltj)
   generalize l[j]=x at hcl htk hxN
   generalize (l.take j).foldl (fun b p=>if p≠(i : Int)∧((abvL nn p).length : Int)=(l.length : Int) - 1 then p else b) (-1)=bb at htk S
   have x0:=hxN.1;have x1:=hxN.2
   refine zp (fun y w'=>StX noX w (((r.or sn).or s1).or s) w' [.cell b29 (ints ((List.range i).map (fun i=>yP nn (i : Nat))++((l.take (j+1)).foldl (fun b p=>if p≠(i : Int)∧((abvL nn p).length : Int)=(l.length : Int) - 1 then p else b) (-1))::List.replicate (nn.length - (i+1)) (-1))) 3]) (fun K15 hK15=>?_) ?_
   ·rw [htk] at hK15
    refine gg_ ?_
    refine zi (by rw [Int.toNat_natCast];exact S.at hcl) ?_
    refine gg_ ?_
    refine zq (c:=decide (((abvL nn x).length : Int)=(l.length : Int) - 1)) (fun _ K2 hK2=>?_) fun w10 e10=>?_
    ·obtain ⟨p8,cap8,bR',oR',ux,hE8,hE7,hcx,hrx⟩:=J8 (n:=nn) hR (q:=x) (by rw [hRl];omega)
     cases hE8
     cases hE7
     rw [hRa _ hxN] at hrx
     refine gg_ ?_
     refine zi (S.at hcx) ?_
     refine YL (s:=s1) S.holds hrx.up (fun m hm=>by rw [Zb hm];omega) fun v' s2 w10 e10 n10 hs2=>?_
     rw [← Za] at hs2
     have hl2:=YM (n:=nn) (q:=x)
     obtain ⟨p2,cap2,rfl,_,_⟩:=hs2.shape
     refine gg_ ?_
     exact hK2 _ e10
    have S:=S.go e10
    refine c_b (fun hc=>?_) (fun hc=>?_)
    ·simp only [Bool.and_eq_true,decide_eq_true_eq] at hc
     rw [if_pos hc] at hK15
     refine gg_ ?_
     refine S.st (b:=b29) (fun w11 S=>?_) (by rw [zI,List.length_append,List.length_map,List.length_range,List.length_cons];omega)
     rw [Int.toNat_natCast,J9 hAl] at S
     exact hK15 [] _ S
    ·rw [if_neg (by simpa using hc)] at hK15
     exact hK15 [] _ S
   rintro y w10 S d
   refine gg_ ?_
   exact hK11 (j+1) _ ⟨hltj,S⟩ (by omega)
  have hje : j=l.length:=by omega
  subst hje
  rw [List.take_length,← hre] at S
  refine gg_ ?_
  refine hK6 (i+1) _ ⟨hlti,?_⟩ (by omega)
  have e : (List.range (i+1)).map (fun i=>yP nn (i : Nat))++List.replicate (nn.length - (i+1)) (-1)=(List.range i).map (fun i=>yP nn (i : Nat))++yP nn (i : Nat)::List.replicate (nn.length - (i+1)) (-1):=by
   rw [List.range_succ,List.map_append,List.append_assoc];rfl
  rw [e]
  exact S.to _
 have hie : i=nn.length:=by omega
 subst hie
 rw [Nat.sub_self,List.replicate_zero,List.append_nil] at S
 obtain ⟨S,hs,ha⟩:=S.litNew b29 (sz:=1) (R:=zu) (l:=(List.range nn.length).map fun i=>yP nn (i : Nat)) zS (by decide)
 rw [List.length_map,List.length_range] at hs
 exact h _ (sn.or (s1.or (Go.Sh.one b29 (ints ((List.range nn.length).map fun i=>yP nn (i : Nat))) 3))) _ S.ext (StX.newOf (S.to (r.or (sn.or (s1.or (Go.Sh.one b29 (ints ((List.range nn.length).map fun i=>yP nn (i : Nat))) 3))))) (a2.or' (a4.or' ha))) hs.cells
end Go.Proofs
end
section
namespace Go.Proofs
open Go.Sh Go.RowKit
set_option maxRecDepth 100000
set_option linter.unusedSimpArgs false
set_option linter.unusedVariables false
noncomputable def okL (u : UnD) (n q t : Int) : Bool:=!(((decide (fnE u n≠0) || !decide (∀ x ∈ [q,t],isN (netU u n) x)) || !decide (t ∈ nxt (netU u n) q)) || !decide (t ∈ abvL (netU u n) q))
set_option maxHeartbeats 1000000 in
theorem VH {u : UnD} {n q t : Int} {v : Value} {w : World} {r : Gh} {K : Value→World→Prop} (hr : Holds r w) (hu : UnG r v u)
  (h : ∀ v' s w',Ext w w'→New w s w'→SlG 1 s zu v' (if okL u n q t=true then mkd (vB (netU u n) q t) else [])→K (.tuple #[v',.int .i64 (if okL u n q t=true then 0 else 2)]) w') : zd Tryz.prog Tryz.Zg #[v,.int .i64 n,.int .i64 q,.int .i64 t] w K:=by
 refine Tryz.aeI ?_
 unfold Tryz.VE
 have hu0:=hu
 obtain ⟨p0,cap0,vf,rfl,_,_,hst,hsl,hfn⟩:=hu
 obtain ⟨qf,capf,rfl,_,_⟩:=hfn.sl.shape
 have S:=St.start hr
 refine S.box fun b3 w1 S=>?_
 have S : StX noX w r w1 [.cell b3 [.slice p0 u.ss.length cap0,.slice qf u.fs.length capf,.int .i64 u.mn] 25]:=S
 refine S.ldB (b:=b3) ?_ rfl
 refine x7 S.holds hu0 fun vn sn w2 e2 n2 hnet=>?_
 obtain ⟨S,_,a2⟩:=S.tell e2 n2
 have S:=S.tl
 refine gS_ ?_
 refine xH (c:=!decide (∀ x ∈ [q,t],isN (netU u n) x)) (fun w'=>StX noX w (r.or sn) w' []) (fun _=>S) (fun hb K2 hK2=>?_) fun w3 S=>?_
 ·have hE : fnE u n=0:=by simpa using hb
  obtain ⟨hlt,he,hF⟩:=z7 hE
  obtain ⟨_,hN⟩:=hnet hE
  rw [← he] at hN
  refine S.lit (e:=3) (cs:=[.int .i64 q,.int .i64 t]) (by kernel_rfl) fun b5 w3 S=>?_
  obtain ⟨S,hs5,_⟩:=S.litNew b5 (sz:=1) (R:=zu) (l:=[q,t]) (kF (c:=[.int .i64 q]) rfl rfl (zZ rfl rfl)) (by decide)
  have hs5 : SlG 1 (Go.Sh.one b5 [.int .i64 q,.int .i64 t] 3) zu (.slice (some ⟨b5,0,none⟩) 2 2) [q,t]:=hs5
  have S : StX noX w ((r.or sn).or (Go.Sh.one b5 [.int .i64 q,.int .i64 t] 3)) w3 []:=S
  refine Qc S.holds hN.up hs5.cells (by simp) fun w4 e4=>?_
  have S:=S.go e4
  refine gp_ ?_
  exact hK2 _ (S.to _)
 refine zk (c:=!decide (t ∈ nxt (netU u n) q)) (fun hb K2 hK2=>?_) ?_
 ·rw [Bool.or_eq_false_iff] at hb
  have hE : fnE u n=0:=by simpa using hb.1
  have hqt : ∀ x ∈ [q,t],isN (netU u n) x:=by simpa using hb.2
  have hqN:=hqt q (by simp)
  have q0:=hqN.1;have q1:=hqN.2
  obtain ⟨hlt,he,hF⟩:=z7 hE
  obtain ⟨_,hN⟩:=hnet hE
  rw [← he] at hN
  obtain ⟨pn,capn,rfl,_,_⟩:=hN.sl.shape
  obtain ⟨bn,on,un,rfl,_,hcn,hun⟩:=vX hN (i:=q.toNat) (by omega)
  rw [xV hqN] at hK2
  refine gg_ ?_
  refine zi (S.at hcn) ?_
  refine qX S.holds hun.sl.cells hun.few ?_
  refine gp_ ?_
  exact hK2
 have hok : okL u n q t = !(((decide (fnE u n≠0) || !decide (∀ x ∈ [q,t],isN (netU u n) x)) || !decide (t ∈ nxt (netU u n) q)) || !decide (t ∈ abvL (netU u n) q)):=rfl
 refine c_b (fun hb=>?_) (fun hb=>?_)
 ·rw [hb,Bool.true_or] at hok
  rw [hok] at h
  exact h _ nothing _ S.ext New.nothing SlG.nil
 rw [hb,Bool.false_or] at hok
 simp only [Bool.or_eq_false_iff,decide_eq_false_iff_not,Decidable.not_not,Bool.not_eq_false',decide_eq_true_eq,ne_eq] at hb
 obtain ⟨⟨hE,hqt⟩,hnx⟩:=hb
 have hqN:=hqt q (by simp)
 have htN:=hqt t (by simp)
 obtain ⟨hlt,he,hF⟩:=z7 hE
 obtain ⟨_,hN⟩:=hnet hE
 rw [← he] at hN
 have hfew:=hF.few
 generalize netU u n=nn at *
 have q0:=hqN.1;have q1:=hqN.2;have t0:=htN.1;have t1:=htN.2
 refine aca S.holds hN.up hF.ok hF.nar hF.nd hF.pos (by omega) fun v1 s1 w4 R e4 n4 hR hRl hRa=>?_
 obtain ⟨S,_,a4⟩:=S.tell e4 n4
 obtain ⟨pR,capR,bR,oR,uq,rfl,rfl,hcR,hrw⟩:=J8 (n:=nn) hR (q:=q) (by rw [hRl];omega)
 rw [hRa q hqN] at hrw
 rw [hRl]
 obtain ⟨pp,kk,cp,rfl,hnone,hsome⟩:=aeS hrw fun m' hm'=>by rw [Zb hm'];exact hF.pos
 refine gg_ ?_
 refine zi (S.at hcR) ?_
 refine gg_ ?_
 have hta : decide (t ∈ abvL nn q) = !(pp.isNone || !(match ku nn q with|some m=>mk' m t|none=>false)):=by
  rw [hnone]
  by_cases hm : t ∈ abvL nn q
  ·rw [decide_eq_true hm]
   rw [Za] at hm
   cases hx : ku nn q with
   |none=>rw [hx] at hm;exact absurd (show t ∈ ([] : List Int) from hm) (by simp)
   |some m=>rw [hx] at hm;have:=(abx.1 hm).2;simp [this]
  ·rw [decide_eq_false hm]
   rw [Za] at hm
   cases hx : ku nn q with
   |none=>rfl
   |some m=>
    rw [hx] at hm
    have : mk' m t=false:=Bool.eq_false_iff.2 fun h=>hm (abx.2 ⟨t0,h⟩)
    simp [this]
 refine zk (c:=!(match ku nn q with|some m=>mk' m t|none=>false)) (fun hb K2 hK2=>?_) ?_
 ·obtain ⟨m,hm⟩ : ∃ m,ku nn q=some m:=by
   rw [hnone] at hb
   cases hx : ku nn q with
   |none=>rw [hx] at hb;cases hb
   |some m=>exact ⟨m,rfl⟩
  obtain ⟨hkk,hcm⟩:=hsome m hm
  have hml:=Zb hm
  obtain ⟨bx,ox,rfl,hcm⟩:=hcm t.toNat (by omega)
  subst hkk
  rw [hm] at hK2
  have e : m[t.toNat]'(by omega)=mk' m t:=by rw [mk',List.getD_eq_getElem?_getD,List.getElem?_eq_getElem (by omega)];rfl
  rw [e] at hcm
  refine gg_ ?_
  refine zi (S.at hcm) ?_
  refine gp_ ?_
  exact hK2
 rw [hta,Bool.not_not] at hok
 refine c_b (fun hb=>?_) (fun hb=>?_)
 ·rw [hb] at hok
  rw [hok] at h
  exact h _ nothing _ S.ext New.nothing SlG.nil
 rw [hb] at hok
 rw [hok] at h
 clear hok hta hnone hsome hb hrw hcR hR hRa
 obtain ⟨pn,capn,rfl,_,_⟩:=hN.sl.shape
 refine gg_ ?_
 refine S.mkS (by omega) (by omega) fun b14 w5 S=>?_
 rw [Int.toNat_natCast] at S ⊢
 rw [kv] at S
 refine gg_ ?_
 refine S.st (b:=b14) (fun w6 S=>?_) (by rw [yI,List.length_replicate];omega)
 refine gg_ ?_
 refine S.st (b:=b14) (fun w7 S=>?_) (by rw [List.length_set,yI,List.length_replicate];omega)
 have S : StX noX w ((r.or sn).or s1) w7 [.cell b14 (bls (zy (zy (List.replicate nn.length false) t) q)) 4]:=by
  rw [← y7 q0,← y7 t0];exact S
 refine S.lit (e:=3) (cs:=[.int .i64 q]) (by kernel_rfl) fun b16 w8 S=>?_
 have S:=S.toRow 1 1 rfl (by decide)
 have S:=S.toQue (.slice (some ⟨b16,0,none⟩) 1 1)
 refine zh (ι:=Value × List Bool × List Int) (fun i=>[i.1]) (fun i w'=>(q≠t→Bfs (kb nn) (· = t) q (· = t) i.2.1 i.2.2)∧(q=t→i.2.1=zy (zy (List.replicate nn.length false) t) q∧∀ x ∈ i.2.2,x=t)∧i.2.1.length=nn.length∧2*off i.2.1+i.2.2.length≤2*nn.length+1∧StX noX w ((r.or sn).or s1) w' [.que i.1 3 1 i.2.2.length (ints i.2.2),.cell b14 (bls i.2.1) 4])
  (fun i=>2*off i.2.1+i.2.2.length) (.slice (some ⟨b16,0,none⟩) 1 1,zy (zy (List.replicate nn.length false) t) q,[q]) rfl ⟨fun hne=>ahu hqN htN hne,fun e=>⟨rfl,fun x hx=>by rw [List.mem_singleton.1 hx];exact e⟩,by show (zy (zy (List.replicate nn.length false) t) q).length=_;rw [zG,zG,List.length_replicate],?_,S⟩ ?_
 ·have : off (zy (zy (List.replicate nn.length false) t) q)≤nn.length:=by
   have h1 : (zy (zy (List.replicate nn.length false) t) q).length=nn.length:=by rw [zG,zG,List.length_replicate]
   have h2 : off (zy (zy (List.replicate nn.length false) t) q)≤(zy (zy (List.replicate nn.length false) t) q).length:=List.countP_le_length
   omega
  simp only [List.length_singleton];omega
 repeat clear S
 rintro ⟨vq,m,qs⟩ d w9 ⟨hB,hB',hml,hms,S⟩ K4 hK4
 simp only at hB hB' hml hms S ⊢
 rw [List.getD_cons_zero]
 obtain ⟨pq,capq,rfl,hp0,hcq,_,hsl⟩:=S.queS vq
 refine gP_ ?_
 refine gP_ ?_
 refine c_b (fun hpos=>?_) (fun hz=>?_)
 ·have hpos : 0<qs.length:=by simpa using hpos
  cases qs with
  |nil=>simp at hpos
  |cons x qs=>
   obtain ⟨bq,oq,rfl,hcell⟩:=jQ hsl hpos
   have hxt : q=t→x=t:=fun e=>(hB' e).2 x List.mem_cons_self
   refine gP_ ?_
   refine zi (by simpa using hcell) ?_
   refine S.loQ (by omega) (by omega) hpos fun v' S=>?_
   have S : StX noX w ((r.or sn).or s1) w9 [.que v' 3 1 qs.length (ints qs),.cell b14 (bls m) 4]:=S
   refine gp_ ?_
   simp only [List.length_cons] at hms
   refine zj (fun hxe=>?_) (fun hxe=>?_)
   ·refine hK4 (v',m,qs) _ ⟨fun hne=>(hB hne).skip ⟨fun e=>hne (e.symm.trans hxe),hxe⟩,fun e=>⟨(hB' e).1,fun y hy=>(hB' e).2 y (List.mem_cons_of_mem _ hy)⟩,hml,by show 2*off m+qs.length≤_;omega,S⟩ (by show 2*off m+qs.length<2*off m+(x::qs).length;rw [List.length_cons];omega)
   have hne : q≠t:=fun e=>hxe (hxt e)
   have hB:=hB hne
   obtain ⟨hx,_,_⟩:=hB.todo x List.mem_cons_self
   have hxN:=jV.1 hx
   refine aag (q:=x) S.holds hN.up (by omega) fun v2 s2 w10 e10 n10 hs2=>?_
   obtain ⟨S,_,a10⟩:=S.tell e10 n10
   obtain ⟨p2,cap2,rfl,_,_⟩:=hs2.shape
   have hB2:=hB.go aeP (.inr hxe)
   rw [afV hxN] at hB2
   have hbl : (befN nn x).length≤1024:=Nat.le_trans XT hfew
   have hl2 : ∀ y ∈ befN nn x,isN (kb nn) y:=fun y hy=>jV.2 (qY.1 hy).1
   refine gg_ ?_
   generalize befN nn x=l at hs2 hbl hB2 hl2
   have hvis : ∀ k,k≤l.length→_:=fun k (hk : k≤l.length)=>QO (n:=kb nn) (l:=l.take k) (m:=m) (qs:=qs) hB.len fun y hy=>hl2 y (List.mem_of_mem_take hy)
   have hqs : qs.length≤2*nn.length:=by omega
   refine zh (ι:=Nat × Value) (fun i=>[i.2,.int .i64 (i.1 : Nat)]) (fun i w'=>i.1≤l.length∧StX noX w (((r.or sn).or s1).or s2) w' [.que i.2 3 1 ((l.take i.1).foldl zo (m,qs)).2.length (ints ((l.take i.1).foldl zo (m,qs)).2),.cell b14 (bls ((l.take i.1).foldl zo (m,qs)).1) 4])
    (fun i=>l.length - i.1) (0,v') rfl ⟨Nat.zero_le _,S⟩ ?_
   repeat clear S
   rintro ⟨k,vq2⟩ d w11 ⟨hk,S⟩ K13 hK13
   simp only at hk S ⊢
   simp only [List.getD_cons_zero,List.getD_cons_succ]
   obtain ⟨g1,g2,g3,_,_,_⟩:=hvis k hk
   rw [vY] at g1
   refine gg_ ?_
   refine zj (fun hltk=>?_) (fun hge=>?_)
   ·have hltk : k<l.length:=by omega
    obtain ⟨bu,ou,rfl,_,hcu⟩:=zE hs2 hltk
    have hst : (l.take (k+1)).foldl zo (m,qs)=zo ((l.take k).foldl zo (m,qs)) l[k]:=by
     rw [List.take_succ_eq_append_getElem hltk,List.foldl_append];rfl
    have hy:=jV.1 (hl2 l[k] (List.getElem_mem hltk))
    have y0:=hy.1;have y1:=hy.2
    generalize l[k]=y at hcu hst y0 y1
    generalize (l.take k).foldl zo (m,qs)=st at hst S g1 g2 g3
    obtain ⟨m2,qs2⟩:=st
    simp only at S g1 g2 g3
    have ho : off m2≤nn.length:=by rw [← g1];exact List.countP_le_length
    refine zp (fun s w'=>∃ v2,s = [v2]∧StX noX w (((r.or sn).or s1).or s2) w' [.que v2 3 1 (zo (m2,qs2) y).2.length (ints (zo (m2,qs2) y).2),.cell b14 (bls (zo (m2,qs2) y).1) 4]) (fun K17 hK17=>?_) ?_
    ·refine gg_ ?_
     refine zi (by rw [Int.toNat_natCast];exact S.at hcu) ?_
     refine gg_ ?_
     refine S.ld (b:=b14) ?_ (aeM (by omega))
     refine gp_ ?_
     refine c_b (fun hm=>?_) (fun hm=>?_)
     ·have hm : mk' m2 y=false:=by simpa using hm
      have e : zo (m2,qs2) y=(zy m2 y,qs2 ++ [y]):=by rw [zo,if_neg (by rw [hm];simp)]
      refine gp_ ?_
      refine S.st (b:=b14) (fun w7 S=>?_) (by rw [yI];omega)
      have S : StX noX w (((r.or sn).or s1).or s2) w7 [.que vq2 3 1 qs2.length (ints qs2),.cell b14 (bls (zy m2 y)) 4]:=by
       rw [← y7 y0];exact S
      refine S.lit (e:=3) (cs:=[.int .i64 y]) (by kernel_rfl) fun b49 w8 S=>?_
      refine S.apQ (m:=1) (Sl.blk (S.blk b49)) (fun v50 w9 S=>?_) (by omega)
      refine hK17 _ _ ⟨v50,rfl,?_⟩
      rw [e,List.length_append,yo]
      exact S.drop b49
     ·have hm : mk' m2 y=true:=by simpa using hm
      have e : zo (m2,qs2) y=(m2,qs2):=by rw [zo,if_pos hm]
      refine hK17 _ _ ⟨vq2,rfl,?_⟩
      rw [e];exact S
    rintro s w12 ⟨v2,rfl,S⟩ d
    simp only [List.getD_cons_zero]
    refine gp_ ?_
    refine hK13 (k+1,v2) _ ⟨hltk,?_⟩ (by show l.length - (k+1)<l.length - k;omega)
    show StX noX w (((r.or sn).or s1).or s2) w12 [.que v2 3 1 ((l.take (k+1)).foldl zo (m,qs)).2.length (ints ((l.take (k+1)).foldl zo (m,qs)).2),.cell b14 (bls ((l.take (k+1)).foldl zo (m,qs)).1) 4]
    rw [hst];exact S
   have hke : k=l.length:=by omega
   subst hke
   rw [List.take_length] at S g1 g2 g3
   refine hK4 (vq2,_,_) _ ⟨fun _=>hB2,fun e=>absurd e hne,g1,by show 2*off (l.foldl zo (m,qs)).1+(l.foldl zo (m,qs)).2.length≤2*nn.length+1;omega,S.to _⟩ ?_
   show 2*off (l.foldl zo (m,qs)).1+(l.foldl zo (m,qs)).2.length<2*off m+(x::qs).length
   rw [List.length_cons];omega
 have hqs0 : qs = []:=by
  cases qs with
  |nil=>rfl
  |cons x qs=>simp at hz
 subst hqs0
 have hm : m=vB nn q t:=by
  by_cases e : q=t
  ·rw [(hB' e).1,← e];exact ait hqN
  ·exact ajg hF.ok hqN e (hB e)
 subst hm
 have S:=S.tl
 obtain ⟨S,hs,ha⟩:=S.litNew b14 (sz:=1) (R:=xr) (l:=vB nn q t) xm (by decide)
 rw [qG] at hs
 refine Qd S.holds hs.cells (by rw [qG];omega) fun v' s w13 e13 n13 hs13=>?_
 obtain ⟨S,_,a13⟩:=S.tell e13 n13
 exact h _ s _ S.ext ⟨fun b o ho=>S.holds b o (.inr ho),a13⟩ hs13
end Go.Proofs
end
section
namespace Go.Proofs
open Go.Sh
set_option maxRecDepth 100000
set_option linter.unusedSimpArgs false
set_option linter.unusedVariables false
end Go.Proofs
end
section
namespace Go.Proofs
open Go.Sh
set_option maxRecDepth 100000
set_option linter.unusedSimpArgs false
set_option linter.unusedVariables false
theorem aeU {g : GrD} {p : PtD} {q : Int} {c : List Value} {w : World} {r : Gh} {K : Value→World→Prop} (hr : Holds r w) (hg : GrG r c g) (hq : 0≤q) (hlt : q.toNat<g.pts.length) (hpe : g.pts[q.toNat]=p)
  (h : ∀ v' s w',Ext w w'→New w s w'→SlG 1 s zu v' (xM p)→K v' w') : zd Tryz.prog Tryz.Yq #[.agg c.toArray,.int .i64 q] w K:=by
 refine Tryz.ade ?_
 unfold Tryz.Jb
 obtain ⟨x1,x2,x3,x4,y1,y2,y3,y4,rfl,hg0⟩:=xC hg
 obtain ⟨_,_,_,_,hE,m1,m2,m3,m4⟩:=hg0
 cases hE
 have hll : g.pts.length≤9223372036854775807:=m4.few
 obtain ⟨bp,op,cp,hE,hcp,hpc,hpo⟩:=m4.sl.get (by decide) hlt
 cases hE
 rw [hpe] at hpc
 obtain ⟨z1,z2,z3,z4,z5,t1,t2,t3,t4,t5,rfl,hp0⟩:=XP hpc
 have S:=St.start hr
 refine S.box fun b2 w1 S=>?_
 have S : StX noX w r w1 [.cell b2 (grL g x1 x2 x3 (some ⟨bp,op,none⟩) y1 y2 y3 y4) 38]:=S
 refine gg_ ?_
 refine zt (n:=21) hcp (fun j v hj=>S.at (hpo j v hj)) ?_
 refine S.al fun b5 w2 S=>?_
 refine S.stB (b:=b5) fun w3 S=>?_
 have S : StX noX w r w3 [.cell b5 (ptL p z1 z2 z3 z4 z5 t1 t2 t3 t4 t5) 87,.cell b2 (grL g x1 x2 x3 (some ⟨bp,op,none⟩) y1 y2 y3 y4) 38]:=S
 refine gg_ ?_
 rw [xM] at h
 refine zj (fun h14=>?_) (fun h14=>?_)
 ·rw [if_pos h14] at h
  exact h _ nothing _ S.ext New.nothing SlG.nil
 rw [if_neg h14] at h
 refine gg_ ?_
 refine zf (c:=decide (p.el≠p.nx)) (fun _ K2 hK2=>by refine gg_ ?_;exact hK2) ?_
 refine c_b (fun hc=>?_) (fun hc=>?_)
 ·simp only [Bool.and_eq_true,decide_eq_true_eq] at hc
  rw [if_pos ⟨hc.1,fun e=>hc.2 e.symm⟩] at h
  refine gg_ ?_
  refine S.lit (e:=3) (cs:=[.int .i64 p.nx,.int .i64 p.el]) (by kernel_rfl) fun b9 w9 S=>?_
  obtain ⟨S,hs,ha⟩:=S.litNew b9 (sz:=1) (R:=zu) (l:=[p.nx,p.el]) (kF (c:=[.int .i64 p.nx]) rfl rfl (zZ rfl rfl)) (by decide)
  exact h _ _ _ S.ext (S.newOf ha) hs
 ·simp only [Bool.and_eq_false_iff,decide_eq_false_iff_not] at hc
  rw [if_neg (by rintro ⟨h1,h2⟩;rcases hc with hc|hc;· exact hc h1
                 ·exact hc fun e=>h2 e.symm)] at h
  refine gg_ ?_
  refine S.lit (e:=3) (cs:=[.int .i64 p.nx]) (by kernel_rfl) fun b9 w9 S=>?_
  obtain ⟨S,hs,ha⟩:=S.litNew b9 (sz:=1) (R:=zu) (l:=[p.nx]) (zZ rfl rfl) (by decide)
  exact h _ _ _ S.ext (S.newOf ha) hs
end Go.Proofs
end
section
namespace Go.Proofs.Tryz
open Go.Sh
set_option maxRecDepth 100000
def XU (t0 t1 : Value) (w : World) (K : VW) : Prop:=
 pw w (Instr.box 38 t0) fun t2 w1=>
 zm [(Value.slice Option.none 0 0),(i6 0)] w1 (fun s3 _d4 w5 K2=>
 fl w5 t2 38 6 36 fun t9=>pp (Builtin.len_ #[36] 3 #[t9]) fun t10=>bf .lss 3 (s3.getD 1 undef) t10 fun t11=>zc t11 (za (fun K6=>
 lo w5 38 t2 fun t14=>ca xi #[t14,(s3.getD 1 undef)] w5 fun t16 w10=>
 ca qM #[t16,t1] w10 fun t18 w11=>
 zc t18 (pw w11 (Instr.buildSlice 28 1 #[(0,(s3.getD 1 undef))]) fun t21 w12=>
 pw w12 (Builtin.append_ #[28,28] 28 #[(s3.getD 0 undef),t21]) fun t22 w13=>
 K6 [t22] w13) (K6 [(s3.getD 0 undef)] w11)) (fun s7 _d8 w9=>
 bt .add 3 (s3.getD 1 undef) (i6 1) fun t13=>K2 [(s7.getD 0 undef),t13] w9)) (K (s3.getD 0 undef) w5))
theorem abn {t0 t1 : Value} {w : World} {K : VW} (h : XU t0 t1 w K) : zd prog qL #[t0,t1] w K:=
 okC false (.s (.r (rz 2 0 2)) (.s (.r (rz 1 0 0)) (.s (.s (.r (rz 1 0 0)) (.b (.lp [5,6] (.s (.s (.r (rz 5 0 16)) (.c (.n) (.n))) (.j [5] (.b (.s (.r (rz 5 0 545)) (.c (.r (rz 5 0 160)) (.n)))) (.r (rz 3 0 0))))))) (.s (.r (rz 2 0 0)) (.n))))) func19 rfl (by kernel_rfl) (by kernel_rfl) h
def QB (t0 t1 : Value) (w : World) (K : VW) : Prop:=
 pw w (Instr.box 38 t0) fun t2 w1=>
 lo w1.drew 38 t2 fun t5=>fl w1.drew t2 38 6 36 fun t8=>pp (Builtin.len_ #[36] 3 #[t8]) fun t9=>pw w1.drew (Instr.makeSlice 75 t9 t9) fun t10 w2=>
 Ext w1.drew w2∧
 ca xS #[t5,t1,t10] w2 fun t11 w3=>
 ca qN #[t11] w3 fun t12 w4=>
 K t12 w4
theorem acb {t0 t1 : Value} {w : World} {K : VW} (h : QB t0 t1 w K) : zd prog ZK #[t0,t1] w K:=
 okC false (.s (.r (rz 2 0 2)) (.s (.r (rz 9 0 44097)) (.n))) func20 rfl (by kernel_rfl) (by kernel_rfl) h
def QC (t0 t1 : Value) (w : World) (K : VW) : Prop:=
 pw w (Instr.box 38 t0) fun t2 w1=>
 fl w1 t2 38 6 36 fun t10=>pp (Builtin.len_ #[36] 3 #[t10]) fun t11=>pw w1 (Instr.makeSlice 75 t11 t11) fun t12 w2=>
 lo w2 38 t2 fun t13=>ca xS #[t13,(i6 0),t12] w2 fun t15 w3=>
 xl w3 75 t15 t1 4 fun t18=>pp (Op.unary .not t18) fun t19=>zc t19 (K (Value.slice Option.none 0 0) w3) (zm [(Value.slice Option.none 0 0),(i6 0)] w3 (fun s5 _d6 w7 K4=>
 fl w7 t2 38 6 36 fun t22=>pp (Builtin.len_ #[36] 3 #[t22]) fun t23=>bf .lss 3 (s5.getD 1 undef) t23 fun t24=>zc t24 (za (fun K8=>
 fl w7 t2 38 6 36 fun t28=>pp (Builtin.len_ #[36] 3 #[t28]) fun t29=>pw w7 (Instr.makeSlice 75 t29 t29) fun t30 w12=>
 px 75 t30 (s5.getD 1 undef) fun t33=>so w12 4 t33 tr_ fun w13=>bf .eql 3 (s5.getD 1 undef) t1 fun t36=>za (fun K14=>gIf t36 false (bt .eql 3 (s5.getD 1 undef) (i6 0) fun t39=>K14 [t39] w13) (K14 [undef] w13)) (fun s15 _d16 w17=>
 zb t36 tr_ (s15.getD 0 undef) fun t40=>za (fun K18=>gIf t40 false (lo w17 38 t2 fun t42=>ca xS #[t42,(i6 0),t30] w17 fun t44 w22=>
 xl w22 75 t44 t1 4 fun t47=>pp (Op.unary .not t47) fun t48=>K18 [t48] w22) (K18 [undef] w17)) (fun s19 _d20 w21=>
 zb t40 tr_ (s19.getD 0 undef) fun t49=>zc t49 (pw w21 (Instr.buildSlice 28 1 #[(0,(s5.getD 1 undef))]) fun t52 w23=>
 pw w23 (Builtin.append_ #[28,28] 28 #[(s5.getD 0 undef),t52]) fun t53 w24=>
 K8 [t53] w24) (K8 [(s5.getD 0 undef)] w21)))) (fun s9 _d10 w11=>
 bt .add 3 (s5.getD 1 undef) (i6 1) fun t26=>K4 [(s9.getD 0 undef),t26] w11)) (K (s5.getD 0 undef) w7)))
theorem acd {t0 t1 : Value} {w : World} {K : VW} (h : QC t0 t1 w K) : zd prog kJ #[t0,t1] w K:=
 okC false (.s (.r (rz 2 0 2)) (.s (.r (rz 5 0 132)) (.s (.s (.r (rz 7 0 1057)) (.c (.s (.r (rz 1 0 0)) (.n)) (.n))) (.s (.r (rz 1 0 0)) (.s (.s (.r (rz 1 0 0)) (.b (.lp [6,7] (.s (.s (.r (rz 5 0 16)) (.c (.n) (.n))) (.j [6] (.b (.s (.r (rz 5 0 132)) (.s (.r (rz 4 0 128)) (.s (.r (ra 4 0 0 (.grp 37 false (ri 2 4 0) [39] (ra 2 6 0 (.grp 41 false (ri 7 8 1057) [48] (rz 1 15 0)))))) (.c (.r (rz 5 0 160)) (.n)))))) (.r (rz 3 0 0))))))) (.s (.r (rz 2 0 0)) (.n))))))) func21 rfl (by kernel_rfl) (by kernel_rfl) h
def JI (t0 t1 t2 : Value) (w : World) (K : VW) : Prop:=
 pw w (Instr.box 38 t0) fun t3 w1=>
 lo w1 38 t3 fun t11=>ca xi #[t11,t1] w1 fun t13 w2=>
 ca qM #[t13,t2] w2 fun t15 w3=>
 pp (Op.unary .not t15) fun t16=>za (fun K4=>gIf t16 false (lo w3 38 t3 fun t18=>ca kJ #[t18,t1] w3 fun t20 w8=>
 ca qM #[t20,t2] w8 fun t22 w9=>
 pp (Op.unary .not t22) fun t23=>K4 [t23] w9) (K4 [undef] w3)) (fun s5 _d6 w7=>
 zb t16 tr_ (s5.getD 0 undef) fun t24=>zc t24 (K (.tuple #[(Value.slice Option.none 0 0),fa_]) w7) (fl w7 t3 38 6 36 fun t26=>pp (Builtin.len_ #[36] 3 #[t26]) fun t27=>pw w7 (Instr.makeSlice 75 t27 t27) fun t28 w10=>
 px 75 t28 t2 fun t31=>so w10 4 t31 tr_ fun w11=>zm [(i6 0)] w11 (fun s13 _d14 w15 K12=>
 fl w15 t3 38 6 36 fun t34=>pp (Builtin.len_ #[36] 3 #[t34]) fun t35=>bf .lss 3 (s13.getD 0 undef) t35 fun t36=>zc t36 (za (fun K16=>
 fl w15 t3 38 6 36 fun t40=>pp (Builtin.len_ #[36] 3 #[t40]) fun t41=>pw w15 (Instr.makeSlice 75 t41 t41) fun t42 w20=>
 px 75 t42 t2 fun t45=>so w20 4 t45 tr_ fun w21=>bf .neq 3 (s13.getD 0 undef) t2 fun t48=>za (fun K22=>gIf t48 true (bf .neq 3 t1 t2 fun t52=>K22 [t52] w21) (K22 [undef] w21)) (fun s23 _d24 w25=>
 zb t48 (s23.getD 0 undef) fa_ fun t53=>za (fun K26=>gIf t53 true (lo w25 38 t3 fun t55=>ca xS #[t55,(s13.getD 0 undef),t42] w25 fun t58 w30=>
 xl w30 75 t58 t1 4 fun t61=>K26 [t61] w30) (K26 [undef] w25)) (fun s27 _d28 w29=>
 zb t53 (s27.getD 0 undef) fa_ fun t62=>zc t62 (px 75 t28 (s13.getD 0 undef) fun t65=>so w29 4 t65 tr_ fun w31=>K16 [] w31) (K16 [] w29)))) (fun _s17 _d18 w19=>
 bt .add 3 (s13.getD 0 undef) (i6 1) fun t38=>K12 [t38] w19)) (ca qN #[t28] w15 fun t67 w32=>
 K (.tuple #[t67,tr_]) w32))))
theorem adA {t0 t1 t2 : Value} {w : World} {K : VW} (h : JI t0 t1 t2 w K) : zd prog Yr #[t0,t1,t2] w K:=
 okC false (.s (.r (rz 3 0 2)) (.s (.s (.r (ra 7 0 545 (.grp 17 false (ri 6 7 545) [23] (rz 1 13 0)))) (.c (.s (.r (rz 2 0 0)) (.n)) (.n))) (.s (.r (rz 5 0 132)) (.s (.r (rz 4 0 128)) (.s (.s (.r (rz 1 0 0)) (.b (.lp [9] (.s (.s (.r (rz 5 0 16)) (.c (.n) (.n))) (.j [] (.b (.s (.r (rz 5 0 132)) (.s (.r (rz 4 0 128)) (.s (.r (ra 4 0 0 (.grp 49 true (ri 3 4 0) [52] (ra 2 7 0 (.grp 54 true (ri 7 9 4225) [61] (rz 1 16 0)))))) (.c (.r (rz 4 0 128)) (.n)))))) (.r (rz 3 0 0))))))) (.s (.r (rz 4 0 8)) (.n))))))) func23 rfl (by kernel_rfl) (by kernel_rfl) h
def JJ (t0 : Value) (w : World) (K : VW) : Prop:=
 pw w (Instr.box 38 t0) fun t1 w1=>
 za (fun K2=>
 lo w1.drew 38 t1 fun t7=>fl w1.drew t1 38 6 36 fun t9=>pp (Builtin.len_ #[36] 3 #[t9]) fun t10=>fl w1.drew t1 38 6 36 fun t13=>pp (Builtin.len_ #[36] 3 #[t13]) fun t14=>((pw w1.drew (Instr.makeSlice 75 t10 t10) fun t11 w6=>
 Ext w1.drew w6∧
 pw w6 (Instr.makeSlice 75 t14 t14) fun t15 w7=>
 Ext w6 w7∧
 pp (Instr.build 112 #[(0,t7),(1,t11),(2,t15)]) fun t16=>pw w7 (Instr.box 112 t16) fun t17 w8=>
 K2 [t17] w8)∧
 (pw w1.drew (Instr.makeSlice 75 t14 t14) fun t15_10 w9=>
 Ext w1.drew w9∧
 pw w9 (Instr.makeSlice 75 t10 t10) fun t11_12 w11=>
 Ext w9 w11∧
 pp (Instr.build 112 #[(0,t7),(1,t11_12),(2,t15_10)]) fun t16_13=>pw w11 (Instr.box 112 t16_13) fun t17_15 w14=>
 K2 [t17_15] w14))) (fun s3 _d4 w5=>
 ca xK #[(s3.getD 0 undef),(i6 0)] w5 fun _t19 w16=>
 ff w16 (s3.getD 0 undef) 112 3 28 fun t23=>pp (Builtin.len_ #[28] 3 #[t23]) fun t24=>bt .sub 3 t24 (i6 1) fun t25=>zm [(Value.slice Option.none 0 0),t25] w16 (fun s18 _d19 w20 K17=>
 bt .geq 3 (s18.getD 1 undef) (i6 0) fun t27=>zc t27 (ff w20 (s3.getD 0 undef) 112 3 28 fun t34=>xl w20 28 t34 (s18.getD 1 undef) 3 fun t37=>pw w20 (Instr.buildSlice 28 1 #[(0,t37)]) fun t38 w21=>
 pw w21 (Builtin.append_ #[28,28] 28 #[(s18.getD 0 undef),t38]) fun t39 w22=>
 bt .sub 3 (s18.getD 1 undef) (i6 1) fun t29=>K17 [t39,t29] w22) (ff w20.drew (s3.getD 0 undef) 112 4 46 fun t44=>K (.tuple #[(s18.getD 0 undef),t44]) w20.drew)))
theorem adB {t0 : Value} {w : World} {K : VW} (h : JJ t0 w K) : zd prog Ys #[t0] w K:=
 okC false (.s (.r (rz 3 0 2)) (.j [4] (.r (ra 4 0 17 (ra 3 5 4 (.alt 4 .u (rz 4 8 35) (ra 1 8 3 (ra 1 4 3 (rz 3 9 8))))))) (.s (.r (rz 2 0 8)) (.s (.r (rz 1 0 0)) (.s (.s (.r (rz 7 0 64)) (.b (.lp [5,6] (.s (.s (.r (rz 2 0 0)) (.c (.n) (.n))) (.s (.b (.r (rz 11 0 672000))) (.r (rz 3 0 0))))))) (.s (.r (rz 7 0 256)) (.n))))))) func27 rfl (by kernel_rfl) (by kernel_rfl) h
def QD (t0 : Value) (w : World) (K : VW) : Prop:=
 pw w (Instr.box 38 t0) fun t1 w1=>
 fl w1 t1 38 6 36 fun t10=>pp (Builtin.len_ #[36] 3 #[t10]) fun t11=>pw w1 (Instr.makeSlice 28 t11 t11) fun t12 w2=>
 fl w2 t1 38 6 36 fun t14=>pp (Builtin.len_ #[36] 3 #[t14]) fun t15=>pw w2 (Instr.makeSlice 97 t15 t15) fun t16 w3=>
 zm [(i6 0)] w3 (fun s5 _d6 w7 K4=>
 fl w7 t1 38 6 36 fun t19=>pp (Builtin.len_ #[36] 3 #[t19]) fun t20=>bf .lss 3 (s5.getD 0 undef) t20 fun t21=>zc t21 (lo w7 38 t1 fun t26=>ca kJ #[t26,(s5.getD 0 undef)] w7 fun t28 w8=>
 px 97 t16 (s5.getD 0 undef) fun t29=>so w8 28 t29 t28 fun w9=>bt .add 3 (s5.getD 0 undef) (i6 1) fun t23=>K4 [t23] w9) (zm [(i6 0)] w7 (fun s11 _d12 w13 K10=>
 fl w13 t1 38 6 36 fun t32=>pp (Builtin.len_ #[36] 3 #[t32]) fun t33=>bf .lss 3 (s11.getD 0 undef) t33 fun t34=>zc t34 (px 28 t12 (s11.getD 0 undef) fun t39=>so w13 3 t39 (i6 (-1)) fun w14=>zm [(i6 0)] w14 (fun s16 _d17 w18 K15=>
 xl w18 97 t16 (s11.getD 0 undef) 28 fun t44=>pp (Builtin.len_ #[28] 3 #[t44]) fun t45=>bf .lss 3 (s16.getD 0 undef) t45 fun t46=>za (fun K19=>gIf t46 true (bt .gtr 3 (s11.getD 0 undef) (i6 0) fun t49=>K19 [t49] w18) (K19 [undef] w18)) (fun s20 _d21 w22=>
 zb t46 (s20.getD 0 undef) fa_ fun t50=>zc t50 (za (fun K23=>
 xl w22 97 t16 (s11.getD 0 undef) 28 fun t56=>xl w22 28 t56 (s16.getD 0 undef) 3 fun t59=>bf .neq 3 t59 (s11.getD 0 undef) fun t62=>za (fun K27=>gIf t62 true (xl w22.drew 97 t16 t59 28 fun t67=>pp (Builtin.len_ #[28] 3 #[t67]) fun t68=>xl w22.drew 97 t16 (s11.getD 0 undef) 28 fun t72=>pp (Builtin.len_ #[28] 3 #[t72]) fun t73=>bt .sub 3 t73 (i6 1) fun t74=>bf .eql 3 t68 t74 fun t75=>K27 [t75] w22.drew) (K27 [undef] w22.drew)) (fun s28 _d29 w30=>
 zb t62 (s28.getD 0 undef) fa_ fun t76=>zc t76 (px 28 t12 (s11.getD 0 undef) fun t80=>so w30 3 t80 t59 fun w31=>K23 [] w31) (K23 [] w30))) (fun _s24 _d25 w26=>
 bt .add 3 (s16.getD 0 undef) (i6 1) fun t52=>K15 [t52] w26)) (bt .add 3 (s11.getD 0 undef) (i6 1) fun t36=>K10 [t36] w22)))) (K t12 w13))))
theorem ace {t0 : Value} {w : World} {K : VW} (h : QD t0 w K) : zd prog ZL #[t0] w K:=
 okC false (.s (.r (rz 2 0 2)) (.s (.r (rz 5 0 132)) (.s (.r (rz 5 0 132)) (.s (.s (.r (rz 1 0 0)) (.b (.lp [5] (.s (.s (.r (rz 5 0 16)) (.c (.n) (.n))) (.s (.b (.r (rz 7 0 8720))) (.r (rz 3 0 0))))))) (.s (.s (.r (rz 1 0 0)) (.b (.lp [6] (.s (.s (.r (rz 5 0 16)) (.c (.n) (.n))) (.s (.b (.s (.r (rz 4 0 128)) (.s (.r (rz 1 0 0)) (.b (.lp [7] (.s (.s (.r (ra 8 0 256 (.grp 47 true (ri 2 8 0) [49] (rz 1 10 0)))) (.c (.n) (.n))) (.j [] (.b (.s (.r (rz 8 0 4160)) (.s (.r (ra 4 0 0 (.grp 63 true (ri 12 4 65600) [75] (rz 1 16 0)))) (.c (.r (rz 5 0 512)) (.n))))) (.r (rz 3 0 0))))))))) (.r (rz 3 0 0))))))) (.s (.r (rz 2 0 0)) (.n))))))) func28 rfl (by kernel_rfl) (by kernel_rfl) h
def abo (t0 t1 : Value) (w : World) (K : VW) : Prop:=
 pw w (Instr.box 38 t0) fun t2 w1=>
 zm [(i6 0)] w1 (fun s3 _d4 w5 K2=>
 pp (Builtin.len_ #[28] 3 #[t1]) fun t9=>bf .lss 3 (s3.getD 0 undef) t9 fun t10=>zc t10 (xl w5.drew 28 t1 (s3.getD 0 undef) 3 fun t16=>bt .lss 3 t16 (i6 0) fun t17=>za (fun K6=>gIf t17 false (xl w5.drew 28 t1 (s3.getD 0 undef) 3 fun t22=>fl w5.drew t2 38 6 36 fun t24=>pp (Builtin.len_ #[36] 3 #[t24]) fun t25=>bf .geq 3 t22 t25 fun t26=>K6 [t26] w5.drew) (K6 [undef] w5.drew)) (fun s7 _d8 w9=>
 zb t17 tr_ (s7.getD 0 undef) fun t27=>za (fun K10=>gIf t27 false (bt .gtr 3 (s3.getD 0 undef) (i6 0) fun t30=>K10 [t30] w9) (K10 [undef] w9)) (fun s11 _d12 w13=>
 za (fun K14=>gIf (s11.getD 0 undef) true (lo w13 38 t2 fun t32=>bt .sub 3 (s3.getD 0 undef) (i6 1) fun t35=>xl w13 28 t1 t35 3 fun t37=>xl w13 28 t1 (s3.getD 0 undef) 3 fun t42=>ca xi #[t32,t37] w13 fun t38 w18=>
 Ext w13 w18∧
 ca qM #[t38,t42] w18 fun t43 w19=>
 pp (Op.unary .not t43) fun t44=>K14 [t44] w19) (K14 [undef] w13)) (fun s15 _d16 w17=>
 za (fun K20=>gIf t27 false (zb (s11.getD 0 undef) (s15.getD 0 undef) fa_ fun t45=>K20 [t45] w17) (K20 [undef] w17)) (fun s21 _d22 w23=>
 zb t27 tr_ (s21.getD 0 undef) fun t46=>zc t46 (K (.tuple #[(s3.getD 0 undef),fa_]) w23) (bt .add 3 (s3.getD 0 undef) (i6 1) fun t12=>K2 [t12] w23)))))) (pp (Builtin.len_ #[28] 3 #[t1]) fun t49=>bt .gtr 3 t49 (i6 0) fun t50=>K (.tuple #[(i6 0),t50]) w5))
theorem afv {t0 t1 : Value} {w : World} {K : VW} (h : abo t0 t1 w K) : zd prog XY #[t0,t1] w K:=
 okC false (.s (.r (rz 3 0 2)) (.s (.s (.r (rz 1 0 0)) (.b (.lp [6] (.s (.s (.r (rz 4 0 0)) (.c (.n) (.n))) (.s (.b (.s (.r (ra 6 0 64 (.grp 18 false (ri 8 6 1088) [26] (ra 2 14 0 (.grp 28 false (ri 3 16 0) [31] (.grp 31 true [(19,.q),(20,.p),(21,.p),(22,.p),(23,.p),(24,.q),(26,.p),(27,.p),(28,.p),(29,.q),(25,.u),(30,.l),(31,.p)] [44] (.grp 28 false (ri 1 32 0) [45] (rz 1 33 0)))))))) (.c (.s (.r (rz 3 0 0)) (.n)) (.n)))) (.r (rz 3 0 0))))))) (.s (.r (rz 5 0 0)) (.n)))) func31 rfl (by kernel_rfl) (by kernel_rfl) h
def VI (t0 t1 t2 t3 : Value) (w : World) (K : VW) : Prop:=
 pw w (Instr.box 38 t0) fun t4 w1=>
 fl w1 t4 38 6 36 fun t24=>pp (Builtin.len_ #[36] 3 #[t24]) fun t25=>pw w1 (Instr.makeSlice 75 t25 t25) fun t26 w2=>
 zm [(i6 0)] w2 (fun s4 _d5 w6 K3=>
 pp (Builtin.len_ #[28] 3 #[t3]) fun t29=>bf .lss 3 (s4.getD 0 undef) t29 fun t30=>zc t30 (xl w6 28 t3 (s4.getD 0 undef) 3 fun t37=>px 75 t26 t37 fun t38=>so w6 4 t38 tr_ fun w7=>bt .add 3 (s4.getD 0 undef) (i6 1) fun t32=>K3 [t32] w7) (bf .eql 3 t1 t2 fun t41=>zc t41 (pw w6 (Instr.buildSlice 28 1 #[(0,t1)]) fun t43 w8=>
 K (.tuple #[t43,tr_]) w8) (fl w6 t4 38 6 36 fun t45=>pp (Builtin.len_ #[36] 3 #[t45]) fun t46=>pw w6 (Instr.makeSlice 28 t46 t46) fun t47 w9=>
 zm [(i6 0)] w9 (fun s11 _d12 w13 K10=>
 pp (Builtin.len_ #[28] 3 #[t47]) fun t50=>bf .lss 3 (s11.getD 0 undef) t50 fun t51=>zc t51 (px 28 t47 (s11.getD 0 undef) fun t56=>so w13 3 t56 (i6 (-1)) fun w14=>bt .add 3 (s11.getD 0 undef) (i6 1) fun t53=>K10 [t53] w14) (px 28 t47 t2 fun t59=>so w13 3 t59 (i6 0) fun w15=>pw w15 (Instr.buildSlice 28 1 #[(0,t2)]) fun t61 w16=>
 zm [t61,(i6 0)] w16 (fun s18 _d19 w20 K17=>
 pp (Builtin.len_ #[28] 3 #[(s18.getD 0 undef)]) fun t64=>bf .lss 3 (s18.getD 1 undef) t64 fun t65=>zc t65 (lo w20.drew 38 t4 fun t68=>xl w20.drew 28 (s18.getD 0 undef) (s18.getD 1 undef) 3 fun t72=>ca qL #[t68,t72] w20.drew fun t73 w21=>
 zm [(s18.getD 0 undef),(i6 0)] w21 (fun s23 _d24 w25 K22=>
 pp (Builtin.len_ #[28] 3 #[t73]) fun t76=>bf .lss 3 (s23.getD 1 undef) t76 fun t77=>zc t77 (za (fun K26=>
 xl w25 28 t73 (s23.getD 1 undef) 3 fun t84=>xl w25 28 t47 t84 3 fun t86=>bt .lss 3 t86 (i6 0) fun t87=>za (fun K30=>gIf t87 true (xl w25 28 t73 (s23.getD 1 undef) 3 fun t93=>xl w25 75 t26 t93 4 fun t95=>pp (Op.unary .not t95) fun t96=>K30 [t96] w25) (K30 [undef] w25)) (fun s31 _d32 w33=>
 za (fun K34=>gIf (s31.getD 0 undef) false (xl w33 28 t73 (s23.getD 1 undef) 3 fun t101=>bf .eql 3 t101 t1 fun t103=>K34 [t103] w33) (K34 [undef] w33)) (fun s35 _d36 w37=>
 za (fun K38=>gIf t87 true (zb (s31.getD 0 undef) tr_ (s35.getD 0 undef) fun t104=>K38 [t104] w37) (K38 [undef] w37)) (fun s39 _d40 w41=>
 zb t87 (s39.getD 0 undef) fa_ fun t105=>zc t105 (xl w41.drew 28 t73 (s23.getD 1 undef) 3 fun t110=>xl w41.drew 28 (s23.getD 0 undef) (s18.getD 1 undef) 3 fun t115=>xl w41.drew 28 t47 t115 3 fun t117=>bt .add 3 t117 (i6 1) fun t118=>px 28 t47 t110 fun t119=>so w41.drew 3 t119 t118 fun w42=>xl w42 28 t73 (s23.getD 1 undef) 3 fun t123=>bf .neq 3 t123 t1 fun t125=>zc t125 (xl w42 28 t73 (s23.getD 1 undef) 3 fun t130=>pw w42 (Instr.buildSlice 28 1 #[(0,t130)]) fun t131 w43=>
 pw w43 (Builtin.append_ #[28,28] 28 #[(s23.getD 0 undef),t131]) fun t132 w44=>
 K26 [t132] w44) (K26 [(s23.getD 0 undef)] w42)) (K26 [(s23.getD 0 undef)] w41))))) (fun s27 _d28 w29=>
 bt .add 3 (s23.getD 1 undef) (i6 1) fun t79=>K22 [(s27.getD 0 undef),t79] w29)) (bt .add 3 (s18.getD 1 undef) (i6 1) fun t67=>K17 [(s23.getD 0 undef),t67] w25))) (xl w20 28 t47 t1 3 fun t136=>bt .lss 3 t136 (i6 0) fun t137=>zc t137 (K (.tuple #[(Value.slice Option.none 0 0),fa_]) w20) (pw w20 (Instr.buildSlice 28 1 #[(0,t1)]) fun t139 w45=>
 zm [t139,t1] w45 (fun s47 _d48 w49 K46=>
 bf .neq 3 (s47.getD 1 undef) t2 fun t143=>zc t143 (lo w49 38 t4 fun t144=>ca xi #[t144,(s47.getD 1 undef)] w49 fun t146 w50=>
 zm [(i6 (-1)),(i6 0)] w50 (fun s52 _d53 w54 K51=>
 pp (Builtin.len_ #[28] 3 #[t146]) fun t149=>bf .lss 3 (s52.getD 1 undef) t149 fun t150=>zc t150 (za (fun K55=>
 xl w54.drew 28 t146 (s52.getD 1 undef) 3 fun t157=>xl w54.drew 28 t47 t157 3 fun t159=>xl w54.drew 28 t47 (s47.getD 1 undef) 3 fun t163=>bt .sub 3 t163 (i6 1) fun t164=>bf .eql 3 t159 t164 fun t165=>za (fun K59=>gIf t165 true (xl w54.drew 28 t146 (s52.getD 1 undef) 3 fun t170=>bf .neq 3 t170 t1 fun t172=>K59 [t172] w54.drew) (K59 [undef] w54.drew)) (fun s60 _d61 w62=>
 zb t165 (s60.getD 0 undef) fa_ fun t173=>za (fun K63=>gIf t173 true (bt .lss 3 (s52.getD 0 undef) (i6 0) fun t176=>K63 [t176] w62) (K63 [undef] w62)) (fun s64 _d65 w66=>
 za (fun K67=>gIf (s64.getD 0 undef) false (xl w66 28 t146 (s52.getD 1 undef) 3 fun t181=>bf .lss 3 t181 (s52.getD 0 undef) fun t183=>K67 [t183] w66) (K67 [undef] w66)) (fun s68 _d69 w70=>
 za (fun K71=>gIf t173 true (zb (s64.getD 0 undef) tr_ (s68.getD 0 undef) fun t184=>K71 [t184] w70) (K71 [undef] w70)) (fun s72 _d73 w74=>
 zb t173 (s72.getD 0 undef) fa_ fun t185=>zc t185 (xl w74 28 t146 (s52.getD 1 undef) 3 fun t189=>K55 [t189] w74) (K55 [(s52.getD 0 undef)] w74)))))) (fun s56 _d57 w58=>
 bt .add 3 (s52.getD 1 undef) (i6 1) fun t152=>K51 [(s56.getD 0 undef),t152] w58)) (pw w54 (Instr.buildSlice 28 1 #[(0,(s52.getD 0 undef))]) fun t193 w75=>
 pw w75 (Builtin.append_ #[28,28] 28 #[(s47.getD 0 undef),t193]) fun t194 w76=>
 K46 [t194,(s52.getD 0 undef)] w76))) (K (.tuple #[(s47.getD 0 undef),tr_]) w49))))))))))
theorem aeV {t0 t1 t2 t3 : Value} {w : World} {K : VW} (h : VI t0 t1 t2 t3 w K) : zd prog Xp #[t0,t1,t2,t3] w K:=
 okC false (.s (.r (rz 3 0 2)) (.s (.r (rz 5 0 132)) (.s (.s (.r (rz 1 0 0)) (.b (.lp [11] (.s (.s (.r (rz 4 0 0)) (.c (.n) (.n))) (.s (.b (.r (rz 7 0 8448))) (.r (rz 3 0 0))))))) (.s (.s (.r (rz 3 0 0)) (.c (.s (.r (rz 4 0 8)) (.n)) (.n))) (.s (.r (rz 5 0 132)) (.s (.s (.r (rz 1 0 0)) (.b (.lp [13] (.s (.s (.r (rz 4 0 0)) (.c (.n) (.n))) (.s (.b (.r (rz 4 0 128))) (.r (rz 3 0 0))))))) (.s (.r (rz 4 0 128)) (.s (.r (rz 3 0 8)) (.s (.s (.r (rz 1 0 0)) (.b (.lp [14,15] (.s (.s (.r (rz 4 0 0)) (.c (.n) (.n))) (.s (.b (.s (.r (rz 7 0 2305)) (.s (.r (rz 1 0 0)) (.b (.lp [14,17] (.s (.s (.r (rz 4 0 0)) (.c (.n) (.n))) (.j [14] (.b (.s (.r (ra 9 0 4352 (.grp 88 true (ri 9 9 4352) [97] (.grp 97 false (ri 6 18 64) [103] (.grp 88 true (ri 1 24 0) [104] (rz 1 25 0)))))) (.c (.s (.r (rz 15 0 541327616)) (.s (.r (rz 6 0 64)) (.c (.r (rz 8 0 10496)) (.n)))) (.n)))) (.r (rz 3 0 0))))))))) (.r (rz 3 0 0))))))) (.s (.s (.r (rz 5 0 64)) (.c (.s (.r (rz 2 0 0)) (.n)) (.n))) (.s (.r (rz 3 0 8)) (.s (.s (.r (rz 2 0 0)) (.b (.lp [18,19] (.s (.s (.r (rz 3 0 0)) (.c (.n) (.n))) (.b (.s (.r (rz 4 0 33)) (.s (.r (rz 1 0 0)) (.s (.s (.r (rz 1 0 0)) (.b (.lp [21,22] (.s (.s (.r (rz 4 0 0)) (.c (.n) (.n))) (.j [21] (.b (.s (.r (ra 14 0 1052928 (.grp 166 true (ri 6 14 64) [172] (ra 2 20 0 (.grp 174 true (ri 3 22 0) [177] (.grp 177 false (ri 6 25 64) [183] (.grp 174 true (ri 1 31 0) [184] (rz 1 32 0)))))))) (.c (.r (rz 5 0 64)) (.n)))) (.r (rz 3 0 0))))))) (.s (.r (rz 2 0 0)) (.r (rz 5 0 160))))))))))) (.s (.r (rz 3 0 0)) (.n)))))))))))))) func32 rfl (by kernel_rfl) (by kernel_rfl) h
def JK (t0 t1 : Value) (w : World) (K : VW) : Prop:=
 pw w (Instr.box 38 t0) fun t2 w1=>
 lo w1 38 t2 fun t5=>ca Yq #[t5,t1] w1 fun t7 w2=>
 K t7 w2
theorem adC {t0 t1 : Value} {w : World} {K : VW} (h : JK t0 t1 w K) : zd prog xi #[t0,t1] w K:=
 okC false (.s (.r (rz 2 0 2)) (.s (.r (rz 4 0 33)) (.n))) func49 rfl (by kernel_rfl) (by kernel_rfl) h
def abp (t0 t1 : Value) (w : World) (K : VW) : Prop:=
 zm [(i6 0)] w (fun s2 _d3 w4 K1=>
 pp (Builtin.len_ #[28] 3 #[t0]) fun t8=>bf .lss 3 (s2.getD 0 undef) t8 fun t9=>zc t9 (xl w4 28 t0 (s2.getD 0 undef) 3 fun t15=>bf .eql 3 t15 t1 fun t17=>zc t17 (K tr_ w4) (bt .add 3 (s2.getD 0 undef) (i6 1) fun t11=>K1 [t11] w4)) (K fa_ w4))
theorem afw {t0 t1 : Value} {w : World} {K : VW} (h : abp t0 t1 w K) : zd prog qM #[t0,t1] w K:=
 okC false (.s (.r (rz 1 0 0)) (.s (.s (.r (rz 1 0 0)) (.b (.lp [5] (.s (.s (.r (rz 4 0 0)) (.c (.n) (.n))) (.s (.b (.s (.r (rz 6 0 64)) (.c (.s (.r (rz 1 0 0)) (.n)) (.n)))) (.r (rz 3 0 0))))))) (.s (.r (rz 1 0 0)) (.n)))) func63 rfl (by kernel_rfl) (by kernel_rfl) h
def XV (t0 : Value) (w : World) (K : VW) : Prop:=
 zm [(Value.slice Option.none 0 0),(i6 0)] w (fun s2 _d3 w4 K1=>
 pp (Builtin.len_ #[75] 3 #[t0]) fun t7=>bf .lss 3 (s2.getD 1 undef) t7 fun t8=>zc t8 (za (fun K5=>
 xl w4 75 t0 (s2.getD 1 undef) 4 fun t14=>zc t14 (pw w4 (Instr.buildSlice 28 1 #[(0,(s2.getD 1 undef))]) fun t17 w9=>
 pw w9 (Builtin.append_ #[28,28] 28 #[(s2.getD 0 undef),t17]) fun t18 w10=>
 K5 [t18] w10) (K5 [(s2.getD 0 undef)] w4)) (fun s6 _d7 w8=>
 bt .add 3 (s2.getD 1 undef) (i6 1) fun t10=>K1 [(s6.getD 0 undef),t10] w8)) (K (s2.getD 0 undef) w4))
theorem abq {t0 : Value} {w : World} {K : VW} (h : XV t0 w K) : zd prog qN #[t0] w K:=
 okC false (.s (.r (rz 1 0 0)) (.s (.r (rz 1 0 0)) (.s (.s (.r (rz 1 0 0)) (.b (.lp [3,4] (.s (.s (.r (rz 4 0 0)) (.c (.n) (.n))) (.j [3] (.b (.s (.r (rz 4 0 64)) (.c (.r (rz 5 0 160)) (.n)))) (.r (rz 3 0 0))))))) (.s (.r (rz 2 0 0)) (.n))))) func64 rfl (by kernel_rfl) (by kernel_rfl) h
def QE (t0 t1 t2 : Value) (w : World) (K : VW) : Prop:=
 pw w (Instr.box 38 t0) fun t3 w1=>
 fl w1 t3 38 6 36 fun t13=>pp (Builtin.len_ #[36] 3 #[t13]) fun t14=>pw w1 (Instr.makeSlice 75 t14 t14) fun t15 w2=>
 px 75 t15 t1 fun t18=>so w2 4 t18 tr_ fun w3=>pw w3 (Instr.buildSlice 28 1 #[(0,t1)]) fun t20 w4=>
 zm [t20,(i6 0)] w4 (fun s6 _d7 w8 K5=>
 pp (Builtin.len_ #[28] 3 #[(s6.getD 0 undef)]) fun t23=>bf .lss 3 (s6.getD 1 undef) t23 fun t24=>zc t24 (za (fun K9=>
 bt .gtr 3 (s6.getD 1 undef) (i6 0) fun t28=>za (fun K13=>gIf t28 true (xl w8 28 (s6.getD 0 undef) (s6.getD 1 undef) 3 fun t34=>xl w8 75 t2 t34 4 fun t36=>K13 [t36] w8) (K13 [undef] w8)) (fun s14 _d15 w16=>
 zb t28 (s14.getD 0 undef) fa_ fun t37=>zc t37 (K9 [(s6.getD 0 undef)] w16) (lo w16.drew 38 t3 fun t38=>xl w16.drew 28 (s6.getD 0 undef) (s6.getD 1 undef) 3 fun t42=>ca xi #[t38,t42] w16.drew fun t43 w17=>
 zm [(s6.getD 0 undef),(i6 0)] w17 (fun s19 _d20 w21 K18=>
 pp (Builtin.len_ #[28] 3 #[t43]) fun t46=>bf .lss 3 (s19.getD 1 undef) t46 fun t47=>zc t47 (za (fun K22=>
 xl w21 28 t43 (s19.getD 1 undef) 3 fun t54=>xl w21 75 t15 t54 4 fun t56=>pp (Op.unary .not t56) fun t57=>zc t57 (xl w21 28 t43 (s19.getD 1 undef) 3 fun t62=>px 75 t15 t62 fun t63=>so w21 4 t63 tr_ fun w26=>xl w26 28 t43 (s19.getD 1 undef) 3 fun t68=>pw w26 (Instr.buildSlice 28 1 #[(0,t68)]) fun t69 w27=>
 pw w27 (Builtin.append_ #[28,28] 28 #[(s19.getD 0 undef),t69]) fun t70 w28=>
 K22 [t70] w28) (K22 [(s19.getD 0 undef)] w21)) (fun s23 _d24 w25=>
 bt .add 3 (s19.getD 1 undef) (i6 1) fun t49=>K18 [(s23.getD 0 undef),t49] w25)) (K9 [(s19.getD 0 undef)] w21))))) (fun s10 _d11 w12=>
 bt .add 3 (s6.getD 1 undef) (i6 1) fun t26=>K5 [(s10.getD 0 undef),t26] w12)) (K t15 w8))
theorem acf {t0 t1 t2 : Value} {w : World} {K : VW} (h : QE t0 t1 t2 w K) : zd prog xS #[t0,t1,t2] w K:=
 okC false (.s (.r (rz 2 0 2)) (.s (.r (rz 5 0 132)) (.s (.r (rz 4 0 128)) (.s (.r (rz 3 0 8)) (.s (.s (.r (rz 1 0 0)) (.b (.lp [8,9] (.s (.s (.r (rz 4 0 0)) (.c (.n) (.n))) (.j [8] (.b (.s (.s (.r (ra 3 0 0 (.grp 29 true (ri 7 3 4352) [36] (rz 1 10 0)))) (.c (.n) (.n))) (.s (.r (rz 7 0 2305)) (.s (.r (rz 1 0 0)) (.b (.lp [8,11] (.s (.s (.r (rz 4 0 0)) (.c (.n) (.n))) (.j [8] (.b (.s (.r (rz 8 0 4352)) (.c (.s (.r (rz 7 0 8448)) (.r (rz 8 0 10496))) (.n)))) (.r (rz 3 0 0)))))))))) (.r (rz 3 0 0))))))) (.s (.r (rz 2 0 0)) (.n))))))) func65 rfl (by kernel_rfl) (by kernel_rfl) h
def vL (t0 t1 : Value) (w : World) (K : VW) : Prop:=
 ff w t0 112 1 75 fun t9=>px 75 t9 t1 fun t11=>so w 4 t11 tr_ fun w1=>ff w1 t0 112 0 38 fun t15=>ca xi #[t15,t1] w1 fun t17 w2=>
 zm [(i6 0)] w2 (fun s4 _d5 w6 K3=>
 pp (Builtin.len_ #[28] 3 #[t17]) fun t20=>bf .lss 3 (s4.getD 0 undef) t20 fun t21=>zc t21 (za (fun K7=>
 ff w6.drew t0 112 1 75 fun t27=>xl w6.drew 28 t17 (s4.getD 0 undef) 3 fun t31=>xl w6.drew 75 t27 t31 4 fun t33=>pp (Op.unary .not t33) fun t34=>zc t34 (xl w6.drew 28 t17 (s4.getD 0 undef) 3 fun t39=>ca xK #[t0,t39] w6.drew fun _t40 w11=>
 K7 [] w11) (ff w6.drew.drew t0 112 2 75 fun t44=>xl w6.drew.drew 28 t17 (s4.getD 0 undef) 3 fun t48=>xl w6.drew.drew 75 t44 t48 4 fun t50=>pp (Op.unary .not t50) fun t51=>zc t51 (ff w6.drew.drew.drew t0 112 4 46 fun t56=>xl w6.drew.drew.drew 28 t17 (s4.getD 0 undef) 3 fun t61=>pp (Instr.build 52 #[(0,t1),(1,t61)]) fun t62=>pw w6.drew.drew.drew (Instr.buildSlice 46 1 #[(0,t62)]) fun t63 w12=>
 Ext w6.drew.drew.drew w12∧
 pw w12 (Builtin.append_ #[46,46] 46 #[t56,t63]) fun t64 w13=>
 fa t0 112 4 fun t66=>so w13 46 t66 t64 fun w14=>K7 [] w14) (K7 [] w6.drew.drew))) (fun _s8 _d9 w10=>
 bt .add 3 (s4.getD 0 undef) (i6 1) fun t23=>K3 [t23] w10)) (ff w6 t0 112 2 75 fun t70=>px 75 t70 t1 fun t72=>so w6 4 t72 tr_ fun w15=>ff w15 t0 112 3 28 fun t77=>pw w15 (Instr.buildSlice 28 1 #[(0,t1)]) fun t79 w16=>
 pw w16 (Builtin.append_ #[28,28] 28 #[t77,t79]) fun t80 w17=>
 fa t0 112 3 fun t82=>so w17 28 t82 t80 fun w18=>K (.tuple #[]) w18))
theorem Qf {t0 t1 : Value} {w : World} {K : VW} (h : vL t0 t1 w K) : zd prog xK #[t0,t1] w K:=
 okC false (.s (.r (rz 7 0 8256)) (.s (.r (rz 7 0 2112)) (.s (.s (.r (rz 1 0 0)) (.b (.lp [5] (.s (.s (.r (rz 4 0 0)) (.c (.n) (.n))) (.j [] (.b (.s (.r (rz 11 0 278592)) (.c (.r (rz 6 0 2304)) (.s (.r (rz 11 0 278592)) (.c (.r (rz 16 0 2193883392)) (.n)))))) (.r (rz 3 0 0))))))) (.s (.r (rz 7 0 8256)) (.r (rz 11 0 2138368)))))) func69 rfl (by kernel_rfl) (by kernel_rfl) h
end Go.Proofs.Tryz
end
section
namespace Go.Proofs
open Go.Sh Go.RowKit
set_option maxRecDepth 100000
set_option linter.unusedSimpArgs false
set_option linter.unusedVariables false
theorem qZ {g : GrD} {q : Int} {c : List Value} {w : World} {r : Gh} {K : Value→World→Prop} (hr : Holds r w) (hg : GrG r c g) (hq : isN (netG g) q)
  (h : ∀ v' s w',Ext w w'→New w s w'→SlG 1 s zu v' (nxt (netG g) q)→K v' w') : zd Tryz.prog Tryz.xi #[.agg c.toArray,.int .i64 q] w K:=by
 refine Tryz.adC ?_
 unfold Tryz.JK
 have hg0:=hg
 obtain ⟨x1,x2,x3,x4,y1,y2,y3,y4,rfl,_⟩:=xC hg
 have S:=St.start hr
 refine S.box fun b2 w1 S=>?_
 have S : StX noX w r w1 [.cell b2 (grL g x1 x2 x3 x4 y1 y2 y3 y4) 38]:=S
 refine S.ldB (b:=b2) ?_ rfl
 have h0:=hq.1;have h1:=hq.2
 rw [yj] at h1
 refine aeU S.holds hg0 h0 (by omega) rfl fun v' s w2 e2 n2 hs=>?_
 obtain ⟨S,_,a2⟩:=S.tell e2 n2
 rw [ai3 hq] at h
 exact h _ s _ S.ext (StX.newOf S a2) hs
theorem Qg {l : List Int} {x : Int} {v : Value} {w : World} {r : Gh} {K : Value→World→Prop} (hr : Holds r w) (hl : SlG 1 r zu v l) (hf : l.length≤maxLen)
  (h : K (.bool (decide (x ∈ l))) w) : zd Tryz.prog Tryz.qM #[v,.int .i64 x] w K:=by
 refine Tryz.afw ?_
 unfold Tryz.abp
 obtain ⟨p,cap,rfl,_,_⟩:=hl.shape
 have hf : l.length≤9223372036854775807:=hf
 refine zh (ι:=Nat) (fun i=>[.int .i64 (i : Nat)]) (fun i w'=>w'=w∧i≤l.length∧x ∉ l.take i) (fun i=>l.length - i) 0 rfl ⟨rfl,Nat.zero_le _,by simp⟩ ?_
 rintro i d w' ⟨rfl,hi,hn⟩ K1 hK1
 simp only [List.getD_cons_zero]
 refine gp_ ?_
 refine gp_ ?_
 refine zj (fun hlt=>?_) (fun hge=>?_)
 ·have hlt : i<l.length:=by omega
  obtain ⟨b,off,rfl,_,hc⟩:=zE hl hlt
  refine gp_ ?_
  refine zi (by rw [Int.toNat_natCast];exact hc _ hr) ?_
  refine gp_ ?_
  refine zj (fun he=>?_) (fun he=>?_)
  ·rw [decide_eq_true (by rw [← he];exact List.getElem_mem hlt)] at h
   exact h
  ·refine gp_ ?_
   refine hK1 (i+1) _ ⟨rfl,hlt,?_⟩ (by omega)
   rw [List.take_succ_eq_append_getElem hlt,List.mem_append,List.mem_singleton]
   exact fun h=>h.elim hn fun e=>he e.symm
 ·have : i=l.length:=by omega
  subst this
  rw [List.take_length] at hn
  rw [decide_eq_false hn] at h
  exact h
theorem aeW {m : List Bool} {v : Value} {w : World} {r : Gh} {K : Value→World→Prop} (hr : Holds r w) (hm : SlG 1 r xr v m) (hf : m.length≤1000000)
  (h : ∀ v' s w',Ext w w'→New w s w'→SlG 1 s zu v' (mkd m)→K v' w') : zd Tryz.prog Tryz.qN #[v] w K:=by
 refine Tryz.abq ?_
 unfold Tryz.XV
 obtain ⟨p,cap,rfl,_,_⟩:=hm.shape
 have S:=St.start hr
 have S:=S.ownNil 3 1
 refine zh (ι:=Nat × Value) (fun i=>[i.2,.int .i64 (i.1 : Nat)]) (fun i w'=>i.1≤m.length∧StX noX w r w' [.row i.2 3 1 (mkd (m.take i.1)).length (ints (mkd (m.take i.1)))]) (fun i=>m.length - i.1) (0,.slice none 0 0) rfl ⟨Nat.zero_le _,S⟩ ?_
 repeat clear S
 rintro ⟨i,vp⟩ d w1 ⟨hi,S⟩ K1 hK1
 simp only at hi S ⊢
 simp only [List.getD_cons_zero,List.getD_cons_succ]
 refine gp_ ?_
 refine gp_ ?_
 refine zj (fun hlt=>?_) (fun hge=>?_)
 ·have hlt : i<m.length:=by omega
  obtain ⟨b,off,rfl,_,hc⟩:=jU hm hlt
  have hsn:=aeK hlt
  have hml : (mkd (m.take i)).length≤1000000:=Nat.le_trans ab2 (by rw [List.length_take];omega)
  refine zp (fun s w'=>∃ vq,s = [vq]∧StX noX w r w' [.row vq 3 1 (mkd (m.take (i+1))).length (ints (mkd (m.take (i+1))))]) (fun K5 hK5=>?_) ?_
  ·refine gg_ ?_
   refine zi (by rw [Int.toNat_natCast];exact S.at hc) ?_
   refine c_b (fun hb=>?_) (fun hb=>?_)
   ·refine S.lit (e:=3) (cs:=[.int .i64 (i : Nat)]) (by kernel_rfl) fun b2 w2 S=>?_
    refine S.ap (m':=1) (Sl.blk (S.blk b2)) (fun v4 w3 S=>?_) (by omega)
    have S:=S.drop b2
    refine hK5 _ _ ⟨v4,rfl,?_⟩
    rw [hsn,if_pos hb,yo,List.length_append];exact S
   ·refine hK5 _ _ ⟨vp,rfl,?_⟩
    rw [hsn,if_neg (by rw [hb];simp),List.append_nil];exact S
  rintro s w2 ⟨vq,rfl,S⟩ d
  simp only [List.getD_cons_zero]
  refine gp_ ?_
  exact hK1 (i+1,vq) _ ⟨hlt,S⟩ (by show m.length - (i+1)<m.length - i;omega)
 have hie : i=m.length:=by omega
 subst hie
 rw [List.take_length] at S
 obtain ⟨s,T,hs,_,hab⟩:=S.doneRow zS (by decide) rfl
 exact h _ s _ T.ext (StX.newOf (q:=s) T fun b o ho=>(hab b o ho).resolve_right id) hs
theorem abr {n : zg} {i : Nat} (hi : i<n.length) : n[i]=nxt n (i : Nat):=by
 rw [xV ⟨Int.natCast_nonneg i,by omega⟩];simp
theorem JL {g : GrD} {q : Int} {c : List Value} {w : World} {r : Gh} {K : Value→World→Prop} (hr : Holds r w) (hg : GrG r c g) (hF : vZ (netG g))
  (h : ∀ v' s w',Ext w w'→New w s w'→SlG 1 s zu v' (befN (netG g) q)→K v' w') : zd Tryz.prog Tryz.qL #[.agg c.toArray,.int .i64 q] w K:=by
 refine Tryz.abn ?_
 unfold Tryz.XU
 have hg0:=hg
 obtain ⟨x1,x2,x3,x4,y1,y2,y3,y4,rfl,hg1⟩:=xC hg
 have hfew:=hF.few
 have hgl:=yj (g:=g)
 have S:=St.start hr
 refine S.box fun b2 w1 S=>?_
 have S : StX noX w r w1 [.cell b2 (grL g x1 x2 x3 x4 y1 y2 y3 y4) 38]:=S
 have S:=S.ownNil 3 1
 refine zh (ι:=Nat × Value) (fun i=>[i.2,.int .i64 (i.1 : Nat)]) (fun i w'=>i.1≤(netG g).length∧StX noX w r w' [.row i.2 3 1 (befN ((netG g).take i.1) q).length (ints (befN ((netG g).take i.1) q)),.cell b2 (grL g x1 x2 x3 x4 y1 y2 y3 y4) 38]) (fun i=>(netG g).length - i.1) (0,.slice none 0 0) rfl ⟨Nat.zero_le _,S⟩ ?_
 repeat clear S
 rintro ⟨i,vp⟩ d w3 ⟨hi,S⟩ K1 hK1
 simp only at hi S ⊢
 simp only [List.getD_cons_zero,List.getD_cons_succ]
 refine gg_ ?_
 refine zj (fun hlt=>?_) (fun hge=>?_)
 ·have hlt : i<(netG g).length:=by omega
  have hsn:=aeL (q:=q) hlt
  have hml : (befN ((netG g).take i) q).length≤1000000:=Nat.le_trans XT (by rw [List.length_take];omega)
  have hiN : isN (netG g) (i : Nat):=⟨Int.natCast_nonneg i,by omega⟩
  have hnl : (nxt (netG g) (i : Nat)).length≤2:=by rw [← abr hlt];exact hF.nar _ (List.getElem_mem hlt)
  refine zp (fun s w'=>∃ vq,s = [vq]∧StX noX w r w' [.row vq 3 1 (befN ((netG g).take (i+1)) q).length (ints (befN ((netG g).take (i+1)) q)),.cell b2 (grL g x1 x2 x3 x4 y1 y2 y3 y4) 38]) (fun K5 hK5=>?_) ?_
  ·refine S.ldB (b:=b2) ?_ rfl
   refine qZ S.holds hg0 hiN fun v' s w4 e4 n4 hs=>?_
   obtain ⟨S,_,_⟩:=S.tell e4 n4
   refine Qg S.holds hs.cells (Nat.le_trans hnl (by decide)) ?_
   rw [abr hlt] at hsn
   refine zj (fun hb=>?_) (fun hb=>?_)
   ·refine S.lit (e:=3) (cs:=[.int .i64 (i : Nat)]) (by kernel_rfl) fun b5 w5 S=>?_
    refine S.ap (m':=1) (Sl.blk (S.blk b5)) (fun v4 w6 S=>?_) (by omega)
    have S:=S.drop b5
    refine hK5 _ _ ⟨v4,rfl,?_⟩
    rw [hsn,if_pos hb,yo,List.length_append];exact S.to _
   ·refine hK5 _ _ ⟨vp,rfl,?_⟩
    rw [hsn,if_neg hb,List.append_nil];exact S.to _
  rintro s w4 ⟨vq,rfl,S⟩ d
  simp only [List.getD_cons_zero]
  refine gp_ ?_
  exact hK1 (i+1,vq) _ ⟨hlt,S⟩ (by show (netG g).length - (i+1)<(netG g).length - i;omega)
 have hie : i=(netG g).length:=by omega
 subst hie
 rw [List.take_length] at S
 obtain ⟨s,T,hs,_,hab⟩:=S.doneRow zS (by decide) rfl
 exact h _ s _ T.ext (StX.newOf (q:=s) T fun b o ho=>(hab b o ho).resolve_right id) hs
end Go.Proofs
end
section
namespace Go.Proofs
open Go.Sh Go.RowKit
set_option maxRecDepth 100000
set_option linter.unusedSimpArgs false
set_option linter.unusedVariables false
set_option maxHeartbeats 2000000 in
theorem Zn {g : GrD} {q : Int} {m0 : List Bool} {c : List Value} {vm : Value} {w : World} {r : Gh} {K : Value→World→Prop} (hr : Holds r w) (hg : GrG r c g) (hF : vZ (netG g)) (hq : isN (netG g) q) (hm : SlG 1 r xr vm m0) (hml : m0.length=(netG g).length)
  (h : ∀ v' s w',Ext w w'→New w s w'→SlG 1 s xr v' (xP (netG g) (fun x=>mk' m0 x=true) q)→K v' w') : zd Tryz.prog Tryz.xS #[.agg c.toArray,.int .i64 q,vm] w K:=by
 refine Tryz.acf ?_
 unfold Tryz.QE
 have hg0:=hg
 obtain ⟨x1,x2,x3,x4,y1,y2,y3,y4,rfl,hg1⟩:=xC hg
 obtain ⟨pm,capm,rfl,_,_⟩:=hm.shape
 have hfew:=hF.few
 have hgl:=yj (g:=g)
 have hok:=hF.ok
 have hnar:=hF.nar
 have S:=St.start hr
 refine S.box fun b3 w1 S=>?_
 have S : StX noX w r w1 [.cell b3 (grL g x1 x2 x3 x4 y1 y2 y3 y4) 38]:=S
 refine gg_ ?_
 rw [← hgl]
 have hN : ∀ x,isN (netG g) x→∀ {v' : Value} {s : Gh},True:=fun _ _ _ _=>trivial
 generalize hnn : netG g=nn at *
 have q0:=hq.1;have q1:=hq.2
 refine S.mkS (by omega) (by omega) fun b15 w2 S=>?_
 rw [Int.toNat_natCast] at S ⊢
 rw [kv] at S
 refine gp_ ?_
 refine S.st (b:=b15) (fun w3 S=>?_) (by rw [yI,List.length_replicate];omega)
 refine S.lit (e:=3) (cs:=[.int .i64 q]) (by kernel_rfl) fun b20 w4 S=>?_
 have S:=S.toRow 1 1 rfl (by decide)
 have S : StX noX w r w4 [.row (.slice (some ⟨b20,0,none⟩) 1 1) 3 1 1 (ints [q]),.cell b15 (bls (zy (List.replicate nn.length false) q)) 4,.cell b3 (grL g x1 x2 x3 x4 y1 y2 y3 y4) 38]:=by
  rw [← y7 q0];exact S
 have hB:=Bfs.start (stop:=fun x=>mk' m0 x=true) hq
 have hoff : off (zy (List.replicate nn.length false) q)+1=nn.length:=by
  have:=abw (m:=List.replicate nn.length false) (q:=q) (by rw [List.length_replicate];omega) (by rw [mk',List.getD_eq_getElem?_getD,List.getElem?_replicate];split<;>rfl)
  rw [afA] at this;exact this
 refine zh (ι:=Value × Nat × List Bool × List Int) (fun i=>[i.1,.int .i64 (i.2.1 : Nat)]) (fun i w'=>i.2.1≤i.2.2.2.length∧Bfs nn (fun x=>mk' m0 x=true) q noE i.2.2.1 (i.2.2.2.drop i.2.1)∧(∃ rest,i.2.2.2=q::rest∧q ∉ rest)∧i.2.2.2.length+off i.2.2.1=nn.length∧
   StX noX w r w' [.row i.1 3 1 i.2.2.2.length (ints i.2.2.2),.cell b15 (bls i.2.2.1) 4,.cell b3 (grL g x1 x2 x3 x4 y1 y2 y3 y4) 38])
  (fun i=>2*off i.2.2.1+(i.2.2.2.length - i.2.1)) (.slice (some ⟨b20,0,none⟩) 1 1,0,zy (List.replicate nn.length false) q,[q]) rfl ⟨Nat.zero_le _,hB,⟨[],rfl,by simp⟩,by show ([q] : List Int).length+off (zy (List.replicate nn.length false) q)=nn.length;rw [List.length_singleton];omega,S⟩ ?_
 repeat clear S
 clear hB hoff
 rintro ⟨vt,i,m,todo⟩ d w5 ⟨hi,hB,hqr,hlo,S⟩ K5 hK5
 simp only at hi hB hqr hlo S ⊢
 simp only [List.getD_cons_zero,List.getD_cons_succ]
 obtain ⟨pt,capt,rfl,_,_,_,hst⟩:=S.rowS vt
 have hmn:=hB.len
 refine gp_ ?_
 refine gp_ ?_
 refine zj (fun hlt=>?_) (fun hge=>?_)
 ·have hlt : i<todo.length:=by omega
  obtain ⟨bt,ot,rfl,hct⟩:=hst.at (i:=i) (by rw [zI];exact hlt)
  have hvt : (ints todo)[i]'(by rw [zI];exact hlt) = .int .i64 todo[i]:=by simp [ints]
  rw [hvt] at hct
  have hdr : todo.drop i=todo[i]::todo.drop (i+1):=List.drop_eq_getElem_cons hlt
  rw [hdr] at hB
  obtain ⟨hxN,_,_⟩:=hB.todo _ List.mem_cons_self
  obtain ⟨x,hx⟩ : ∃ x,x=todo[i]:=⟨_,rfl⟩
  rw [← hx] at hB hct hxN hdr
  have x0:=hxN.1;have x1':=hxN.2
  have hxq : i=0→x=q:=fun e=>by
   obtain ⟨rest,e2,_⟩:=hqr
   subst e
   rw [hx];simp [e2]
  have hxq' : 0<i→x≠q:=fun e h=>by
   obtain ⟨rest,e2,hn⟩:=hqr
   apply hn
   rw [← h,hx]
   have : todo[i]=(q::rest)[i]'(by rw [← e2];exact hlt):=by simp [e2]
   rw [this]
   obtain ⟨j,rfl⟩ : ∃ j,i=j+1:=⟨i - 1,by omega⟩
   simp
  refine zp (fun y w'=>∃ vt' m' todo',y = [vt']∧i+1≤todo'.length∧Bfs nn (fun x=>mk' m0 x=true) q noE m' (todo'.drop (i+1))∧(∃ rest,todo'=q::rest∧q ∉ rest)∧todo'.length+off m'=nn.length∧2*off m'+(todo'.length - (i+1))<2*off m+(todo.length - i)∧
   StX noX w r w' [.row vt' 3 1 todo'.length (ints todo'),.cell b15 (bls m') 4,.cell b3 (grL g x1 x2 x3 x4 y1 y2 y3 y4) 38]) (fun K9 hK9=>?_) ?_
  ·refine gg_ ?_
   refine zf (c:=mk' m0 x) (fun hi0 K2 hK2=>?_) ?_
   ·obtain ⟨bm,om,rfl,_,hcm⟩:=jU hm (i:=x.toNat) (by omega)
    have e : m0[x.toNat]'(by omega)=mk' m0 x:=by rw [mk',List.getD_eq_getElem?_getD,List.getElem?_eq_getElem (by omega)];rfl
    rw [e] at hcm
    refine gg_ ?_
    refine zi (by rw [Int.toNat_natCast];exact hct) ?_
    refine gg_ ?_
    refine zi (S.at hcm) ?_
    exact hK2
   refine c_b (fun hsk=>?_) (fun hsk=>?_)
   ·simp only [Bool.and_eq_true,decide_eq_true_eq] at hsk
    exact hK9 _ _ ⟨_,m,todo,rfl,hlt,hB.skip ⟨hxq' (by omega),hsk.2⟩,hqr,hlo,by omega,S⟩
   have hgo : x=q∨¬ mk' m0 x=true:=by
    by_cases h0 : i=0
    ·exact .inl (hxq h0)
    ·refine .inr fun hk=>?_
     rw [hk,Bool.and_true,decide_eq_false_iff_not] at hsk
     omega
   have hB2:=hB.go hok hgo
   have S:=S.go (Ext.drew _)
   refine S.ldB (b:=b3) ?_ rfl
   refine gg_ ?_
   refine zi (by rw [Int.toNat_natCast,World.cell?_drew];exact hct) ?_
   refine qZ S.holds hg0 (by rw [hnn];exact hxN) fun v2 s2 w6 e6 n6 hs2=>?_
   obtain ⟨S,_,a6⟩:=S.tell e6 n6
   rw [hnn] at hs2
   obtain ⟨p2,c2,rfl,_,_⟩:=hs2.shape
   have hl2 : ∀ y ∈ nxt nn x,isN nn y:=fun y hy=>yu hok hy
   have hlf : (nxt nn x).length≤2:=by rw [xV hxN];exact hnar _ (List.getElem_mem _)
   have hqm:=hB.from'
   have htd : todo=todo.take (i+1)++todo.drop (i+1):=(List.take_append_drop _ _).symm
   generalize nxt nn x=l at hs2 hl2 hlf hB2
   have hvis : ∀ k,k≤l.length→_:=fun k (hk : k≤l.length)=>QO (n:=nn) (l:=l.take k) (m:=m) (qs:=todo) hmn fun y hy=>hl2 y (List.mem_of_mem_take hy)
   refine zh (ι:=Value × Nat) (fun i=>[i.1,.int .i64 (i.2 : Nat)]) (fun k w'=>k.2≤l.length∧StX noX w (r.or s2) w' [.row k.1 3 1 ((l.take k.2).foldl zo (m,todo)).2.length (ints ((l.take k.2).foldl zo (m,todo)).2),.cell b15 (bls ((l.take k.2).foldl zo (m,todo)).1) 4,.cell b3 (grL g x1 x2 x3 x4 y1 y2 y3 y4) 38])
    (fun k=>l.length - k.2) (.slice (some ⟨bt,ot,none⟩) todo.length capt,0) rfl ⟨Nat.zero_le _,S⟩ ?_
   repeat clear S
   rintro ⟨vt2,k⟩ d w7 ⟨hk,S⟩ K18 hK18
   simp only at hk S ⊢
   simp only [List.getD_cons_zero,List.getD_cons_succ]
   obtain ⟨g1,g2,g3,_,_,_⟩:=hvis k hk
   refine gg_ ?_
   refine zj (fun hltk=>?_) (fun hgek=>?_)
   ·have hltk : k<l.length:=by omega
    obtain ⟨bu,ou,rfl,_,hcu⟩:=zE hs2 hltk
    have hst2 : (l.take (k+1)).foldl zo (m,todo)=zo ((l.take k).foldl zo (m,todo)) l[k]:=by
     rw [List.take_succ_eq_append_getElem hltk,List.foldl_append];rfl
    have hy:=hl2 l[k] (List.getElem_mem hltk)
    have y0:=hy.1;have y1':=hy.2
    generalize l[k]=y at hcu hst2 y0 y1'
    generalize (l.take k).foldl zo (m,todo)=st at hst2 S g1 g2 g3
    obtain ⟨m2,qs2⟩:=st
    simp only at S g1 g2 g3
    refine zp (fun s w'=>∃ v2,s = [v2]∧StX noX w (r.or s2) w' [.row v2 3 1 (zo (m2,qs2) y).2.length (ints (zo (m2,qs2) y).2),.cell b15 (bls (zo (m2,qs2) y).1) 4,.cell b3 (grL g x1 x2 x3 x4 y1 y2 y3 y4) 38]) (fun K22 hK22=>?_) ?_
    ·refine gg_ ?_
     refine zi (by rw [Int.toNat_natCast];exact S.at hcu) ?_
     refine gg_ ?_
     refine S.ld (b:=b15) ?_ (aeM (by omega))
     refine gp_ ?_
     refine c_b (fun hmk=>?_) (fun hmk=>?_)
     ·have hmk : mk' m2 y=false:=by simpa using hmk
      have e : zo (m2,qs2) y=(zy m2 y,qs2 ++ [y]):=by rw [zo,if_neg (by rw [hmk];simp)]
      refine gg_ ?_
      refine zi (by rw [Int.toNat_natCast];exact S.at hcu) ?_
      refine gg_ ?_
      refine S.st (b:=b15) (fun w8 S=>?_) (by rw [yI];omega)
      have S : StX noX w (r.or s2) w8 [.row vt2 3 1 qs2.length (ints qs2),.cell b15 (bls (zy m2 y)) 4,.cell b3 (grL g x1 x2 x3 x4 y1 y2 y3 y4) 38]:=by
       rw [← y7 y0];exact S
      refine gg_ ?_
      refine zi (by rw [Int.toNat_natCast];exact S.at hcu) ?_
      refine S.lit (e:=3) (cs:=[.int .i64 y]) (by kernel_rfl) fun b49 w9 S=>?_
      refine S.ap (v:=vt2) (m':=1) (Sl.blk (S.blk b49)) (fun v50 w10 S=>?_) (by omega)
      refine hK22 _ _ ⟨v50,rfl,?_⟩
      rw [e,List.length_append,yo]
      exact S.drop b49
     ·have hmk : mk' m2 y=true:=by simpa using hmk
      have e : zo (m2,qs2) y=(m2,qs2):=by rw [zo,if_pos hmk]
      refine hK22 _ _ ⟨vt2,rfl,?_⟩
      rw [e];exact S
    rintro s w8 ⟨v2,rfl,S⟩ d
    simp only [List.getD_cons_zero]
    refine gp_ ?_
    refine hK18 (v2,k+1) _ ⟨hltk,?_⟩ (by show l.length - (k+1)<l.length - k;omega)
    show StX noX w (r.or s2) w8 [.row v2 3 1 ((l.take (k+1)).foldl zo (m,todo)).2.length (ints ((l.take (k+1)).foldl zo (m,todo)).2),.cell b15 (bls ((l.take (k+1)).foldl zo (m,todo)).1) 4,.cell b3 (grL g x1 x2 x3 x4 y1 y2 y3 y4) 38]
    rw [hst2];exact S
   have hke : k=l.length:=by omega
   subst hke
   obtain ⟨_,_,_,_,g5,g6⟩:=hvis l.length (Nat.le_refl _)
   rw [List.take_length] at S g1 g2 g3 g5 g6
   have hva:=agN (l:=l) (m:=m) (A:=todo.take (i+1)) (qs:=todo.drop (i+1))
   rw [← htd] at hva
   have hA : (todo.take (i+1)).length=i+1:=by rw [List.length_take];omega
   have hd2 : (l.foldl zo (m,todo)).2.drop (i+1)=(l.foldl zo (m,todo.drop (i+1))).2:=by rw [hva];exact List.drop_left' hA
   have h1e : (l.foldl zo (m,todo)).1=(l.foldl zo (m,todo.drop (i+1))).1:=by rw [hva]
   have hlen2 : i+1≤(l.foldl zo (m,todo)).2.length:=by rw [hva,List.length_append,hA];omega
   refine hK9 _ _ ⟨vt2,(l.foldl zo (m,todo)).1,(l.foldl zo (m,todo)).2,rfl,hlen2,by rw [hd2,h1e];exact hB2,?_,by omega,by omega,S.to _⟩
   obtain ⟨rest,e2,hn⟩:=hqr
   obtain ⟨t,ht⟩:=g6
   refine ⟨rest++t,by rw [← ht,e2];rfl,fun hm=>?_⟩
   rcases List.mem_append.1 hm with hm|hm
   ·exact hn hm
   ·
    have hnew : ∀ {l : List Int} {m : List Bool} {A : List Int} {t : List Int},m.length=nn.length→(∀ y ∈ l,isN nn y)→mk' m q=true→(l.foldl zo (m,A)).2=A++t→q ∉ t:=by
     intro l
     induction l with
     |nil=>
      intro m A t _ _ _ e
      have : t = []:=by simpa using e.symm
      rw [this];simp
     |cons y l ih=>
      intro m A t hl hy hk e
      rw [List.foldl_cons] at e
      by_cases hky : mk' m y=true
      ·have e1 : zo (m,A) y=(m,A):=by rw [zo,if_pos hky]
       rw [e1] at e
       exact ih hl (fun z hz=>hy z (List.mem_cons_of_mem _ hz)) hk e
      ·have e1 : zo (m,A) y=(zy m y,A ++ [y]):=by rw [zo,if_neg hky]
       rw [e1] at e
       obtain ⟨_,_,_,_,_,t2,ht2⟩:=QO (n:=nn) (l:=l) (m:=zy m y) (qs:=A ++ [y]) (by rw [zG];exact hl) fun z hz=>hy z (List.mem_cons_of_mem _ hz)
       have hyN:=hy y List.mem_cons_self
       have hk2 : mk' (zy m y) q=true:=by rw [xt hyN.1 (by rw [hl];exact hyN.2) q0,hk,Bool.or_true]
       have h3:=ih (t:=t2) (by rw [zG];exact hl) (fun z hz=>hy z (List.mem_cons_of_mem _ hz)) hk2 ht2.symm
       rw [← ht2,List.append_assoc] at e
       have h4:=List.append_cancel_left e
       rw [← h4,List.singleton_append,List.mem_cons]
       rintro (e5|e5)
       ·rw [← e5] at hky;exact hky hk
       ·exact h3 e5
    exact hnew (t:=t) hmn hl2 hqm ht.symm hm
  rintro y w6 ⟨vt',m',todo',rfl,i1,i2,i3,i4,i5,S⟩ d
  simp only [List.getD_cons_zero]
  refine gp_ ?_
  exact hK5 (vt',i+1,m',todo') _ ⟨i1,i2,i3,i4,S⟩ i5
 have hie : i=todo.length:=by omega
 subst hie
 rw [List.drop_length] at hB
 have hm':=hB.end hok hq
 subst hm'
 have S:=S.tl.swap.tl
 obtain ⟨S,hs,ha⟩:=S.litNew b15 (sz:=1) (R:=xr) (l:=xP nn (fun x=>mk' m0 x=true) q) xm (by decide)
 rw [yN] at hs
 exact h _ _ _ S.ext (S.newOf ha) hs
end Go.Proofs
end
section
namespace Go.Proofs
open Go.Sh Go.RowKit
set_option maxRecDepth 100000
set_option linter.unusedSimpArgs false
set_option linter.unusedVariables false
theorem Rchd.monoN {n : zg} (hn : ym n) {P Q : Int→Prop} {s x : Int} (hs : Proofs.isN n s) (h : Rchd n P s x) (hq : ∀ y,Proofs.isN n y→Q y→P y) : Rchd n Q s x:=by
 induction h with
 |base=>exact .base
 |step h hy hz ih=>
  refine .step ih ?_ hz
  rcases hy with e|hy
  ·exact .inl e
  ·exact .inr fun k=>hy (hq _ (h.isN hn hs) k)
theorem Va {n : zg} (hn : ym n) {P Q : Int→Prop} {s : Int} (hs : isN n s) (h : ∀ x,isN n x→(P x↔Q x)) : xP n P s=xP n Q s:=by
 refine qj (by rw [yN,yN]) fun x h0 h1=>?_
 rw [yN] at h1
 rw [Bool.eq_iff_iff,kQ ⟨h0,h1⟩,kQ ⟨h0,h1⟩]
 exact ⟨fun k=>k.monoN hn hs fun y hy=>(h y hy).2,fun k=>k.monoN hn hs fun y hy=>(h y hy).1⟩
theorem abs {k : Nat} {x : Int} : mk' (List.replicate k false) x=false:=by
 rw [mk',List.getD_eq_getElem?_getD,List.getElem?_replicate];split<;>rfl
theorem aeX {k : Nat} {p x : Int} (hp : 0≤p) (hp2 : p<k) (hx : 0≤x) : mk' (zy (List.replicate k false) p) x=true↔x=p:=by
 rw [xt hp (by rw [List.length_replicate];exact hp2) hx,abs,Bool.or_false,decide_eq_true_eq]
theorem afx {g : GrD} {q : Int} {c : List Value} {w : World} {r : Gh} {K : Value→World→Prop} (hr : Holds r w) (hg : GrG r c g) (hF : vZ (netG g)) (hq : isN (netG g) q)
  (h : ∀ v' s w',Ext w w'→New w s w'→SlG 1 s zu v' (mkd (xP (netG g) zT q))→K v' w') : zd Tryz.prog Tryz.ZK #[.agg c.toArray,.int .i64 q] w K:=by
 refine Tryz.acb ?_
 unfold Tryz.QB
 have hg0:=hg
 obtain ⟨x1,x2,x3,x4,y1,y2,y3,y4,rfl,hg1⟩:=xC hg
 have hfew:=hF.few
 have hgl:=yj (g:=g)
 have S:=St.start hr
 refine S.box fun b2 w1 S=>?_
 have S : StX noX w r w1 [.cell b2 (grL g x1 x2 x3 x4 y1 y2 y3 y4) 38]:=S
 have S:=S.go (Ext.drew _)
 refine S.ldB (b:=b2) ?_ rfl
 refine gg_ ?_
 refine S.mkSU (by omega) (by omega) fun b10 w2 S=>?_
 rw [Int.toNat_natCast] at S ⊢
 rw [← hgl] at S ⊢
 rw [kv] at S
 obtain ⟨S,hs,ha⟩:=S.litNew b10 (sz:=1) (R:=xr) (l:=List.replicate (netG g).length false) xm (by decide)
 rw [List.length_replicate] at hs
 refine Zn S.holds hg0.up hF hq hs.cells (by rw [List.length_replicate]) fun v1 s1 w3 e3 n3 hs1=>?_
 obtain ⟨S,_,a3⟩:=S.tell e3 n3
 rw [Va hF.ok hq (Q:=zT) fun x hx=>by rw [abs];simp] at hs1
 refine aeW S.holds hs1.cells (by rw [yN];omega) fun v' s w4 e4 n4 hs4=>?_
 obtain ⟨S,_,a4⟩:=S.tell e4 n4
 exact h _ s _ S.ext ⟨fun b o ho=>S.holds b o (.inr ho),a4⟩ hs4
open Classical in
noncomputable def k6 (n : zg) (q : Int) (i : Nat) : List Int:=((List.range i).filter fun p=>decide (Dom n (p : Nat) q)).map fun (p : Nat)=>(p : Int)
theorem ahB {n : zg} {q : Int} {i : Nat} : (Dom n (i : Nat) q→k6 n q (i+1)=k6 n q i ++ [(i : Int)])∧(¬ Dom n (i : Nat) q→k6 n q (i+1)=k6 n q i):=by
 refine ⟨fun h=>?_,fun h=>?_⟩
 ·rw [k6,List.range_succ,List.filter_append,List.map_append,List.filter_cons_of_pos (by simpa using h)];rfl
 ·rw [k6,List.range_succ,List.filter_append,List.map_append,List.filter_cons_of_neg (by simpa using h)];simp [k6]
theorem aiv {n : zg} {q : Int} {i : Nat} : (k6 n q i).length≤i:=by
 rw [k6,List.length_map];exact Nat.le_trans (List.length_filter_le _ _) (by simp)
theorem aiw {n : zg} {q : Int} (hr : Rchd n zT 0 q) : k6 n q n.length=abvL n q:=by
 refine Ye ?_ Zm fun x=>?_
 ·rw [k6,List.pairwise_map]
  exact (List.pairwise_lt_range.filter _).imp fun h=>by omega
 ·rw [kc,k6,List.mem_map]
  constructor
  ·rintro ⟨p,hp,rfl⟩
   rw [List.mem_filter,List.mem_range] at hp
   exact ⟨hr,⟨Int.natCast_nonneg p,by omega⟩,by simpa using hp.2⟩
  ·rintro ⟨_,⟨h0,h1⟩,hd⟩
   refine ⟨x.toNat,?_,Int.toNat_of_nonneg h0⟩
   rw [List.mem_filter,List.mem_range,Int.toNat_of_nonneg h0]
   exact ⟨by omega,by simpa using hd⟩
theorem aan {r : Gh} {v : Value} {m : List Bool} (h : SlG 1 r xr v m) {q : Int} (h0 : 0≤q) (h1 : q<m.length) : ∃ b off cap,v = .slice (some ⟨b,off,none⟩) m.length cap∧Ob r fun w=>w.cell? ⟨b,off+q.toNat,none⟩=some (.bool (mk' m q)):=by
 obtain ⟨p,cap,rfl,_,_⟩:=h.shape
 obtain ⟨b,off,rfl,_,hc⟩:=jU h (i:=q.toNat) (by omega)
 refine ⟨b,off,cap,rfl,?_⟩
 rw [mk',List.getD_eq_getElem?_getD,List.getElem?_eq_getElem (show q.toNat<m.length by omega)]
 exact hc
set_option maxHeartbeats 2000000 in
theorem Xy {g : GrD} {q : Int} {c : List Value} {w : World} {r : Gh} {K : Value→World→Prop} (hr : Holds r w) (hg : GrG r c g) (hF : vZ (netG g)) (hq : isN (netG g) q)
  (h : ∀ v' s w',Ext w w'→New w s w'→SlG 1 s zu v' (abvL (netG g) q)→K v' w') : zd Tryz.prog Tryz.kJ #[.agg c.toArray,.int .i64 q] w K:=by
 refine Tryz.acd ?_
 unfold Tryz.QC
 have hg0:=hg
 obtain ⟨x1,x2,x3,x4,y1,y2,y3,y4,rfl,hg1⟩:=xC hg
 have hfew:=hF.few
 have hgl:=yj (g:=g)
 have q0:=hq.1;have q1:=hq.2
 have hz : isN (netG g) 0:=⟨Int.le_refl _,by have:=hF.pos;omega⟩
 have S:=St.start hr
 refine S.box fun b2 w1 S=>?_
 have S : StX noX w r w1 [.cell b2 (grL g x1 x2 x3 x4 y1 y2 y3 y4) 38]:=S
 refine gg_ ?_
 refine S.mkS (by omega) (by omega) fun b12 w2 S=>?_
 rw [Int.toNat_natCast] at S ⊢
 rw [← hgl] at S ⊢
 rw [kv] at S
 obtain ⟨S,hs,ha⟩:=S.litNew b12 (sz:=1) (R:=xr) (l:=List.replicate (netG g).length false) xm (by decide)
 rw [List.length_replicate] at hs
 refine S.ldB (b:=b2) ?_ rfl
 refine Zn S.holds hg0.up hF hz hs.cells (by rw [List.length_replicate]) fun v1 s1 w3 e3 n3 hs1=>?_
 obtain ⟨S,_,a3⟩:=S.tell e3 n3
 rw [Va hF.ok hz (Q:=zT) fun x hx=>by rw [abs];simp] at hs1
 obtain ⟨bm,om,cm,rfl,hcm⟩:=aan hs1 q0 (by rw [yN];exact q1)
 rw [yN]
 refine gg_ ?_
 refine zi (S.at hcm) ?_
 refine gg_ ?_
 refine c_b (fun hno=>?_) (fun hyes=>?_)
 ·have hnr : ¬ Rchd (netG g) zT 0 q:=fun hrr=>by
   rw [(kQ hq).2 hrr] at hno;cases hno
  have e : abvL (netG g) q = []:=by
   cases hx : abvL (netG g) q with
   |nil=>rfl
   |cons a l=>exact absurd (kc.1 (by rw [hx];exact List.mem_cons_self : a ∈ abvL (netG g) q)).1 hnr
  rw [e] at h
  exact h _ nothing _ S.ext New.nothing SlG.nil
 have hrq : Rchd (netG g) zT 0 q:=(kQ hq).1 (by simpa using hyes)
 have S:=S.ownNil 3 1
 have S : StX noX w r w3 [.row (.slice none 0 0) 3 1 0 [],.cell b2 (grL g x1 x2 x3 x4 y1 y2 y3 y4) 38]:=S.to _
 refine zh (ι:=Nat × Value) (fun i=>[i.2,.int .i64 (i.1 : Nat)]) (fun i w'=>i.1≤(netG g).length∧StX noX w r w' [.row i.2 3 1 (k6 (netG g) q i.1).length (ints (k6 (netG g) q i.1)),.cell b2 (grL g x1 x2 x3 x4 y1 y2 y3 y4) 38]) (fun i=>(netG g).length - i.1) (0,.slice none 0 0) rfl ⟨Nat.zero_le _,S⟩ ?_
 repeat clear S
 rintro ⟨i,vp⟩ d w4 ⟨hi,S⟩ K4 hK4
 simp only at hi S ⊢
 simp only [List.getD_cons_zero,List.getD_cons_succ]
 refine gg_ ?_
 refine zj (fun hlt=>?_) (fun hge=>?_)
 ·have hlt : i<(netG g).length:=by omega
  have hiN : isN (netG g) (i : Nat):=⟨Int.natCast_nonneg i,by omega⟩
  have hdl:=aiv (n:=netG g) (q:=q) (i:=i)
  obtain ⟨hy,hn⟩:=ahB (n:=netG g) (q:=q) (i:=i)
  refine zp (fun s w'=>∃ vq,s = [vq]∧StX noX w r w' [.row vq 3 1 (k6 (netG g) q (i+1)).length (ints (k6 (netG g) q (i+1))),.cell b2 (grL g x1 x2 x3 x4 y1 y2 y3 y4) 38]) (fun K8 hK8=>?_) ?_
  ·refine gg_ ?_
   refine S.mkS (by omega) (by omega) fun b30 w5 S=>?_
   rw [Int.toNat_natCast] at S ⊢
   rw [← hgl] at S ⊢
   rw [kv] at S
   refine gg_ ?_
   refine S.st (b:=b30) (fun w6 S=>?_) (by rw [yI,List.length_replicate];omega)
   have S : StX noX w r w6 [.cell b30 (bls (zy (List.replicate (netG g).length false) (i : Nat))) 4,.row vp 3 1 (k6 (netG g) q i).length (ints (k6 (netG g) q i)),.cell b2 (grL g x1 x2 x3 x4 y1 y2 y3 y4) 38]:=by
    rw [← y7 (Int.natCast_nonneg i)];exact S
   obtain ⟨S,hs,ha⟩:=S.litNew b30 (sz:=1) (R:=xr) (l:=zy (List.replicate (netG g).length false) (i : Nat)) xm (by decide)
   rw [zG,List.length_replicate] at hs
   refine gg_ ?_
   refine zk (c:=decide ((i : Int)=0)) (fun _ K2 hK2=>by refine gg_ ?_;exact hK2) ?_
   refine xf (c:=!mk' (xP (netG g) (· = (i : Int)) 0) q) (fun _ K2 hK2=>?_) fun w7 e7=>?_
   ·refine S.ldB (b:=b2) ?_ rfl
    refine Zn S.holds hg0.up hF hz hs.cells (by rw [zG,List.length_replicate]) fun v2 s2 w7 e7 n7 hs2=>?_
    obtain ⟨S,_,a7⟩:=S.tell e7 n7
    rw [Va hF.ok hz (Q:=(· = (i : Int))) fun x hx=>aeX (Int.natCast_nonneg i) hiN.2 hx.1] at hs2
    obtain ⟨bm,om,cm,rfl,hcm⟩:=aan hs2 q0 (by rw [yN];exact q1)
    rw [yN]
    refine gg_ ?_
    refine zi (S.at hcm) ?_
    refine gp_ ?_
    exact hK2 _ e7
   have S:=S.go e7
   have hd : ((decide ((i : Int)=q)||decide ((i : Int)=0)) || !mk' (xP (netG g) (· = (i : Int)) 0) q)=true↔Dom (netG g) (i : Nat) q:=by
    rw [Bool.or_eq_true,Bool.or_eq_true,decide_eq_true_eq,decide_eq_true_eq,Bool.not_eq_true',Dom,or_assoc]
    have : mk' (xP (netG g) (· = (i : Int)) 0) q=false↔¬ Rchd (netG g) (· = (i : Int)) 0 q:=by rw [← kQ hq,Bool.not_eq_true]
    rw [this]
   refine c_b (fun hb=>?_) (fun hb=>?_)
   ·refine S.lit (e:=3) (cs:=[.int .i64 (i : Nat)]) (by kernel_rfl) fun b5 w8 S=>?_
    refine S.ap (v:=vp) (m':=1) (Sl.blk (S.blk b5)) (fun v4 w9 S=>?_) (by omega)
    have S:=S.drop b5
    refine hK8 _ _ ⟨v4,rfl,?_⟩
    rw [hy (hd.1 hb),yo,List.length_append];exact S.to _
   ·refine hK8 _ _ ⟨vp,rfl,?_⟩
    rw [hn fun k=>by rw [hd.2 k] at hb;cases hb];exact S.to _
  rintro s w5 ⟨vq,rfl,S⟩ d
  simp only [List.getD_cons_zero]
  refine gp_ ?_
  exact hK4 (i+1,vq) _ ⟨hlt,S⟩ (by show (netG g).length - (i+1)<(netG g).length - i;omega)
 have hie : i=(netG g).length:=by omega
 subst hie
 rw [aiw hrq] at S
 obtain ⟨s,T,hs,_,hab⟩:=S.doneRow zS (by decide) rfl
 exact h _ s _ T.ext (StX.newOf (q:=s) T fun b o ho=>(hab b o ho).resolve_right id) hs
end Go.Proofs
end
section
namespace Go.Sh
theorem akb {w : World} {b n x : Bool} {A0 : (List Value→World→Prop)→Prop} {A1 : (List Value→World→Prop)→World→Prop} {Z : Value→World→Prop}
  (h0 : b=false→∀ K : List Value→World→Prop,K [.bool n] w→A0 K) (h1 : b=false→n=true→∀ K : List Value→World→Prop,(∀ w',Ext w w'→K [.bool x] w')→A1 K w) (hZ : ∀ w',Ext w w'→Z (.bool (b||(n&&x))) w') :
  za (fun K=>gIf (.bool b) false (A0 K) (K [undef] w)) fun s135 _ w137=>
   za (fun K=>gIf (s135.getD 0 undef) true (A1 K w137) (K [undef] w137)) fun s139 _ w141=>
    za (fun K=>gIf (.bool b) false (zb (s135.getD 0 undef) (s139.getD 0 undef) (.bool false) fun t=>K [t] w141) (K [undef] w141)) fun s152 _ w154=>
     zb (.bool b) (.bool true) (s152.getD 0 undef) fun t=>Z t w154:=by
 cases b with
 |true=>
  intro K hK
  refine hK _ _ fun _=>?_
  intro K hK
  refine hK _ _ fun _=>?_
  intro K hK
  refine hK _ _ fun _=>?_
  exact ⟨_,rfl,by simpa using hZ _ (Ext.refl _)⟩
 |false=>
  intro K hK
  refine h0 rfl _ (hK _ _ fun _=>?_)
  cases n with
  |false=>
   intro K hK
   refine hK _ _ fun _=>?_
   intro K hK
   refine ⟨_,rfl,hK _ _ fun _=>?_⟩
   exact ⟨_,rfl,by simpa using hZ _ (Ext.refl _)⟩
  |true=>
   intro K hK
   refine h1 rfl rfl _ fun w1 e1=>hK _ _ fun _=>?_
   intro K hK
   refine ⟨_,rfl,hK _ _ fun _=>?_⟩
   exact ⟨_,rfl,by simpa using hZ _ e1⟩
end Go.Sh
namespace Go.Proofs
open Go.Sh Go.RowKit
set_option maxRecDepth 100000
set_option linter.unusedSimpArgs false
set_option linter.unusedVariables false
theorem akc {n : zg} {x : Int} : (decide (x<0)||decide ((n.length : Int)≤x)) = !decide (isN n x):=by
 by_cases hx : isN n x
 ·have h1:=hx.1;have h2:=hx.2
  rw [decide_eq_true hx,decide_eq_false (by omega),decide_eq_false (by omega)];rfl
 ·rw [decide_eq_false hx]
  by_cases h1 : x<0
  ·rw [decide_eq_true h1];rfl
  ·have h2 : (n.length : Int)≤x:=by
    refine Int.not_lt.1 fun h2=>hx ⟨by omega,h2⟩
   rw [decide_eq_true h2,Bool.or_true];rfl
set_option maxHeartbeats 1000000 in
theorem aix {g : GrD} {l : List Int} {c : List Value} {vl : Value} {w : World} {r : Gh} {K : Value→World→Prop} (hr : Holds r w) (hg : GrG r c g) (hF : vZ (netG g)) (hl : SlG 1 r zu vl l) (hlf : l.length≤1000000)
  (h : ∀ w',Ext w w'→K (.tuple #[.int .i64 (isW (netG g) l).1,.bool (isW (netG g) l).2]) w') : zd Tryz.prog Tryz.XY #[.agg c.toArray,vl] w K:=by
 refine Tryz.afv ?_
 unfold Tryz.abo
 have hg0:=hg
 obtain ⟨x1,x2,x3,x4,y1,y2,y3,y4,rfl,hg1⟩:=xC hg
 obtain ⟨pl,capl,rfl,_,_⟩:=hl.shape
 have hfew:=hF.few
 have hgl:=yj (g:=g)
 have S:=St.start hr
 refine S.box fun b2 w1 S=>?_
 have S : StX noX w r w1 [.cell b2 (grL g x1 x2 x3 x4 y1 y2 y3 y4) 38]:=S
 refine zh (ι:=Nat) (fun i=>[.int .i64 (i : Nat)]) (fun i w'=>i≤l.length∧(∀ j,j<i→vC (netG g) l j=false)∧StX noX w r w' [.cell b2 (grL g x1 x2 x3 x4 y1 y2 y3 y4) 38]) (fun i=>l.length - i) 0 rfl ⟨Nat.zero_le _,fun j hj=>by omega,S⟩ ?_
 repeat clear S
 rintro i d w3 ⟨hi,hbf,S⟩ K2 hK2
 rw [List.getD_cons_zero]
 refine gg_ ?_
 refine zj (fun hlti=>?_) (fun hge=>?_)
 ·have hlti : i<l.length:=by omega
  have S:=S.go (Ext.drew _)
  obtain ⟨bl,ol,rfl,_,hcl⟩:=zE hl hlti
  have hgi : l.getD i 0=l[i]:=by rw [List.getD_eq_getElem?_getD,List.getElem?_eq_getElem hlti];rfl
  refine gg_ ?_
  refine zi (by rw [Int.toNat_natCast];exact S.at hcl) ?_
  refine gg_ ?_
  refine zk (c:=decide (((netG g).length : Int)≤l[i])) (fun _ K2 hK2=>?_) ?_
  ·refine gg_ ?_
   refine zi (by rw [Int.toNat_natCast];exact S.at hcl) ?_
   refine gg_ ?_
   rw [← hgl]
   exact hK2
  rw [akc]
  refine akb (n:=decide (0<i)) (x:=!decide (l[i] ∈ nxt (netG g) (l.getD (i - 1) 0))) (fun _ K2 hK2=>?_) (fun _ hi0 K2 hK2=>?_) fun w5 e5=>?_
  ·refine gp_ ?_
   have e1 : decide ((0 : Int)<(i : Nat))=decide (0<i):=by rw [decide_eq_decide];omega
   rw [e1];exact hK2
  ·have hi0 : 0<i:=by simpa using hi0
   obtain ⟨bl',ol',hE',_,hcl'⟩:=zE hl (i:=i - 1) (by omega)
   cases hE'
   have hgp : l.getD (i - 1) 0=l[i - 1]:=by rw [List.getD_eq_getElem?_getD,List.getElem?_eq_getElem (by omega)];rfl
   have hpN : isN (netG g) l[i - 1]:=by
    have:=hbf (i - 1) (by omega)
    rw [vC,Bool.or_eq_false_iff,hgp] at this
    simpa using this.1
   rw [hgp] at hK2
   have hnl : (nxt (netG g) l[i - 1]).length≤2:=by rw [xV hpN];exact hF.nar _ (List.getElem_mem _)
   refine S.ldB (b:=b2) ?_ rfl
   refine gg_ ?_
   refine zi (by rw [show (((i : Nat) : Int) - 1).toNat=i - 1 by omega];exact S.at hcl') ?_
   refine gg_ ?_
   refine zi (by rw [Int.toNat_natCast];exact S.at hcl) ?_
   refine qZ S.holds hg0 hpN fun v2 s2 w6 e6 n6 hs2=>⟨e6,?_⟩
   obtain ⟨S,_,_⟩:=S.tell e6 n6
   refine Qg S.holds hs2.cells (Nat.le_trans hnl (by decide)) ?_
   refine gp_ ?_
   exact hK2 _ e6
  have S:=S.go e5
  have hbw : vC (netG g) l i=(!decide (isN (netG g) l[i])||(decide (0<i) && !decide (l[i] ∈ nxt (netG g) (l.getD (i - 1) 0)))):=by rw [vC,hgi]
  rw [← hbw]
  refine c_b (fun hb=>?_) (fun hb=>?_)
  ·have:=h _ S.ext
   rwa [afZ hlti hbf hb] at this
  ·refine gp_ ?_
   refine hK2 (i+1) _ ⟨hlti,fun j hj=>?_,S⟩ (by omega)
   by_cases hji : j=i
   ·subst hji;exact hb
   ·exact hbf j (by omega)
 have hie : i=l.length:=by omega
 subst hie
 refine gg_ ?_
 have:=h _ S.ext
 rw [aeT hbf] at this
 have e1 : decide ((0 : Int)<(l.length : Nat))=decide (0<l.length):=by rw [decide_eq_decide];omega
 rw [e1];exact this
noncomputable def okR (n : zg) (q t : Int) : Bool:=!(!decide (t ∈ nxt n q) || !decide (t ∈ abvL n q))
set_option maxHeartbeats 2000000 in
theorem agD {g : GrD} {q t : Int} {c : List Value} {w : World} {r : Gh} {K : Value→World→Prop} (hr : Holds r w) (hg : GrG r c g) (hF : vZ (netG g)) (hq : isN (netG g) q) (ht : isN (netG g) t)
  (h : ∀ v' s w',Ext w w'→New w s w'→SlG 1 s zu v' (if okR (netG g) q t=true then mkd (vB (netG g) q t) else [])→K (.tuple #[v',.bool (okR (netG g) q t)]) w') : zd Tryz.prog Tryz.Yr #[.agg c.toArray,.int .i64 q,.int .i64 t] w K:=by
 refine Tryz.adA ?_
 unfold Tryz.JI
 have hg0:=hg
 obtain ⟨x1,x2,x3,x4,y1,y2,y3,y4,rfl,hg1⟩:=xC hg
 have hfew:=hF.few
 have hgl:=yj (g:=g)
 have q0:=hq.1;have q1:=hq.2;have t0:=ht.1;have t1:=ht.2
 have hnl : (nxt (netG g) q).length≤2:=by rw [xV hq];exact hF.nar _ (List.getElem_mem _)
 have S:=St.start hr
 refine S.box fun b3 w1 S=>?_
 have S : StX noX w r w1 [.cell b3 (grL g x1 x2 x3 x4 y1 y2 y3 y4) 38]:=S
 refine S.ldB (b:=b3) ?_ rfl
 refine qZ S.holds hg0 hq fun v2 s2 w2 e2 n2 hs2=>?_
 obtain ⟨S,_,_⟩:=S.tell e2 n2
 refine Qg S.holds hs2.cells (Nat.le_trans hnl (by decide)) ?_
 have S : StX noX w r w2 [.cell b3 (grL g x1 x2 x3 x4 y1 y2 y3 y4) 38]:=S.to _
 refine gp_ ?_
 refine xf (c:=!decide (t ∈ abvL (netG g) q)) (fun _ K2 hK2=>?_) fun w3 e3=>?_
 ·refine S.ldB (b:=b3) ?_ rfl
  refine Xy S.holds hg0 hF hq fun v3 s3 w3 e3 n3 hs3=>?_
  obtain ⟨S,_,_⟩:=S.tell e3 n3
  refine Qg S.holds hs3.cells (Nat.le_trans YM (Nat.le_trans hfew (by decide))) ?_
  refine gp_ ?_
  exact hK2 _ e3
 have S:=S.go e3
 have hok : okR (netG g) q t = !(!decide (t ∈ nxt (netG g) q) || !decide (t ∈ abvL (netG g) q)):=rfl
 refine c_b (fun hb=>?_) (fun hb=>?_)
 ·rw [hb] at hok
  rw [hok] at h
  exact h _ nothing _ S.ext New.nothing SlG.nil
 rw [hb] at hok
 rw [hok] at h
 clear hok
 refine gg_ ?_
 refine S.mkS (by omega) (by omega) fun b28 w4 S=>?_
 rw [Int.toNat_natCast] at S ⊢
 rw [← hgl] at S ⊢
 rw [kv] at S
 refine gg_ ?_
 refine S.st (b:=b28) (fun w5 S=>?_) (by rw [yI,List.length_replicate];omega)
 have S : StX noX w r w5 [.cell b28 (bls (zy (List.replicate (netG g).length false) t)) 4,.cell b3 (grL g x1 x2 x3 x4 y1 y2 y3 y4) 38]:=by
  rw [← y7 t0];exact S
 refine zh (ι:=Nat × List Bool) (fun i=>[.int .i64 (i.1 : Nat)]) (fun i w'=>i.1≤(netG g).length∧i.2.length=(netG g).length∧(∀ x,isN (netG g) x→(mk' i.2 x=true↔x=t∨(x<i.1∧mk' (vB (netG g) q t) x=true)))∧StX noX w r w' [.cell b28 (bls i.2) 4,.cell b3 (grL g x1 x2 x3 x4 y1 y2 y3 y4) 38])
  (fun i=>(netG g).length - i.1) (0,zy (List.replicate (netG g).length false) t) rfl ⟨Nat.zero_le _,by show (zy _ t).length=_;rw [zG,List.length_replicate],fun x hx=>by
   have:=hx.1
   rw [aeX t0 t1 hx.1]
   constructor
   ·exact .inl
   ·rintro (e|⟨e,_⟩)
    ·exact e
    ·exfalso;have e : x<((0 : Nat) : Int):=e;omega,S⟩ ?_
 repeat clear S
 rintro ⟨i,m⟩ d w6 ⟨hi,hml,hm,S⟩ K12 hK12
 simp only at hi hml hm S ⊢
 rw [List.getD_cons_zero]
 refine gg_ ?_
 refine zj (fun hlt=>?_) (fun hge=>?_)
 ·have hlt : i<(netG g).length:=by omega
  have hiN : isN (netG g) (i : Nat):=⟨Int.natCast_nonneg i,by omega⟩
  have hcond : (((decide ((i : Int)≠t)&&decide (q≠t))&&mk' (xP (netG g) (· = t) (i : Nat)) q)=true↔(q≠t∧(i : Int)≠t∧Rchd (netG g) (· = t) (i : Nat) q)):=by
   rw [Bool.and_eq_true,Bool.and_eq_true,decide_eq_true_eq,decide_eq_true_eq,kQ hq,and_assoc]
   exact and_left_comm
  have hlop:=J6 (n:=netG g) (s:=q) (to:=t) hiN
  refine zp (fun s w'=>∃ m',m'.length=(netG g).length∧(∀ x,isN (netG g) x→(mk' m' x=true↔x=t∨(x<((i+1 : Nat) : Int)∧mk' (vB (netG g) q t) x=true)))∧StX noX w r w' [.cell b28 (bls m') 4,.cell b3 (grL g x1 x2 x3 x4 y1 y2 y3 y4) 38]) (fun K16 hK16=>?_) ?_
  ·refine gg_ ?_
   refine S.mkS (by omega) (by omega) fun b42 w7 S=>?_
   rw [Int.toNat_natCast] at S ⊢
   rw [← hgl] at S ⊢
   rw [kv] at S
   refine gg_ ?_
   refine S.st (b:=b42) (fun w8 S=>?_) (by rw [yI,List.length_replicate];omega)
   have S : StX noX w r w8 [.cell b42 (bls (zy (List.replicate (netG g).length false) t)) 4,.cell b28 (bls m) 4,.cell b3 (grL g x1 x2 x3 x4 y1 y2 y3 y4) 38]:=by
    rw [← y7 t0];exact S
   obtain ⟨S,hs,ha⟩:=S.litNew b42 (sz:=1) (R:=xr) (l:=zy (List.replicate (netG g).length false) t) xm (by decide)
   rw [zG,List.length_replicate] at hs
   refine gg_ ?_
   refine zf (c:=decide (q≠t)) (fun _ K2 hK2=>by refine gg_ ?_;exact hK2) ?_
   refine zq (c:=mk' (xP (netG g) (· = t) (i : Nat)) q) (fun _ K2 hK2=>?_) fun w9 e9=>?_
   ·refine S.ldB (b:=b3) ?_ rfl
    refine Zn S.holds hg0.up hF hiN hs.cells (by rw [zG,List.length_replicate]) fun v2 s2 w9 e9 n9 hs2=>?_
    obtain ⟨S,_,a9⟩:=S.tell e9 n9
    rw [Va hF.ok hiN (Q:=(· = t)) fun x hx=>aeX t0 t1 hx.1] at hs2
    obtain ⟨bm,om,cm,rfl,hcm⟩:=aan hs2 q0 (by rw [yN];exact q1)
    rw [yN]
    refine gg_ ?_
    refine zi (S.at hcm) ?_
    exact hK2 _ e9
   have S:=S.go e9
   refine c_b (fun hb=>?_) (fun hb=>?_)
   ·refine gg_ ?_
    refine S.st (b:=b28) (fun w10 S=>?_) (by rw [yI];omega)
    have S : StX noX w r w10 [.cell b28 (bls (zy m (i : Nat))) 4,.cell b3 (grL g x1 x2 x3 x4 y1 y2 y3 y4) 38]:=by
     rw [← y7 (Int.natCast_nonneg i)];exact S.to _
    refine hK16 [] _ ⟨zy m (i : Nat),by rw [zG];exact hml,fun x hx=>?_,S⟩
    have hin:=hlop.2 (.inr (hcond.1 hb))
    rw [xt (Int.natCast_nonneg i) (by rw [hml];exact hiN.2) hx.1,Bool.or_eq_true,decide_eq_true_eq,hm x hx]
    constructor
    ·rintro (e|e|⟨e1,e2⟩)
     ·exact .inr ⟨by omega,by rw [e];exact hin⟩
     ·exact .inl e
     ·exact .inr ⟨by omega,e2⟩
    ·rintro (e|⟨e1,e2⟩)
     ·exact .inr (.inl e)
     ·by_cases e : x=(i : Nat)
      ·exact .inl e
      ·exact .inr (.inr ⟨by omega,e2⟩)
   ·refine hK16 [] _ ⟨m,hml,fun x hx=>?_,S.to _⟩
    rw [hm x hx]
    constructor
    ·rintro (e|⟨e1,e2⟩)
     ·exact .inl e
     ·exact .inr ⟨by omega,e2⟩
    ·rintro (e|⟨e1,e2⟩)
     ·exact .inl e
     ·by_cases e : x=(i : Nat)
      ·subst e
       rcases hlop.1 e2 with e3|e3
       ·exact .inl e3
       ·rw [hcond.2 e3] at hb;cases hb
      ·exact .inr ⟨by omega,e2⟩
  rintro s w7 ⟨m',hml',hm',S⟩ d
  refine gg_ ?_
  exact hK12 (i+1,m') _ ⟨hlt,hml',hm',S⟩ (by show (netG g).length - (i+1)<(netG g).length - i;omega)
 have hie : i=(netG g).length:=by omega
 subst hie
 have hme : m=vB (netG g) q t:=by
  refine qj (by rw [hml,qG]) fun x h0 h1=>?_
  have hx : isN (netG g) x:=⟨h0,by rw [← hml];exact h1⟩
  rw [Bool.eq_iff_iff,hm x hx]
  constructor
  ·rintro (e|⟨_,e⟩)
   ·exact (J6 hx).2 (.inl e)
   ·exact e
  ·intro e
   exact .inr ⟨hx.2,e⟩
 subst hme
 obtain ⟨S,hs,ha⟩:=S.litNew b28 (sz:=1) (R:=xr) (l:=vB (netG g) q t) xm (by decide)
 rw [qG] at hs
 refine aeW S.holds hs.cells (by rw [qG];omega) fun v' s w13 e13 n13 hs13=>?_
 obtain ⟨S,_,a13⟩:=S.tell e13 n13
 exact h _ s _ S.ext ⟨fun b o ho=>S.holds b o (.inr ho),a13⟩ hs13
end Go.Proofs
end
section
namespace Go.Proofs
open Go.Sh Go.RowKit
set_option maxRecDepth 100000
set_option linter.unusedSimpArgs false
set_option linter.unusedVariables false
theorem aiy {α : Type} {A : List α} {z v : α} {k i : Nat} (h : A.length=i) (hk : 0<k) : (A++List.replicate k z).set (0+i) v=(A ++ [v])++List.replicate (k - 1) z:=by
 obtain ⟨k,rfl⟩ : ∃ j,k=j+1:=⟨k - 1,by omega⟩
 rw [Nat.zero_add,List.set_append_right _ _ (by omega),h,Nat.sub_self,List.replicate_succ,List.append_assoc];rfl
theorem acg {P : Int→Prop} [DecidablePred P] : ∀ {l : List Int} {b : Int},(∀ p ∈ l,¬ P p)→(l.foldl (fun b p=>if P p then p else b) b)=b
 |[],_,_=>rfl
 |a::l,b,h=>by
  rw [List.foldl_cons,if_neg (h a List.mem_cons_self)]
  exact acg fun p hp=>h p (List.mem_cons_of_mem _ hp)
set_option maxHeartbeats 2000000 in
theorem afy {g : GrD} {c : List Value} {w : World} {r : Gh} {K : Value→World→Prop} (hr : Holds r w) (hg : GrG r c g) (hF : vZ (netG g))
  (h : ∀ v' s w',Ext w w'→New w s w'→SlG 1 s zu v' ((List.range (netG g).length).map (fun i=>yP (netG g) (i : Nat)))→K v' w') : zd Tryz.prog Tryz.ZL #[.agg c.toArray] w K:=by
 refine Tryz.ace ?_
 unfold Tryz.QD
 have hg0:=hg
 obtain ⟨x1,x2,x3,x4,y1,y2,y3,y4,rfl,hg1⟩:=xC hg
 have hfew:=hF.few
 have hgl:=yj (g:=g)
 have S:=St.start hr
 refine S.box fun b1 w1 S=>?_
 have S : StX noX w r w1 [.cell b1 (grL g x1 x2 x3 x4 y1 y2 y3 y4) 38]:=S
 refine gg_ ?_
 refine S.mkS (by omega) (by omega) fun b12 w2 S=>?_
 rw [Int.toNat_natCast] at S ⊢
 refine gg_ ?_
 refine S.mkS (by omega) (by omega) fun b16 w3 S=>?_
 rw [Int.toNat_natCast] at S ⊢
 rw [← hgl] at S ⊢
 have e0 : List.replicate (netG g).length (Value.int .i64 0)=ints (List.replicate (netG g).length 0):=by simp [ints]
 rw [e0] at S
 refine zh (ι:=Nat × List Value × Gh) (fun i=>[.int .i64 (i.1 : Nat)]) (fun i w'=>i.1≤(netG g).length∧i.2.1.length=i.1∧(∀ j (hj : j<i.2.1.length),SlG 1 i.2.2 zu i.2.1[j] (abvL (netG g) (j : Nat)))∧StX noX w (r.or i.2.2) w' [.cell b16 (i.2.1++List.replicate ((netG g).length - i.1) (.slice none 0 0)) 28,.cell b12 (ints (List.replicate (netG g).length 0)) 3,.cell b1 (grL g x1 x2 x3 x4 y1 y2 y3 y4) 38]) (fun i=>(netG g).length - i.1) (0,[],nothing) rfl ⟨Nat.zero_le _,rfl,fun j hj=>absurd hj (Nat.not_lt_zero _),by
  have T:=S.less (q:=r.or nothing) (fun b o ho=>Or.elim ho id (fun k=>k.elim)) (List.Sublist.refl _)
  simpa using T⟩ ?_
 repeat clear S
 rintro ⟨i,vs,s⟩ d w4 ⟨hi,hvl,hvs,S⟩ K4 hK4
 simp only at hi hvl hvs S ⊢
 rw [List.getD_cons_zero]
 refine gg_ ?_
 refine zj (fun hlt=>?_) (fun hge=>?_)
 ·have hlt : i<(netG g).length:=by omega
  have hiN : isN (netG g) (i : Nat):=⟨Int.natCast_nonneg i,by omega⟩
  refine S.ldB (b:=b1) ?_ rfl
  refine Xy S.holds hg0.up hF hiN fun v2 s2 w5 e5 n5 hs2=>?_
  obtain ⟨S,_,a5⟩:=S.tell e5 n5
  obtain ⟨p2,c2,rfl,_,_⟩:=hs2.shape
  refine gg_ ?_
  refine S.st (b:=b16) (fun w6 S=>?_) (by rw [List.length_append,List.length_replicate];omega)
  refine gg_ ?_
  refine hK4 (i+1,vs ++ [.slice p2 (abvL (netG g) (i : Nat)).length c2],s.or s2) _ ⟨hlt,by rw [List.length_append,hvl];rfl,fun j hj=>?_,?_⟩ (by show (netG g).length - (i+1)<(netG g).length - i;omega)
  ·by_cases hji : j<vs.length
   ·rw [List.getElem_append_left hji];exact (hvs j hji).cells
   ·have hj2 : j=vs.length:=by simp only [List.length_append,List.length_singleton] at hj;omega
    subst hj2
    rw [List.getElem_concat_length rfl]
    rw [hvl]
    exact hs2.cells
  ·rw [Int.toNat_natCast,aiy hvl (by omega)] at S
   exact S.less (fun b o ho=>Or.elim ho (fun k=>.inl (.inl k)) (fun k=>Or.elim k (fun k=>.inl (.inr k)) .inr)) (List.Sublist.refl _)
 have hie : i=(netG g).length:=by omega
 clear hK4
 subst hie
 rw [Nat.sub_self,List.replicate_zero,List.append_nil] at S
 have hgetC : ∀ {w' : World} {r' : Gh} {c2 : List Value} {x : Int} {v : Value},StX noX w r' w' [.cell b16 vs 28,.cell b12 c2 3,.cell b1 (grL g x1 x2 x3 x4 y1 y2 y3 y4) 38]→0≤x→vs[x.toNat]? = some v→w'.cell? ⟨b16,0+x.toNat,none⟩=some v:=fun S h0 hv=>by
  rw [Nat.zero_add];exact ((S.blk b16).cell _).trans hv
 have hvx : ∀ x,isN (netG g) x→∃ p cap,vs[x.toNat]? = some (.slice p (abvL (netG g) x).length cap)∧SlG 1 s zu (.slice p (abvL (netG g) x).length cap) (abvL (netG g) x):=fun x hx=>by
  have x0:=hx.1;have x1:=hx.2
  have hh:=hvs x.toNat (by omega)
  rw [Int.toNat_of_nonneg x0] at hh
  obtain ⟨p,cap,he,_,_⟩:=hh.shape
  refine ⟨p,cap,?_,he ▸ hh⟩
  rw [List.getElem?_eq_getElem (by omega),he]
 generalize netG g=nn at *
 clear e0
 refine gg_ ?_
 refine zh (ι:=Nat) (fun i=>[.int .i64 (i : Nat)]) (fun i w'=>i≤nn.length∧StX noX w (r.or s) w' [.cell b16 vs 28,.cell b12 (ints ((List.range i).map (fun i=>yP nn (i : Nat))++List.replicate (nn.length - i) 0)) 3,.cell b1 (grL g x1 x2 x3 x4 y1 y2 y3 y4) 38]) (fun i=>nn.length - i) 0 rfl ⟨Nat.zero_le _,S⟩ ?_
 repeat clear S
 rintro i d w7 ⟨hi,S⟩ K6 hK6
 rw [List.getD_cons_zero]
 refine gg_ ?_
 refine zj (fun hlti=>?_) (fun hge=>?_)
 ·have hlti : i<nn.length:=by omega
  have hiN : isN nn (i : Nat):=⟨Int.natCast_nonneg i,by omega⟩
  obtain ⟨pl,capl,hve,hs⟩:=hvx _ hiN
  have hll:=YM (n:=nn) (q:=(i : Nat))
  have hAl : ((List.range i).map fun i=>yP nn (i : Nat)).length=i:=by simp
  have hmem : ∀ x ∈ abvL nn (i : Nat),isN nn x:=fun x hx=>(kc.1 hx).2.1
  have hre : yP nn (i : Nat)=(abvL nn (i : Nat)).foldl (fun b p=>if p≠(i : Int)∧((abvL nn p).length : Int)=((abvL nn (i : Nat)).length : Int) - 1 then p else b) (-1):=rfl
  refine gg_ ?_
  rw [show nn.length - i=(nn.length - (i+1))+1 by omega,List.replicate_succ] at S
  refine S.st (b:=b12) (fun w8 S=>?_) (by rw [zI,List.length_append,List.length_map,List.length_range,List.length_cons];omega)
  rw [Int.toNat_natCast,J9 hAl] at S
  generalize hl : abvL nn (i : Nat)=l at hs hll hmem hre hve
  refine gg_ ?_
  refine zh (ι:=Nat) (fun j=>[.int .i64 (j : Nat)]) (fun j w'=>j≤l.length∧StX noX w (r.or s) w' [.cell b16 vs 28,.cell b12 (ints ((List.range i).map (fun i=>yP nn (i : Nat))++((l.take j).foldl (fun b p=>if p≠(i : Int)∧((abvL nn p).length : Int)=(l.length : Int) - 1 then p else b) (-1))::List.replicate (nn.length - (i+1)) 0)) 3,.cell b1 (grL g x1 x2 x3 x4 y1 y2 y3 y4) 38]) (fun j=>l.length - j) 0 rfl ⟨Nat.zero_le _,S⟩ ?_
  repeat clear S
  rintro j d w9 ⟨hj,S⟩ K11 hK11
  rw [List.getD_cons_zero]
  refine gg_ ?_
  refine zi (hgetC S hiN.1 hve) ?_
  refine gg_ ?_
  refine zf (c:=decide (0<(i : Int))) (fun _ K2 hK2=>by refine gg_ ?_;exact hK2) ?_
  refine c_b (fun hc=>?_) (fun hc=>?_)
  ·simp only [Bool.and_eq_true,decide_eq_true_eq] at hc
   have hltj : j<l.length:=by omega
   obtain ⟨bl,ol,hpe,_,hcl⟩:=zE hs hltj
   cases hpe
   have htk : (l.take (j+1)).foldl (fun b p=>if p≠(i : Int)∧((abvL nn p).length : Int)=(l.length : Int) - 1 then p else b) (-1)=(if l[j]≠(i : Int)∧((abvL nn l[j]).length : Int)=(l.length : Int) - 1 then l[j] else (l.take j).foldl (fun b p=>if p≠(i : Int)∧((abvL nn p).length : Int)=(l.length : Int) - 1 then p else b) (-1)):=by
    rw [List.take_succ_eq_append_getElem hltj,List.foldl_append];rfl
   have hxN:=hmem l[j] (List.getElem_mem hltj)
   obtain ⟨px,cx,hvp,hsx⟩:=hvx _ hxN
   generalize l[j]=x at hcl htk hxN hvp hsx
   generalize (l.take j).foldl (fun b p=>if p≠(i : Int)∧((abvL nn p).length : Int)=(l.length : Int) - 1 then p else b) (-1)=bb at htk S
   have x0:=hxN.1;have x1':=hxN.2
   have hlx:=YM (n:=nn) (q:=x)
   refine zp (fun y w'=>StX noX w (r.or s) w' [.cell b16 vs 28,.cell b12 (ints ((List.range i).map (fun i=>yP nn (i : Nat))++((l.take (j+1)).foldl (fun b p=>if p≠(i : Int)∧((abvL nn p).length : Int)=(l.length : Int) - 1 then p else b) (-1))::List.replicate (nn.length - (i+1)) 0)) 3,.cell b1 (grL g x1 x2 x3 x4 y1 y2 y3 y4) 38]) (fun K15 hK15=>?_) ?_
   ·rw [htk] at hK15
    refine gg_ ?_
    refine zi (hgetC S hiN.1 hve) ?_
    refine gg_ ?_
    refine zi (by rw [Int.toNat_natCast];exact S.at hcl) ?_
    refine gg_ ?_
    have S:=S.go (Ext.drew w9)
    refine zq (c:=decide (((abvL nn x).length : Int)=(l.length : Int) - 1)) (fun _ K2 hK2=>?_) fun w10 e10=>?_
    ·refine gg_ ?_
     refine zi (hgetC S x0 hvp) ?_
     refine gg_ ?_
     refine zi (hgetC S hiN.1 hve) ?_
     refine gg_ ?_
     exact hK2 _ (.refl _)
    have S:=S.go e10
    refine c_b (fun hc=>?_) (fun hc=>?_)
    ·simp only [Bool.and_eq_true,decide_eq_true_eq] at hc
     rw [if_pos hc] at hK15
     refine gg_ ?_
     refine S.st (b:=b12) (fun w11 S=>?_) (by rw [zI,List.length_append,List.length_map,List.length_range,List.length_cons];omega)
     rw [Int.toNat_natCast,J9 hAl] at S
     exact hK15 [] _ S
    ·rw [if_neg (by simpa using hc)] at hK15
     exact hK15 [] _ S
   rintro y w10 S d
   refine gg_ ?_
   exact hK11 (j+1) _ ⟨hltj,S⟩ (by omega)
  have hje : l.foldl (fun b p=>if p≠(i : Int)∧((abvL nn p).length : Int)=(l.length : Int) - 1 then p else b) (-1)=(l.take j).foldl (fun b p=>if p≠(i : Int)∧((abvL nn p).length : Int)=(l.length : Int) - 1 then p else b) (-1):=by
   simp only [Bool.and_eq_false_imp,decide_eq_true_eq,decide_eq_false_iff_not] at hc
   by_cases hjl : (j : Int)<(l.length : Nat)
   ·have h0:=hc hjl
    have hi0 : i=0:=by omega
    subst hi0
    have hz : ∀ p ∈ l,¬ (p≠((0 : Nat) : Int)∧((abvL nn p).length : Int)=(l.length : Int) - 1):=fun p hp k=>k.1 (by rw [← hl] at hp;exact aeQ (kc.1 hp).2.2)
    rw [acg hz,acg fun p hp=>hz p (List.mem_of_mem_take hp)]
   ·rw [List.take_of_length_le (by omega)]
  rw [← hje,← hre] at S
  refine gg_ ?_
  refine hK6 (i+1) _ ⟨hlti,?_⟩ (by omega)
  have e : (List.range (i+1)).map (fun i=>yP nn (i : Nat))++List.replicate (nn.length - (i+1)) 0=(List.range i).map (fun i=>yP nn (i : Nat))++yP nn (i : Nat)::List.replicate (nn.length - (i+1)) 0:=by
   rw [List.range_succ,List.map_append,List.append_assoc];rfl
  rw [e]
  exact S
 have hie : i=nn.length:=by omega
 subst hie
 rw [Nat.sub_self,List.replicate_zero,List.append_nil] at S
 obtain ⟨S,hs,ha⟩:=S.litNew b12 (sz:=1) (R:=zu) (l:=(List.range nn.length).map fun i=>yP nn (i : Nat)) zS (by decide)
 rw [List.length_map,List.length_range] at hs
 refine gg_ ?_
 exact h _ (Go.Sh.one b12 (ints ((List.range nn.length).map fun i=>yP nn (i : Nat))) 3) _ S.ext (StX.newOf (S.less (q:=r.or (Go.Sh.one b12 (ints ((List.range nn.length).map fun i=>yP nn (i : Nat))) 3)) (fun b o ho=>Or.elim ho (fun k=>.inl (.inl k)) .inr) (List.Sublist.refl _)) ha) hs.cells
end Go.Proofs
end
section
namespace Go.Proofs
set_option linter.unusedSimpArgs false
set_option linter.unusedVariables false
def ke (s : DfS) : List Bool:=s.st.map fun x=>decide (x≠0)
def kf (s : DfS) : List Bool:=s.st.map fun x=>decide (x≠0)&&decide (x≠1)
theorem aeY {s : DfS} : (ke s).length=s.st.length:=List.length_map ..
theorem aeZ {s : DfS} : (kf s).length=s.st.length:=List.length_map ..
theorem VJ {l : List Int} {f : Int→Bool} (h0 : f 0=false) {i : Nat} : (l.map f).getD i false=f (l.getD i 0):=by
 rw [List.getD_eq_getElem?_getD,List.getD_eq_getElem?_getD,List.getElem?_map]
 cases l[i]? with
 |none=>exact h0.symm
 |some x=>rfl
theorem ajq {s : DfS} {x : Int} : mk' (ke s) x=decide (stA s x≠0):=by
 rw [mk',ke,VJ (f:=fun x=>decide (x≠0)) rfl];rfl
theorem ajr {s : DfS} {x : Int} : mk' (kf s) x=(decide (stA s x≠0)&&decide (stA s x≠1)):=by
 rw [mk',kf,VJ (f:=fun x=>decide (x≠0)&&decide (x≠1)) rfl];rfl
theorem ae0 {α : Type} {l : List α} {i : Nat} {v : α} (h : ∀ hi : i<l.length,l[i]=v) : l.set i v=l:=by
 by_cases hi : i<l.length
 ·rw [← h hi,List.set_getElem_self]
 ·rw [List.set_eq_of_length_le (by omega)]
theorem af0 {s : DfS} {x : Int} (hi : x.toNat<s.st.length) : s.st[x.toNat]=stA s x:=by
 rw [stA,List.getD_eq_getElem?_getD,List.getElem?_eq_getElem hi];rfl
theorem ahC {s : DfS} {p : Int} : ke (zA s p)=zy (ke s) p:=by
 rw [ke,zA,List.map_set];rfl
theorem ahD {s : DfS} {p : Int} (h : stA s p=0) : kf (zA s p)=kf s:=by
 rw [kf,zA,List.map_set]
 refine ae0 fun hi=>?_
 rw [List.getElem_map,af0 (by rw [List.length_map] at hi;exact hi),h];rfl
theorem agE {s : DfS} {p : Int} (h : stA s p≠0) : ke (leave s p)=ke s:=by
 rw [ke,leave,List.map_set]
 refine ae0 fun hi=>?_
 rw [List.getElem_map,af0 (by rw [List.length_map] at hi;exact hi)]
 simpa using h
theorem agF {s : DfS} {p : Int} : kf (leave s p)=zy (kf s) p:=by
 rw [kf,leave,List.map_set];rfl
def Met (s s' : DfS) : Prop:=s'.st.length=s.st.length∧∀ i,s'.st.getD i 0=0→s.st.getD i 0=0
theorem Met.refl {s : DfS} : Met s s:=⟨rfl,fun _ h=>h⟩
theorem Met.trans {s t u : DfS} (h : Met s t) (k : Met t u) : Met s u:=⟨k.1.trans h.1,fun i e=>h.2 i (k.2 i e)⟩
theorem Met.st {s t : DfS} (h : Met s t) {x : Int} (k : stA s x≠0) : stA t x≠0:=fun e=>k (h.2 _ e)
theorem ae1 {l : List Int} {i j : Nat} {v : Int} (hv : v≠0) (h : (l.set i v).getD j 0=0) : l.getD j 0=0:=by
 rw [List.getD_eq_getElem?_getD] at h ⊢
 by_cases e : i=j
 ·subst e
  by_cases hi : i<l.length
  ·rw [List.getElem?_set_self hi] at h;exact absurd h hv
  ·rw [List.getElem?_eq_none (by omega)];rfl
 ·rw [List.getElem?_set_ne e] at h;exact h
theorem ae2 {s : DfS} {p : Int} : Met s (zA s p):=⟨List.length_set ..,fun _ h=>ae1 (by decide) h⟩
theorem acW {s : DfS} {p : Int} : Met s (leave s p):=⟨List.length_set ..,fun _ h=>ae1 (by decide) h⟩
theorem aiz {s : DfS} {q p : Int} : Met s (xw s q p):=.refl
theorem ajs {s : DfS} {p : Int} (h0 : 0≤p) (h1 : p<s.st.length) : stA (zA s p) p=1:=by
 rw [stA,zA,List.getD_eq_getElem?_getD,List.getElem?_set_self (by omega)];rfl
theorem Mst.into {n : zg} {a : CfD} {s s' : DfS} {q : Int} {i : Nat} (h : Mst n a (s,[(q,(i : Nat))])) (hi : i<(nxt n q).length) (h0 : stA s (nxt n q)[i]=0) (k : Mst n (zA s (nxt n q)[i],[((nxt n q)[i],0)]) (s',[])) : Mst n a (s',[(q,((i+1 : Nat) : Int))]):=by
 have e : (nxt n q).getD ((i : Nat) : Int).toNat 0=(nxt n q)[i]:=by
  rw [Int.toNat_natCast,List.getD_eq_getElem?_getD,List.getElem?_eq_getElem hi];rfl
 refine (h.tail (c:=(zA s (nxt n q)[i],((nxt n q)[i],0) :: [(q,((i+1 : Nat) : Int))])) ?_).trans (k.frame (r:=[(q,((i+1 : Nat) : Int))]))
 rw [y9,if_neg (by omega),e,if_neg (by rw [h0];decide),if_pos h0];rfl
theorem Mst.back {n : zg} {a : CfD} {s : DfS} {q : Int} {i : Nat} (h : Mst n a (s,[(q,(i : Nat))])) (hi : i<(nxt n q).length) (h0 : stA s (nxt n q)[i]=1) : Mst n a (xw s q (nxt n q)[i],[(q,((i+1 : Nat) : Int))]):=by
 have e : (nxt n q).getD ((i : Nat) : Int).toNat 0=(nxt n q)[i]:=by
  rw [Int.toNat_natCast,List.getD_eq_getElem?_getD,List.getElem?_eq_getElem hi];rfl
 refine h.tail ?_
 rw [y9,if_neg (by omega),e,if_pos h0];rfl
theorem Mst.over {n : zg} {a : CfD} {s : DfS} {q : Int} {i : Nat} (h : Mst n a (s,[(q,(i : Nat))])) (hi : i<(nxt n q).length) (h0 : stA s (nxt n q)[i]≠0) (h1 : stA s (nxt n q)[i]≠1) : Mst n a (s,[(q,((i+1 : Nat) : Int))]):=by
 have e : (nxt n q).getD ((i : Nat) : Int).toNat 0=(nxt n q)[i]:=by
  rw [Int.toNat_natCast,List.getD_eq_getElem?_getD,List.getElem?_eq_getElem hi];rfl
 refine h.tail ?_
 rw [y9,if_neg (by omega),e,if_neg h1,if_neg h0];rfl
theorem Mst.out {n : zg} {a : CfD} {s : DfS} {q : Int} {i : Nat} (h : Mst n a (s,[(q,(i : Nat))])) (hi : (nxt n q).length≤i) : Mst n a (leave s q,[]):=by
 refine h.tail ?_
 rw [y9,if_pos (by omega)]
end Go.Proofs
end
section
namespace Go.Proofs
open Go.Sh Go.RowKit
set_option maxRecDepth 100000
set_option linter.unusedSimpArgs false
set_option linter.unusedVariables false
theorem aao {m : List Bool} {x : Int} (h : x.toNat<m.length) : (bls m)[0+x.toNat]? = some (.bool (mk' m x)):=by
 rw [Nat.zero_add,bls,List.getElem?_map,mk',List.getD_eq_getElem?_getD,List.getElem?_eq_getElem h];rfl
set_option maxHeartbeats 2000000 in
theorem aiA {g : GrD} {bw bc bl : Nat} {x1 x2 x3 x4 : Option Addr} {y1 y2 y3 y4 : Nat} {w0 : World} (hF : vZ (netG g)) : ∀ (k : Nat) {s : DfS} {q : Int} {vo vb : Value} {w : World} {r : Gh} {B : Nat} {K : Value→World→Prop},yK (netG g) s≤k→GrG r (grL g x1 x2 x3 x4 y1 y2 y3 y4) g→isN (netG g) q→stA s q=0→s.st.length=(netG g).length→s.out.length+s.back.length+yK (netG g) s≤B→B≤1000000→
  StX noX w0 r w [.cell bw (grL g x1 x2 x3 x4 y1 y2 y3 y4 ++ [.slice (some ⟨bc,0,none⟩) (netG g).length (netG g).length,.slice (some ⟨bl,0,none⟩) (netG g).length (netG g).length,vo,vb]) 112,.cell bc (bls (ke s)) 4,.cell bl (bls (kf s)) 4,.row vo 3 1 s.out.length (ints s.out),.row vb 52 2 s.back.length (zX s.back)]→
  (∀ s' vo' vb' w',Mst (netG g) (zA s q,[(q,0)]) (s',[])→Met s s'→s'.out.length+s'.back.length+yK (netG g) s'≤B→StX noX w0 r w' [.cell bw (grL g x1 x2 x3 x4 y1 y2 y3 y4 ++ [.slice (some ⟨bc,0,none⟩) (netG g).length (netG g).length,.slice (some ⟨bl,0,none⟩) (netG g).length (netG g).length,vo',vb']) 112,.cell bc (bls (ke s')) 4,.cell bl (bls (kf s')) 4,.row vo' 3 1 s'.out.length (ints s'.out),.row vb' 52 2 s'.back.length (zX s'.back)]→K (.tuple #[]) w')→
  zd Tryz.prog Tryz.xK #[.pointer (some ⟨bw,0,none⟩),.int .i64 q] w K:=by
 intro k
 induction k with
 |zero=>
  intro s q vo vb w r B K hk hg hq hs hl hB hB2 S h
  have:=Qe hl hq hs
  omega
 |succ k ih=>
  intro s q vo vb w r B K hk hg hq hs hl hB hB2 S h
  have hwc:=Qe hl hq hs
  have q0:=hq.1;have q1:=hq.2
  refine Tryz.Qf ?_
  unfold Tryz.vL
  refine n_some ?_
  refine gp_ ?_
  refine S.ld (b:=bw) ?_
  refine gp_ ?_
  refine S.st (b:=bc) (fun w1 S=>?_) (by rw [yI,aeY];omega)
  have S : StX noX w0 r w1 [.cell bw (grL g x1 x2 x3 x4 y1 y2 y3 y4 ++ [.slice (some ⟨bc,0,none⟩) (netG g).length (netG g).length,.slice (some ⟨bl,0,none⟩) (netG g).length (netG g).length,vo,vb]) 112,.cell bc (bls (ke (zA s q))) 4,.cell bl (bls (kf (zA s q))) 4,.row vo 3 1 (zA s q).out.length (ints (zA s q).out),.row vb 52 2 (zA s q).back.length (zX (zA s q).back)]:=by
   rw [ahC,ahD hs,← y7 q0];exact S
  refine gg_ ?_
  refine S.ldN (b:=bw) ?_
  refine qZ S.holds hg.up hq fun v2 s2 w2 e2 n2 hs2=>?_
  obtain ⟨S,_,a2⟩:=S.tell e2 n2
  obtain ⟨p2,c2,rfl,_,_⟩:=hs2.shape
  have hok:=hF.ok
  have hlN : ∀ y ∈ nxt (netG g) q,isN (netG g) y:=fun y hy=>yu hok hy
  have hdeg : (nxt (netG g) q).length≤2:=by rw [xV hq];exact hF.nar _ (List.getElem_mem _)
  have hcq:=ajs (s:=s) q0 (by omega)
  have hM0 : Mst (netG g) (zA s q,[(q,0)]) (zA s q,[(q,((0 : Nat) : Int))]):=.refl
  have hB0 : (zA s q).out.length+(zA s q).back.length+yK (netG g) (zA s q)+((nxt (netG g) q).length - 0)+1≤B:=by
   show s.out.length+s.back.length+yK (netG g) (zA s q)+((nxt (netG g) q).length - 0)+1≤B
   omega
  refine zh (ι:=DfS × Nat × Value × Value) (fun i=>[.int .i64 (i.2.1 : Nat)]) (fun i w'=>i.2.1≤(nxt (netG g) q).length∧Mst (netG g) (zA s q,[(q,0)]) (i.1,[(q,(i.2.1 : Nat))])∧Met (zA s q) i.1∧i.1.out.length+i.1.back.length+yK (netG g) i.1+((nxt (netG g) q).length - i.2.1)+1≤B∧StX noX w0 (r.or s2) w' [.cell bw (grL g x1 x2 x3 x4 y1 y2 y3 y4 ++ [.slice (some ⟨bc,0,none⟩) (netG g).length (netG g).length,.slice (some ⟨bl,0,none⟩) (netG g).length (netG g).length,i.2.2.1,i.2.2.2]) 112,.cell bc (bls (ke i.1)) 4,.cell bl (bls (kf i.1)) 4,.row i.2.2.1 3 1 i.1.out.length (ints i.1.out),.row i.2.2.2 52 2 i.1.back.length (zX i.1.back)]) (fun i=>(nxt (netG g) q).length - i.2.1) (zA s q,0,vo,vb) rfl ⟨Nat.zero_le _,hM0,.refl,hB0,S⟩ ?_
  repeat clear S
  clear hM0 hB0
  rintro ⟨t,i,vo,vb⟩ d w3 ⟨hi,hM,hT,hb,S⟩ K3 hK3
  simp only at hi hM hT hb S ⊢
  rw [List.getD_cons_zero]
  have htl : t.st.length=(netG g).length:=by rw [hT.1,(ae2 (s:=s) (p:=q)).1,hl]
  have hwt:=aah (n:=netG g) hT.2
  have hab:=xV hq
  refine gg_ ?_
  refine zj (fun hlt=>?_) (fun hge=>?_)
  ·have hlt : i<(nxt (netG g) q).length:=by omega
   obtain ⟨bn,on,hpe,_,hcn⟩:=zE hs2 hlt
   cases hpe
   have hpN:=hlN _ (List.getElem_mem hlt)
   refine zp (fun y w'=>∃ t' vo' vb',Mst (netG g) (zA s q,[(q,0)]) (t',[(q,((i+1 : Nat) : Int))])∧Met t t'∧t'.out.length+t'.back.length+yK (netG g) t'+((nxt (netG g) q).length - (i+1))+1≤B∧StX noX w0 (r.or s2) w' [.cell bw (grL g x1 x2 x3 x4 y1 y2 y3 y4 ++ [.slice (some ⟨bc,0,none⟩) (netG g).length (netG g).length,.slice (some ⟨bl,0,none⟩) (netG g).length (netG g).length,vo',vb']) 112,.cell bc (bls (ke t')) 4,.cell bl (bls (kf t')) 4,.row vo' 3 1 t'.out.length (ints t'.out),.row vb' 52 2 t'.back.length (zX t'.back)]) (fun K7 hK7=>?_) ?_
   ·have S:=S.go (Ext.drew w3)
    have hinto:=fun s'=>hM.into (s':=s') hlt
    have hback:=hM.back hlt
    have hover:=hM.over hlt
    generalize (nxt (netG g) q)[i]=p at hcn hpN hinto hback hover
    have p0:=hpN.1;have p1:=hpN.2
    refine n_some ?_
    refine gp_ ?_
    refine S.ld (b:=bw) ?_
    refine gg_ ?_
    refine zi (by rw [Int.toNat_natCast];exact S.at hcn) ?_
    refine gp_ ?_
    refine S.ld (b:=bc) ?_ (aao (by rw [aeY];omega))
    rw [ajq]
    refine gg_ ?_
    refine c_b (fun hc=>?_) (fun hc=>?_)
    ·have h0 : stA t p=0:=by simpa using hc
     refine gg_ ?_
     refine zi (by rw [Int.toNat_natCast];exact S.at hcn) ?_
     refine ih (B:=B - ((nxt (netG g) q).length - i) - 1) (by omega) hg.up hpN h0 htl (by omega) (by omega) S fun t' vo' vb' w' hM' hMet hb' S=>?_
     exact hK7 _ _ ⟨t',vo',vb',hinto _ h0 hM',hMet,by omega,S⟩
    have h0 : stA t p≠0:=by simpa using hc
    have S:=S.go (Ext.drew w3.drew)
    refine n_some ?_
    refine gp_ ?_
    refine S.ld (b:=bw) ?_
    refine gg_ ?_
    refine zi (by rw [Int.toNat_natCast];exact S.at hcn) ?_
    refine gp_ ?_
    refine S.ld (b:=bl) ?_ (aao (by rw [aeZ];omega))
    rw [ajr]
    refine gg_ ?_
    refine c_b (fun hc=>?_) (fun hc=>?_)
    ·have h1 : stA t p=1:=by simpa [h0] using hc
     have S:=S.go (Ext.drew w3.drew.drew)
     refine n_some ?_
     refine gp_ ?_
     refine S.ld (b:=bw) ?_
     refine gg_ ?_
     refine zi (by rw [Int.toNat_natCast];exact S.at hcn) ?_
     refine zC (cs:=#[.int .i64 q,.int .i64 p]) (by kernel_rfl) ?_
     refine S.litU (e:=52) (cs:=[.int .i64 q,.int .i64 p]) (by kernel_rfl) fun b20 w6 S=>?_
     refine S.ap (v:=vb) (m':=1) (Sl.blk (S.blk b20)) (fun v4 w7 S=>?_) (by omega)
     have S:=S.drop b20
     obtain ⟨pv,capv,rfl,_⟩:=S.rowS v4
     refine n_some ?_
     refine gp_ ?_
     refine S.st (b:=bw) (fun w8 S=>?_)
     refine hK7 _ _ ⟨xw t q p,vo,.slice pv (t.back.length+1) capv,hback h1,aiz,?_,?_⟩
     ·show t.out.length+(t.back ++ [(q,p)]).length+yK (netG g) t+((nxt (netG g) q).length - (i+1))+1≤B
      rw [List.length_append,List.length_singleton];omega
     ·show StX noX w0 (r.or s2) w8 [.cell bw (grL g x1 x2 x3 x4 y1 y2 y3 y4 ++ [.slice (some ⟨bc,0,none⟩) (netG g).length (netG g).length,.slice (some ⟨bl,0,none⟩) (netG g).length (netG g).length,vo,(.slice pv (t.back.length+1) capv)]) 112,.cell bc (bls (ke (xw t q p))) 4,.cell bl (bls (kf (xw t q p))) 4,.row vo 3 1 (xw t q p).out.length (ints (xw t q p).out),.row (.slice pv (t.back.length+1) capv) 52 2 (xw t q p).back.length (zX (xw t q p).back)]
      rw [show (xw t q p).back=t.back ++ [(q,p)] from rfl,kG,List.length_append]
      exact S
    ·have h1 : stA t p≠1:=by simpa [h0] using hc
     exact hK7 _ _ ⟨t,vo,vb,hover h0 h1,.refl,by omega,S⟩
   rintro y w4 ⟨t',vo',vb',hM',hMt,hb',S⟩ d
   refine gg_ ?_
   exact hK3 (t',i+1,vo',vb') _ ⟨hlt,hM',hT.trans hMt,hb',S⟩ (by show (nxt (netG g) q).length - (i+1)<(nxt (netG g) q).length - i;omega)
  have hie : i=(nxt (netG g) q).length:=by omega
  have hq1 : stA t q≠0:=hT.st (by rw [hcq];decide)
  refine n_some ?_
  refine gp_ ?_
  refine S.ld (b:=bw) ?_
  refine gp_ ?_
  refine S.st (b:=bl) (fun w4 S=>?_) (by rw [yI,aeZ];omega)
  refine n_some ?_
  refine gp_ ?_
  refine S.ld (b:=bw) ?_
  refine S.lit (e:=3) (cs:=[.int .i64 q]) (by kernel_rfl) fun b21 w5 S=>?_
  refine S.ap (v:=vo) (m':=1) (Sl.blk (S.blk b21)) (fun v4 w6 S=>?_) (by omega)
  have S:=S.drop b21
  obtain ⟨pv,capv,rfl,_⟩:=S.rowS v4
  refine n_some ?_
  refine gp_ ?_
  refine S.st (b:=bw) (fun w7 S=>?_)
  have S:=S.less (q:=r) (fun b o ho=>.inl ho) (List.Sublist.refl _)
  have hwl:=aah (n:=netG g) (acW (s:=t) (p:=q)).2
  refine h (leave t q) (.slice pv (t.out.length+1) capv) vb _ (hM.out (by omega)) (ae2.trans (hT.trans acW)) ?_ ?_
  ·show (t.out ++ [q]).length+t.back.length+yK (netG g) (leave t q)≤B
   rw [List.length_append,List.length_singleton];omega
  ·rw [agE hq1,agF,← y7 q0]
   rw [show (leave t q).out=t.out ++ [q] from rfl,yo,List.length_append]
   exact S
end Go.Proofs
end
section
namespace Go.Proofs
open Go.Sh Go.RowKit
set_option maxRecDepth 100000
set_option linter.unusedSimpArgs false
set_option linter.unusedVariables false
theorem acX {n : zg} : ke (yb n)=List.replicate n.length false:=by simp [ke,yb]
theorem acY {n : zg} : kf (yb n)=List.replicate n.length false:=by simp [kf,yb]
theorem ajt {l : List Int} {j : Nat} (h : j<l.length) : l.reverse.take (j+1)=l.reverse.take j ++ [l[l.length - 1 - j]]:=by
 rw [List.take_succ_eq_append_getElem (by rw [List.length_reverse];exact h),List.getElem_reverse]
set_option maxHeartbeats 2000000 in
theorem agG {g : GrD} {c : List Value} {w : World} {r : Gh} {K : Value→World→Prop} (hr : Holds r w) (hg : GrG r c g) (hF : vZ (netG g))
  (h : ∀ v1 v2 s w' st,Ext w w'→New w s w'→Mst (netG g) (zA (yb (netG g)) 0,[(0,0)]) (st,[])→SlG 1 s zu v1 st.out.reverse→SlG 2 s X2 v2 st.back→K (.tuple #[v1,v2]) w') : zd Tryz.prog Tryz.Ys #[.agg c.toArray] w K:=by
 refine Tryz.adB ?_
 unfold Tryz.JJ
 have hg0:=hg
 obtain ⟨x1,x2,x3,x4,y1,y2,y3,y4,rfl,hg1⟩:=xC hg
 have hfew:=hF.few
 have hpos:=hF.pos
 have hgl:=yj (g:=g)
 have hz : isN (netG g) 0:=⟨Int.le_refl _,by omega⟩
 have S:=St.start hr
 refine S.box fun b1 w1 S=>?_
 have S : StX noX w r w1 [.cell b1 (grL g x1 x2 x3 x4 y1 y2 y3 y4) 38]:=S
 refine zp (fun y w'=>∃ bw bc bl,y = [.pointer (some ⟨bw,0,none⟩)]∧StX noX w r w' [.cell bw (grL g x1 x2 x3 x4 y1 y2 y3 y4 ++ [.slice (some ⟨bc,0,none⟩) (netG g).length (netG g).length,.slice (some ⟨bl,0,none⟩) (netG g).length (netG g).length,(.slice none 0 0),(.slice none 0 0)]) 112,.cell bc (bls (ke (yb (netG g)))) 4,.cell bl (bls (kf (yb (netG g)))) 4,.row (.slice none 0 0) 3 1 (yb (netG g)).out.length (ints (yb (netG g)).out),.row (.slice none 0 0) 52 2 (yb (netG g)).back.length (zX (yb (netG g)).back)]) (fun K2 hK2=>?_) ?_
 ·have S:=(S.ownNil 52 2).ownNil 3 1
  have S:=S.go (Ext.drew w1)
  refine S.ldB (b:=b1) ?_ rfl
  refine gg_ ?_
  rw [← hgl]
  refine ⟨?_,?_⟩
  ·refine S.mkSU (by omega) (by omega) fun bc w2 S=>?_
   refine S.mkSU (by omega) (by omega) fun bl w3 S=>?_
   rw [Int.toNat_natCast] at S ⊢
   rw [kv] at S
   have S:=S.front bc
   refine zC (cs:=List.toArray (α:=Value) (grL g x1 x2 x3 x4 y1 y2 y3 y4 ++ [.slice (some ⟨bc,0,none⟩) (netG g).length (netG g).length,.slice (some ⟨bl,0,none⟩) (netG g).length (netG g).length,.slice none 0 0,.slice none 0 0])) (by kernel_rfl) ?_
   refine S.box fun bw w4 S=>?_
   have S:=S.drop b1
   refine hK2 _ _ ⟨bw,bc,bl,rfl,?_⟩
   rw [acX,acY]
   exact S
  ·refine S.mkSU (by omega) (by omega) fun bl w2 S=>?_
   refine S.mkSU (by omega) (by omega) fun bc w3 S=>?_
   rw [Int.toNat_natCast] at S ⊢
   rw [kv] at S
   refine zC (cs:=List.toArray (α:=Value) (grL g x1 x2 x3 x4 y1 y2 y3 y4 ++ [.slice (some ⟨bc,0,none⟩) (netG g).length (netG g).length,.slice (some ⟨bl,0,none⟩) (netG g).length (netG g).length,.slice none 0 0,.slice none 0 0])) (by kernel_rfl) ?_
   refine S.box fun bw w4 S=>?_
   have S:=S.drop b1
   refine hK2 _ _ ⟨bw,bc,bl,rfl,?_⟩
   rw [acX,acY]
   exact S
 repeat clear S
 rintro y w2 ⟨bw,bc,bl,rfl,S⟩ d
 rw [List.getD_cons_zero]
 have hwf:=acP hF.nar (yb (netG g))
 have hs0 : stA (yb (netG g)) 0=0:=by rw [stA,yb];exact afR
 refine aiA hF (yK (netG g) (yb (netG g))) (B:=3072) (Nat.le_refl _) hg0 hz hs0 (by simp [yb]) (by show 0+0+yK (netG g) (yb (netG g))≤3072;omega) (by omega) S fun st vo vb w3 hM _ hB S=>?_
 have hol : st.out.length≤3072:=by omega
 have hbl : st.back.length≤3072:=by omega
 obtain ⟨po,co,rfl,_⟩:=S.rowS vo
 refine n_some ?_
 refine gp_ ?_
 refine S.ld (b:=bw) ?_
 refine gg_ ?_
 have T : StX noX w r w3 (.row (.slice none 0 0) 3 1 (st.out.reverse.take 0).length (ints (st.out.reverse.take 0)) :: [.cell bw (grL g x1 x2 x3 x4 y1 y2 y3 y4 ++ [.slice (some ⟨bc,0,none⟩) (netG g).length (netG g).length,.slice (some ⟨bl,0,none⟩) (netG g).length (netG g).length,(.slice po st.out.length co),vb]) 112,.cell bc (bls (ke st)) 4,.cell bl (bls (kf st)) 4,.row (.slice po st.out.length co) 3 1 st.out.length (ints st.out),.row vb 52 2 st.back.length (zX st.back)]):=S.ownNil 3 1
 repeat clear S
 refine zh (ι:=Nat × Value) (fun i=>[i.2,.int .i64 ((st.out.length : Int) - 1 - (i.1 : Nat))]) (fun i w'=>i.1≤st.out.length∧StX noX w r w' (.row i.2 3 1 (st.out.reverse.take i.1).length (ints (st.out.reverse.take i.1)) :: [.cell bw (grL g x1 x2 x3 x4 y1 y2 y3 y4 ++ [.slice (some ⟨bc,0,none⟩) (netG g).length (netG g).length,.slice (some ⟨bl,0,none⟩) (netG g).length (netG g).length,(.slice po st.out.length co),vb]) 112,.cell bc (bls (ke st)) 4,.cell bl (bls (kf st)) 4,.row (.slice po st.out.length co) 3 1 st.out.length (ints st.out),.row vb 52 2 st.back.length (zX st.back)])) (fun i=>st.out.length - i.1) (0,.slice none 0 0) (by simp) ⟨Nat.zero_le _,T⟩ ?_
 clear T
 rintro ⟨j,vq⟩ d w4 ⟨hj,S⟩ K4 hK4
 simp only at hj S ⊢
 simp only [List.getD_cons_zero,List.getD_cons_succ]
 refine gp_ ?_
 refine zj (fun hge=>?_) (fun hlt=>?_)
 ·have hjl : j<st.out.length:=by omega
  obtain ⟨pt,capt,he,_,_,_,hst⟩:=S.rowS (.slice po st.out.length co)
  cases he
  obtain ⟨bt,ot,rfl,hct⟩:=hst.at (i:=st.out.length - 1 - j) (by rw [zI];omega)
  have hv : (ints st.out)[st.out.length - 1 - j]'(by rw [zI];omega) = .int .i64 st.out[st.out.length - 1 - j]:=by simp [ints]
  rw [hv] at hct
  refine n_some ?_
  refine gp_ ?_
  refine S.ld (b:=bw) ?_
  refine gg_ ?_
  refine zi (by rw [show ((st.out.length : Int) - 1 - (j : Nat)).toNat=st.out.length - 1 - j by omega];exact hct) ?_
  refine S.lit (e:=3) (cs:=[.int .i64 st.out[st.out.length - 1 - j]]) (by kernel_rfl) fun b5 w8 S=>?_
  refine S.ap (v:=vq) (m':=1) (Sl.blk (S.blk b5)) (fun v4 w9 S=>?_) (by rw [List.length_take];omega)
  have S:=S.drop b5
  refine gg_ ?_
  have e : (st.out.length : Int) - 1 - (j : Nat) - 1=(st.out.length : Int) - 1 - ((j+1 : Nat) : Int):=by omega
  rw [e]
  refine hK4 (j+1,v4) _ ⟨hjl,?_⟩ (by show st.out.length - (j+1)<st.out.length - j;omega)
  show StX noX w r w9 (.row v4 3 1 (st.out.reverse.take (j+1)).length (ints (st.out.reverse.take (j+1))) :: [.cell bw (grL g x1 x2 x3 x4 y1 y2 y3 y4 ++ [.slice (some ⟨bc,0,none⟩) (netG g).length (netG g).length,.slice (some ⟨bl,0,none⟩) (netG g).length (netG g).length,(.slice (some ⟨bt,ot,none⟩) st.out.length co),vb]) 112,.cell bc (bls (ke st)) 4,.cell bl (bls (kf st)) 4,.row (.slice (some ⟨bt,ot,none⟩) st.out.length co) 3 1 st.out.length (ints st.out),.row vb 52 2 st.back.length (zX st.back)])
  rw [ajt hjl,yo,List.length_append]
  exact S
 have hje : j=st.out.length:=by omega
 clear hK4
 subst hje
 rw [List.take_of_length_le (by rw [List.length_reverse];exact Nat.le_refl _)] at S
 have S:=S.go (Ext.drew w4)
 refine n_some ?_
 refine gp_ ?_
 refine S.ld (b:=bw) ?_
 obtain ⟨s1,T,h1,_,ha1⟩:=S.doneRow zS (by decide) rfl
 have T:=T.less (fun _ _ k=>k) (show List.Sublist [.row vb 52 2 st.back.length (zX st.back)] _ from .cons _ (.cons _ (.cons _ (.cons _ (List.Sublist.refl _)))))
 obtain ⟨s2,U,h2,_,ha2⟩:=T.doneRow acQ (by decide) rfl
 exact h _ _ (s1.or s2) _ st U.ext (StX.newOf (q:=s1.or s2) U.reGh (Above.or' (fun b o ho=>(ha1 b o ho).resolve_right id) fun b o ho=>(ha2 b o ho).resolve_right id)) hM (h1.up' inferInstance fun _ _ h=>h) (h2.up' inferInstance fun _ _ h=>h)
end Go.Proofs
end
section
namespace Go.Proofs.Tryz
open Go.Sh
set_option maxRecDepth 100000
def ZC (t0 t1 t2 t3 : Value) (w : World) (K : VW) : Prop:=
 pw w (Instr.box 25 t0) fun t4 w1=>
 lo w1 25 t4 fun t19=>ca qw #[t19] w1 fun t20 w2=>
 pp (Op.unary .not t20) fun t21=>zc t21 (ca yc #[] w2 fun t22 w3=>
 K t22 w3) (lo w2 25 t4 fun t24=>ca jx #[t24,t1,t2] w2 fun t27 w4=>
 pe t27 0 fun t28=>pe t27 1 fun t29=>lo w4 25 t4 fun t31=>ca j7 #[t31,t1,t2] w4 fun t34 w5=>
 pe t34 0 fun t35=>pe t34 1 fun t36=>lo w5 25 t4 fun t38=>ca j8 #[t38,t1,t2] w5 fun t41 w6=>
 pe t41 0 fun t42=>pe t41 1 fun t43=>za (fun K7=>
 bt .lss 3 t2 (i6 0) fun t45=>za (fun K11=>gIf t45 false (lo w6 25 t4 fun t47=>ca kA #[t47,t1,t2] w6 fun t50 w15=>
 pp (Op.unary .not t50) fun t51=>K11 [t51] w15) (K11 [undef] w6)) (fun s12 _d13 w14=>
 zb t45 tr_ (s12.getD 0 undef) fun t52=>zc t52 (pp (Builtin.len_ #[28] 3 #[t28]) fun t54=>pp (Builtin.len_ #[28] 3 #[t35]) fun t56=>bf .add 3 t54 t56 fun t57=>pp (Builtin.len_ #[28] 3 #[t42]) fun t59=>bf .add 3 t57 t59 fun t60=>bt .gtr 3 t60 (i6 0) fun t61=>za (fun K16=>gIf t61 false (bt .neq 29 t29 (i6 2) fun t64=>K16 [t64] w14) (K16 [undef] w14)) (fun s17 _d18 w19=>
 zb t61 tr_ (s17.getD 0 undef) fun t65=>za (fun K20=>gIf t65 false (bt .neq 29 t36 (i6 2) fun t68=>K20 [t68] w19) (K20 [undef] w19)) (fun s21 _d22 w23=>
 zb t65 tr_ (s21.getD 0 undef) fun t69=>za (fun K24=>gIf t69 false (bt .neq 29 t43 (i6 2) fun t72=>K24 [t72] w23) (K24 [undef] w23)) (fun s25 _d26 w27=>
 zb t69 tr_ (s25.getD 0 undef) fun t73=>zc t73 (K fa_ w27) (K7 [] w27))))) (fl w14 t4 25 1 23 fun t75=>xl w14 23 t75 t1 38 fun t78=>pw w14 (Instr.alloc 38 true (.tuple #[])) fun t15 w28=>
 so w28 38 t15 t78 fun w29=>bt .neq 29 t29 (i6 0) fun t80=>za (fun K30=>gIf t80 false (bt .neq 29 t36 (i6 0) fun t83=>K30 [t83] w29) (K30 [undef] w29)) (fun s31 _d32 w33=>
 zb t80 tr_ (s31.getD 0 undef) fun t84=>za (fun K34=>gIf t84 false (bt .neq 29 t43 (i6 0) fun t87=>K34 [t87] w33) (K34 [undef] w33)) (fun s35 _d36 w37=>
 zb t84 tr_ (s35.getD 0 undef) fun t88=>za (fun K38=>gIf t88 false (lo w37 38 t15 fun t91=>ca qL #[t91,t2] w37 fun t93 w42=>
 ca yY #[t28,t93] w42 fun t94 w43=>
 pp (Op.unary .not t94) fun t95=>K38 [t95] w43) (K38 [undef] w37)) (fun s39 _d40 w41=>
 zb t88 tr_ (s39.getD 0 undef) fun t96=>za (fun K44=>gIf t96 false (lo w41 38 t15 fun t99=>ca ZK #[t99,t2] w41 fun t101 w48=>
 ca yY #[t35,t101] w48 fun t102 w49=>
 pp (Op.unary .not t102) fun t103=>K44 [t103] w49) (K44 [undef] w41)) (fun s45 _d46 w47=>
 zb t96 tr_ (s45.getD 0 undef) fun t104=>za (fun K50=>gIf t104 false (lo w47 38 t15 fun t107=>ca kJ #[t107,t2] w47 fun t109 w54=>
 ca yY #[t42,t109] w54 fun t110 w55=>
 pp (Op.unary .not t110) fun t111=>K50 [t111] w55) (K50 [undef] w47)) (fun s51 _d52 w53=>
 zb t104 tr_ (s51.getD 0 undef) fun t112=>zc t112 (K fa_ w53) (K7 [] w53))))))))) (fun _s8 _d9 w10=>
 lo w10 25 t4 fun t114=>ca Zg #[t114,t1,t2,t3] w10 fun t118 w56=>
 pe t118 0 fun t119=>pe t118 1 fun t120=>bt .lss 3 t2 (i6 0) fun t122=>za (fun K57=>gIf t122 false (bt .lss 3 t3 (i6 0) fun t125=>K57 [t125] w56) (K57 [undef] w56)) (fun s58 _d59 w60=>
 zb t122 tr_ (s58.getD 0 undef) fun t126=>za (fun K61=>gIf t126 false (lo w60 25 t4 fun t128=>ca kA #[t128,t1,t2] w60 fun t131 w65=>
 pp (Op.unary .not t131) fun t132=>K61 [t132] w65) (K61 [undef] w60)) (fun s62 _d63 w64=>
 zb t126 tr_ (s62.getD 0 undef) fun t133=>za (fun K66=>gIf t133 false (lo w64 25 t4 fun t135=>ca kA #[t135,t1,t3] w64 fun t138 w70=>
 pp (Op.unary .not t138) fun t139=>K66 [t139] w70) (K66 [undef] w64)) (fun s67 _d68 w69=>
 zb t133 tr_ (s67.getD 0 undef) fun t140=>zc t140 (pp (Builtin.len_ #[28] 3 #[t119]) fun t142=>bt .eql 3 t142 (i6 0) fun t143=>za (fun K71=>gIf t143 true (bt .eql 29 t120 (i6 2) fun t146=>K71 [t146] w69) (K71 [undef] w69)) (fun s72 _d73 w74=>
 zb t143 (s72.getD 0 undef) fa_ fun t147=>za (fun K75=>gIf t147 true (ca yc #[] w74 fun t149 w79=>
 K75 [t149] w79) (K75 [undef] w74)) (fun s76 _d77 w78=>
 zb t147 (s76.getD 0 undef) fa_ fun t150=>K t150 w78))) (fl w69 t4 25 1 23 fun t153=>xl w69 23 t153 t1 38 fun t156=>ca Yr #[t156,t2,t3] w69 fun t159 w80=>
 pe t159 0 fun t160=>pe t159 1 fun t161=>ca yY #[t119,t160] w80 fun t164 w81=>
 za (fun K82=>gIf t164 true (bt .eql 29 t120 (i6 0) fun t167=>bf .eql 4 t167 t161 fun t169=>K82 [t169] w81) (K82 [undef] w81)) (fun s83 _d84 w85=>
 zb t164 (s83.getD 0 undef) fa_ fun t170=>za (fun K86=>gIf t170 true (K86 [t161] w85) (K86 [undef] w85)) (fun s87 _d88 w89=>
 za (fun K90=>gIf (s87.getD 0 undef) false (bt .eql 29 t120 (i6 2) fun t175=>K90 [t175] w89) (K90 [undef] w89)) (fun s91 _d92 w93=>
 za (fun K94=>gIf t170 true (zb (s87.getD 0 undef) tr_ (s91.getD 0 undef) fun t176=>K94 [t176] w93) (K94 [undef] w93)) (fun s95 _d96 w97=>
 zb t170 (s95.getD 0 undef) fa_ fun t177=>za (fun K98=>gIf t177 true (ca yc #[] w97 fun t179 w102=>
 K98 [t179] w102) (K98 [undef] w97)) (fun s99 _d100 w101=>
 zb t177 (s99.getD 0 undef) fa_ fun t180=>K t180 w101)))))))))))
theorem QN {t0 t1 t2 t3 : Value} {w : World} {K : VW} (h : ZC t0 t1 t2 t3 w K) : zd prog Zq #[t0,t1,t2,t3] w K:=
 okC false (.s (.r (rz 2 0 2)) (.s (.s (.r (rz 3 0 9)) (.c (.s (.r (rz 2 0 2)) (.n)) (.n))) (.s (.r (rz 9 0 129)) (.s (.r (rz 9 0 129)) (.s (.r (rz 9 0 129)) (.j [] (.s (.r (ra 3 0 0 (.grp 46 false (ri 5 3 129) [51] (rz 1 8 0)))) (.c (.s (.r (ra 10 0 0 (.grp 62 false (ri 2 10 0) [64] (ra 2 12 0 (.grp 66 false (ri 2 14 0) [68] (ra 2 16 0 (.grp 70 false (ri 2 18 0) [72] (rz 1 20 0)))))))) (.c (.s (.r (rz 1 0 0)) (.n)) (.n))) (.s (.r (rz 7 0 10500)) (.s (.r (ra 3 0 0 (.grp 81 false (ri 2 3 0) [83] (ra 2 5 0 (.grp 85 false (ri 2 7 0) [87] (ra 2 9 0 (.grp 89 false (ri 6 11 644) [95] (ra 2 17 0 (.grp 97 false (ri 6 19 644) [103] (ra 2 25 0 (.grp 105 false (ri 6 27 644) [111] (rz 1 33 0)))))))))))) (.c (.s (.r (rz 1 0 0)) (.n)) (.n)))))) (.s (.r (rz 10 0 513)) (.s (.s (.r (ra 3 0 0 (.grp 123 false (ri 2 3 0) [125] (ra 2 5 0 (.grp 127 false (ri 5 7 129) [132] (ra 2 12 0 (.grp 134 false (ri 5 14 129) [139] (rz 1 19 0)))))))) (.c (.s (.r (ra 4 0 0 (.grp 144 true (ri 2 4 0) [146] (ra 2 6 0 (.grp 148 true (ri 1 8 2) [149] (rz 2 9 0)))))) (.n)) (.n))) (.s (.r (rz 13 0 33028)) (.s (.r (ra 4 0 32 (.grp 165 true (ri 4 4 0) [169] (ra 2 8 0 (.grp 171 true (ri 2 10 0) [173] (.grp 173 false (ri 2 12 0) [175] (.grp 171 true (ri 1 14 0) [176] (ra 2 15 0 (.grp 178 true (ri 1 17 2) [179] (rz 2 18 0)))))))))) (.n))))))))))) func3 rfl (by kernel_rfl) (by kernel_rfl) h
def Z5 (t0 t1 : Value) (w : World) (K : VW) : Prop:=
 pw w (Instr.box 25 t0) fun t2 w1=>
 lo w1 25 t2 fun t15=>ca qw #[t15] w1 fun t16 w2=>
 pp (Op.unary .not t16) fun t17=>zc t17 (ca yc #[] w2 fun t18 w3=>
 K t18 w3) (lo w2 25 t2 fun t20=>ca j9 #[t20,t1] w2 fun t22 w4=>
 pe t22 0 fun t23=>pe t22 1 fun t24=>lo w4 25 t2 fun t26=>ca Zh #[t26,t1] w4 fun t28 w5=>
 pe t28 0 fun t29=>pe t28 1 fun t30=>lo w5 25 t2 fun t32=>ca vc #[t32,t1] w5 fun t34 w6=>
 pe t34 0 fun t35=>pe t34 1 fun t36=>lo w6 25 t2 fun t37=>ca kA #[t37,t1,(i6 (-1))] w6 fun t39 w7=>
 pp (Op.unary .not t39) fun t40=>zc t40 (pp (Builtin.len_ #[28] 3 #[t23]) fun t42=>pp (Builtin.len_ #[46] 3 #[t29]) fun t44=>bf .add 3 t42 t44 fun t45=>pp (Builtin.len_ #[28] 3 #[t35]) fun t47=>bf .add 3 t45 t47 fun t48=>bt .eql 3 t48 (i6 0) fun t49=>za (fun K8=>gIf t49 true (bt .eql 29 t24 (i6 2) fun t52=>K8 [t52] w7) (K8 [undef] w7)) (fun s9 _d10 w11=>
 zb t49 (s9.getD 0 undef) fa_ fun t53=>za (fun K12=>gIf t53 true (bt .eql 29 t30 (i6 2) fun t56=>K12 [t56] w11) (K12 [undef] w11)) (fun s13 _d14 w15=>
 zb t53 (s13.getD 0 undef) fa_ fun t57=>za (fun K16=>gIf t57 true (bt .eql 29 t36 (i6 2) fun t60=>K16 [t60] w15) (K16 [undef] w15)) (fun s17 _d18 w19=>
 zb t57 (s17.getD 0 undef) fa_ fun t61=>za (fun K20=>gIf t61 true (ca yc #[] w19 fun t63 w24=>
 K20 [t63] w24) (K20 [undef] w19)) (fun s21 _d22 w23=>
 zb t61 (s21.getD 0 undef) fa_ fun t64=>K t64 w23))))) (fl w7 t2 25 1 23 fun t66=>xl w7 23 t66 t1 38 fun t69=>pw w7 (Instr.alloc 38 true (.tuple #[])) fun t11 w25=>
 so w25 38 t11 t69 fun w26=>lo w26 38 t11 fun t71=>ca Ys #[t71] w26 fun t72 w27=>
 pe t72 0 fun t73=>pe t72 1 fun t74=>bt .neq 29 t24 (i6 0) fun t76=>za (fun K28=>gIf t76 false (bt .neq 29 t30 (i6 0) fun t79=>K28 [t79] w27) (K28 [undef] w27)) (fun s29 _d30 w31=>
 zb t76 tr_ (s29.getD 0 undef) fun t80=>za (fun K32=>gIf t80 false (bt .neq 29 t36 (i6 0) fun t83=>K32 [t83] w31) (K32 [undef] w31)) (fun s33 _d34 w35=>
 zb t80 tr_ (s33.getD 0 undef) fun t84=>za (fun K36=>gIf t84 false (ca yY #[t23,t73] w35 fun t88 w40=>
 pp (Op.unary .not t88) fun t89=>K36 [t89] w40) (K36 [undef] w35)) (fun s37 _d38 w39=>
 zb t84 tr_ (s37.getD 0 undef) fun t90=>za (fun K41=>gIf t90 false (lo w39 38 t11 fun t93=>ca ZL #[t93] w39 fun t94 w45=>
 ca yY #[t35,t94] w45 fun t95 w46=>
 pp (Op.unary .not t95) fun t96=>K41 [t96] w46) (K41 [undef] w39)) (fun s42 _d43 w44=>
 zb t90 tr_ (s42.getD 0 undef) fun t97=>za (fun K47=>gIf t97 false (pp (Builtin.len_ #[46] 3 #[t29]) fun t100=>pp (Builtin.len_ #[46] 3 #[t74]) fun t102=>bf .neq 3 t100 t102 fun t103=>K47 [t103] w44) (K47 [undef] w44)) (fun s48 _d49 w50=>
 zb t97 tr_ (s48.getD 0 undef) fun t104=>zc t104 (K fa_ w50) (zm [(i6 0)] w50 (fun s52 _d53 w54 K51=>
 pp (Builtin.len_ #[46] 3 #[t29]) fun t107=>bf .lss 3 (s52.getD 0 undef) t107 fun t108=>zc t108 (xl w54.drew 46 t29 (s52.getD 0 undef) 52 fun t114=>xl w54.drew 46 t74 (s52.getD 0 undef) 52 fun t118=>pq w54.drew (yp .neq 52 false t114 t118) fun t119=>zc t119 (K fa_ w54.drew) (bt .add 3 (s52.getD 0 undef) (i6 1) fun t110=>K51 [t110] w54.drew)) (ca yc #[] w54 fun t120 w55=>
 K t120 w55))))))))))
theorem JM {t0 t1 : Value} {w : World} {K : VW} (h : Z5 t0 t1 w K) : zd prog ZY #[t0,t1] w K:=
 okC false (.s (.r (rz 2 0 2)) (.s (.s (.r (rz 3 0 9)) (.c (.s (.r (rz 2 0 2)) (.n)) (.n))) (.s (.r (rz 8 0 33)) (.s (.r (rz 8 0 33)) (.s (.r (rz 8 0 33)) (.s (.s (.r (rz 4 0 33)) (.c (.s (.r (ra 10 0 0 (.grp 50 true (ri 2 10 0) [52] (ra 2 12 0 (.grp 54 true (ri 2 14 0) [56] (ra 2 16 0 (.grp 58 true (ri 2 18 0) [60] (ra 2 20 0 (.grp 62 true (ri 1 22 2) [63] (rz 2 23 0)))))))))) (.n)) (.n))) (.s (.r (rz 7 0 10500)) (.s (.r (rz 7 0 9)) (.s (.s (.r (ra 3 0 0 (.grp 77 false (ri 2 3 0) [79] (ra 2 5 0 (.grp 81 false (ri 2 7 0) [83] (ra 2 9 0 (.grp 85 false (ri 4 11 32) [89] (ra 2 15 0 (.grp 91 false (ri 5 17 164) [96] (ra 2 22 0 (.grp 98 false (ri 5 24 0) [103] (rz 1 29 0)))))))))))) (.c (.s (.r (rz 1 0 0)) (.n)) (.n))) (.s (.s (.r (rz 1 0 0)) (.b (.lp [14] (.s (.s (.r (rz 4 0 0)) (.c (.n) (.n))) (.s (.b (.s (.r (rz 9 0 81984)) (.c (.s (.r (rz 1 0 0)) (.n)) (.n)))) (.r (rz 3 0 0))))))) (.s (.r (rz 2 0 2)) (.n)))))))))))) func4 rfl (by kernel_rfl) (by kernel_rfl) h
def YN (t0 t1 t2 t3 t4 : Value) (w : World) (K : VW) : Prop:=
 pw w (Instr.box 25 t0) fun t5 w1=>
 lo w1 25 t5 fun t26=>ca qw #[t26] w1 fun t27 w2=>
 pp (Op.unary .not t27) fun t28=>za (fun K3=>gIf t28 false (pp (Builtin.len_ #[28] 3 #[t4]) fun t31=>bt .gtr 3 t31 (i6 120) fun t32=>K3 [t32] w2) (K3 [undef] w2)) (fun s4 _d5 w6=>
 zb t28 tr_ (s4.getD 0 undef) fun t33=>zc t33 (ca yc #[] w6 fun t34 w7=>
 K t34 w7) (pw w6 (Builtin.append_ #[28,28] 28 #[(Value.slice Option.none 0 0),t4]) fun t36 w8=>
 pw w8 (Instr.buildSlice 28 1 #[(0,(i6 77))]) fun t37 w9=>
 pw w9 (Builtin.append_ #[28,28] 28 #[t36,t37]) fun t38 w10=>
 lo w10.drew 25 t5 fun t40=>pp (Builtin.len_ #[28] 3 #[t4]) fun t46=>pp (Instr.sliceAt 28 t38 none (some t46) none) fun t47=>ca Z9 #[t40,t1,t2,t3,t47] w10.drew fun t48 w11=>
 pe t48 0 fun t49=>pe t48 1 fun t50=>pe t48 2 fun t51=>lo w11.drew 25 t5 fun t53=>pp (Builtin.len_ #[28] 3 #[t4]) fun t57=>pp (Instr.sliceAt 28 t38 none (some t57) none) fun t58=>ca YY #[t53,t1,t58] w11.drew fun t59 w12=>
 pe t59 0 fun t60=>pe t59 1 fun t61=>pe t59 2 fun t62=>zm [(i6 0)] w12 (fun s14 _d15 w16 K13=>
 pp (Builtin.len_ #[28] 3 #[t4]) fun t65=>bf .lss 3 (s14.getD 0 undef) t65 fun t66=>zc t66 (xl w16.drew 28 t38 (s14.getD 0 undef) 3 fun t72=>xl w16.drew 28 t4 (s14.getD 0 undef) 3 fun t76=>bf .neq 3 t72 t76 fun t77=>zc t77 (K fa_ w16.drew) (bt .add 3 (s14.getD 0 undef) (i6 1) fun t68=>K13 [t68] w16.drew)) (pp (Builtin.len_ #[28] 3 #[t4]) fun t80=>xl w16 28 t38 t80 3 fun t82=>bt .neq 3 t82 (i6 77) fun t83=>zc t83 (K fa_ w16) (lo w16 25 t5 fun t84=>ca kA #[t84,t1,(i6 (-1))] w16 fun t86 w17=>
 pp (Op.unary .not t86) fun t87=>zc t87 (pp (Builtin.len_ #[28] 3 #[t49]) fun t89=>bt .eql 3 t89 (i6 0) fun t90=>za (fun K18=>gIf t90 true (pp (Op.unary .not t50) fun t93=>K18 [t93] w17) (K18 [undef] w17)) (fun s19 _d20 w21=>
 zb t90 (s19.getD 0 undef) fa_ fun t94=>za (fun K22=>gIf t94 true (bt .eql 29 t51 (i6 2) fun t97=>K22 [t97] w21) (K22 [undef] w21)) (fun s23 _d24 w25=>
 zb t94 (s23.getD 0 undef) fa_ fun t98=>za (fun K26=>gIf t98 true (bt .eql 3 t60 (i6 0) fun t101=>K26 [t101] w25) (K26 [undef] w25)) (fun s27 _d28 w29=>
 zb t98 (s27.getD 0 undef) fa_ fun t102=>za (fun K30=>gIf t102 true (pp (Op.unary .not t61) fun t105=>K30 [t105] w29) (K30 [undef] w29)) (fun s31 _d32 w33=>
 zb t102 (s31.getD 0 undef) fa_ fun t106=>za (fun K34=>gIf t106 true (bt .eql 29 t62 (i6 2) fun t109=>K34 [t109] w33) (K34 [undef] w33)) (fun s35 _d36 w37=>
 zb t106 (s35.getD 0 undef) fa_ fun t110=>za (fun K38=>gIf t110 true (ca yc #[] w37 fun t112 w42=>
 K38 [t112] w42) (K38 [undef] w37)) (fun s39 _d40 w41=>
 zb t110 (s39.getD 0 undef) fa_ fun t113=>K t113 w41))))))) (fl w17 t5 25 1 23 fun t115=>xl w17 23 t115 t1 38 fun t118=>pw w17 (Instr.alloc 38 true (.tuple #[])) fun t19 w43=>
 so w43 38 t19 t118 fun w44=>lo w44 38 t19 fun t120=>ca XY #[t120,t4] w44 fun t122 w45=>
 pe t122 0 fun t123=>pe t122 1 fun t124=>bf .neq 3 t60 t123 fun t127=>za (fun K46=>gIf t127 false (bf .neq 4 t61 t124 fun t131=>K46 [t131] w45) (K46 [undef] w45)) (fun s47 _d48 w49=>
 zb t127 tr_ (s47.getD 0 undef) fun t132=>za (fun K50=>gIf t132 false (bt .neq 29 t62 (i6 0) fun t135=>K50 [t135] w49) (K50 [undef] w49)) (fun s51 _d52 w53=>
 zb t132 tr_ (s51.getD 0 undef) fun t136=>zc t136 (K fa_ w53) (bt .lss 3 t2 (i6 0) fun t138=>za (fun K54=>gIf t138 false (bt .lss 3 t3 (i6 0) fun t141=>K54 [t141] w53) (K54 [undef] w53)) (fun s55 _d56 w57=>
 zb t138 tr_ (s55.getD 0 undef) fun t142=>za (fun K58=>gIf t142 false (fl w57 t19 38 6 36 fun t146=>pp (Builtin.len_ #[36] 3 #[t146]) fun t147=>bf .geq 3 t2 t147 fun t148=>K58 [t148] w57) (K58 [undef] w57)) (fun s59 _d60 w61=>
 zb t142 tr_ (s59.getD 0 undef) fun t149=>za (fun K62=>gIf t149 false (fl w61 t19 38 6 36 fun t153=>pp (Builtin.len_ #[36] 3 #[t153]) fun t154=>bf .geq 3 t3 t154 fun t155=>K62 [t155] w61) (K62 [undef] w61)) (fun s63 _d64 w65=>
 zb t149 tr_ (s63.getD 0 undef) fun t156=>zm [t156,(i6 0)] w65 (fun s67 _d68 w69 K66=>
 pp (Builtin.len_ #[28] 3 #[t4]) fun t159=>bf .lss 3 (s67.getD 1 undef) t159 fun t160=>zc t160 (za (fun K70=>gIf (s67.getD 0 undef) false (xl w69.drew 28 t4 (s67.getD 1 undef) 3 fun t168=>bt .lss 3 t168 (i6 0) fun t169=>K70 [t169] w69.drew) (K70 [undef] w69.drew)) (fun s71 _d72 w73=>
 zb (s67.getD 0 undef) tr_ (s71.getD 0 undef) fun t170=>za (fun K74=>gIf t170 false (xl w73 28 t4 (s67.getD 1 undef) 3 fun t175=>fl w73 t19 38 6 36 fun t177=>pp (Builtin.len_ #[36] 3 #[t177]) fun t178=>bf .geq 3 t175 t178 fun t179=>K74 [t179] w73) (K74 [undef] w73)) (fun s75 _d76 w77=>
 zb t170 tr_ (s75.getD 0 undef) fun t180=>bt .add 3 (s67.getD 1 undef) (i6 1) fun t162=>K66 [t180,t162] w77))) (zc (s67.getD 0 undef) (pp (Builtin.len_ #[28] 3 #[t49]) fun t183=>bt .eql 3 t183 (i6 0) fun t184=>za (fun K78=>gIf t184 true (pp (Op.unary .not t50) fun t187=>K78 [t187] w69) (K78 [undef] w69)) (fun s79 _d80 w81=>
 zb t184 (s79.getD 0 undef) fa_ fun t188=>za (fun K82=>gIf t188 true (bt .eql 29 t51 (i6 2) fun t191=>K82 [t191] w81) (K82 [undef] w81)) (fun s83 _d84 w85=>
 zb t188 (s83.getD 0 undef) fa_ fun t192=>za (fun K86=>gIf t192 true (ca yc #[] w85 fun t194 w90=>
 K86 [t194] w90) (K86 [undef] w85)) (fun s87 _d88 w89=>
 zb t192 (s87.getD 0 undef) fa_ fun t195=>K t195 w89)))) (lo w69 38 t19 fun t197=>ca Xp #[t197,t2,t3,t4] w69 fun t201 w91=>
 pe t201 0 fun t202=>pe t201 1 fun t203=>ca yY #[t49,t202] w91 fun t206 w92=>
 za (fun K93=>gIf t206 true (bf .eql 4 t50 t203 fun t210=>K93 [t210] w92) (K93 [undef] w92)) (fun s94 _d95 w96=>
 zb t206 (s94.getD 0 undef) fa_ fun t211=>za (fun K97=>gIf t211 true (bt .eql 29 t51 (i6 0) fun t214=>K97 [t214] w96) (K97 [undef] w96)) (fun s98 _d99 w100=>
 zb t211 (s98.getD 0 undef) fa_ fun t215=>za (fun K101=>gIf t215 true (ca yc #[] w100 fun t217 w105=>
 K101 [t217] w105) (K101 [undef] w100)) (fun s102 _d103 w104=>
 zb t215 (s102.getD 0 undef) fa_ fun t218=>K t218 w104))))))))))))))))))
theorem Vl {t0 t1 t2 t3 t4 : Value} {w : World} {K : VW} (h : YN t0 t1 t2 t3 t4 w K) : zd prog Yt #[t0,t1,t2,t3,t4] w K:=
 okC false (.s (.r (rz 2 0 2)) (.s (.s (.r (ra 4 0 9 (.grp 29 false (ri 3 4 0) [32] (rz 1 7 0)))) (.c (.s (.r (rz 2 0 2)) (.n)) (.n))) (.s (.r (rz 5 0 168)) (.s (.r (rz 16 0 131073)) (.s (.r (rz 14 0 8193)) (.s (.s (.r (rz 1 0 0)) (.b (.lp [18] (.s (.s (.r (rz 4 0 0)) (.c (.n) (.n))) (.s (.b (.s (.r (rz 9 0 16448)) (.c (.s (.r (rz 1 0 0)) (.n)) (.n)))) (.r (rz 3 0 0))))))) (.s (.s (.r (rz 6 0 256)) (.c (.s (.r (rz 1 0 0)) (.n)) (.n))) (.s (.s (.r (rz 4 0 33)) (.c (.s (.r (ra 4 0 0 (.grp 91 true (ri 2 4 0) [93] (ra 2 6 0 (.grp 95 true (ri 2 8 0) [97] (ra 2 10 0 (.grp 99 true (ri 2 12 0) [101] (ra 2 14 0 (.grp 103 true (ri 2 16 0) [105] (ra 2 18 0 (.grp 107 true (ri 2 20 0) [109] (ra 2 22 0 (.grp 111 true (ri 1 24 2) [112] (rz 2 25 0)))))))))))))) (.n)) (.n))) (.s (.r (rz 7 0 10500)) (.s (.r (rz 8 0 33)) (.s (.s (.r (ra 4 0 0 (.grp 128 false (ri 3 4 0) [131] (ra 2 7 0 (.grp 133 false (ri 2 9 0) [135] (rz 1 11 0)))))) (.c (.s (.r (rz 1 0 0)) (.n)) (.n))) (.s (.r (ra 3 0 0 (.grp 139 false (ri 2 3 0) [141] (ra 2 5 0 (.grp 143 false (ri 5 7 16) [148] (ra 2 12 0 (.grp 150 false (ri 5 14 16) [155] (rz 2 19 0)))))))) (.s (.s (.r (rz 1 0 0)) (.b (.lp [22,23] (.s (.s (.r (rz 4 0 0)) (.c (.n) (.n))) (.s (.b (.r (ra 2 0 0 (.grp 164 false (ri 5 2 64) [169] (ra 2 7 0 (.grp 171 false (ri 8 9 1088) [179] (rz 2 17 0))))))) (.r (rz 3 0 0))))))) (.s (.s (.r (rz 1 0 0)) (.c (.s (.r (ra 4 0 0 (.grp 185 true (ri 2 4 0) [187] (ra 2 6 0 (.grp 189 true (ri 2 8 0) [191] (ra 2 10 0 (.grp 193 true (ri 1 12 2) [194] (rz 2 13 0)))))))) (.n)) (.n))) (.s (.r (rz 10 0 513)) (.s (.r (ra 4 0 32 (.grp 207 true (ri 3 4 0) [210] (ra 2 7 0 (.grp 212 true (ri 2 9 0) [214] (ra 2 11 0 (.grp 216 true (ri 1 13 2) [217] (rz 2 14 0)))))))) (.n))))))))))))))))) func5 rfl (by kernel_rfl) (by kernel_rfl) h
def JN (t0 : Value) (w : World) (K : VW) : Prop:=
 pw w (Instr.box 25 t0) fun t1 w1=>
 fl w1 t1 25 0 22 fun t6=>pp (Builtin.len_ #[22] 3 #[t6]) fun t7=>bt .gtr 3 t7 (i6 40) fun t8=>za (fun K2=>gIf t8 false (fl w1 t1 25 1 23 fun t11=>pp (Builtin.len_ #[23] 3 #[t11]) fun t12=>bt .gtr 3 t12 (i6 8) fun t13=>K2 [t13] w1) (K2 [undef] w1)) (fun s3 _d4 w5=>
 zb t8 tr_ (s3.getD 0 undef) fun t14=>zc t14 (K fa_ w5) (zm [(i6 0)] w5 (fun s7 _d8 w9 K6=>
 fl w9 t1 25 0 22 fun t17=>pp (Builtin.len_ #[22] 3 #[t17]) fun t18=>bf .lss 3 (s7.getD 0 undef) t18 fun t19=>zc t19 (fl w9 t1 25 0 22 fun t23=>px 22 t23 (s7.getD 0 undef) fun t25=>fl w9 t25 95 1 93 fun t27=>pp (Builtin.len_ #[93] 3 #[t27]) fun t28=>bt .gtr 3 t28 (i6 20) fun t29=>zc t29 (K fa_ w9) (bt .add 3 (s7.getD 0 undef) (i6 1) fun t21=>K6 [t21] w9)) (zm [(i6 0)] w9 (fun s11 _d12 w13 K10=>
 fl w13 t1 25 1 23 fun t32=>pp (Builtin.len_ #[23] 3 #[t32]) fun t33=>bf .lss 3 (s11.getD 0 undef) t33 fun t34=>zc t34 (fl w13 t1 25 1 23 fun t38=>px 23 t38 (s11.getD 0 undef) fun t40=>fl w13 t40 38 6 36 fun t42=>pp (Builtin.len_ #[36] 3 #[t42]) fun t43=>bt .gtr 3 t43 (i6 120) fun t44=>za (fun K14=>gIf t44 false (fl w13 t1 25 1 23 fun t47=>px 23 t47 (s11.getD 0 undef) fun t49=>fl w13 t49 38 4 34 fun t51=>pp (Builtin.len_ #[34] 3 #[t51]) fun t52=>bt .gtr 3 t52 (i6 120) fun t53=>K14 [t53] w13) (K14 [undef] w13)) (fun s15 _d16 w17=>
 zb t44 tr_ (s15.getD 0 undef) fun t54=>zc t54 (K fa_ w17) (bt .add 3 (s11.getD 0 undef) (i6 1) fun t36=>K10 [t36] w17))) (K tr_ w13))))))
theorem adE {t0 : Value} {w : World} {K : VW} (h : JN t0 w K) : zd prog qw #[t0] w K:=
 okC false (.s (.r (rz 2 0 2)) (.s (.s (.r (ra 5 0 4 (.grp 9 false (ri 4 5 4) [13] (rz 1 9 0)))) (.c (.s (.r (rz 1 0 0)) (.n)) (.n))) (.s (.s (.r (rz 1 0 0)) (.b (.lp [3] (.s (.s (.r (rz 5 0 16)) (.c (.n) (.n))) (.s (.b (.s (.r (rz 8 0 1028)) (.c (.s (.r (rz 1 0 0)) (.n)) (.n)))) (.r (rz 3 0 0))))))) (.s (.s (.r (rz 1 0 0)) (.b (.lp [4] (.s (.s (.r (rz 5 0 16)) (.c (.n) (.n))) (.s (.b (.s (.r (ra 9 0 1028 (.grp 45 false (ri 8 9 1028) [53] (rz 1 17 0)))) (.c (.s (.r (rz 1 0 0)) (.n)) (.n)))) (.r (rz 3 0 0))))))) (.s (.r (rz 1 0 0)) (.n)))))) func12 rfl (by kernel_rfl) (by kernel_rfl) h
def QF (w : World) (K : VW) : Prop:=
 pw w (Instr.buildSlice 28 2 #[(0,(i6 1)),(1,(i6 2))]) fun t22 w1=>
 ca vd #[t22] w1 fun t23 w2=>
 pw w2 (Instr.alloc 25 true (.tuple #[])) fun t1 w3=>
 so w3 25 t1 t23 fun w4=>lo w4 25 t1 fun t25=>ca jx #[t25,(i6 0),(i6 2)] w4 fun t26 w5=>
 pe t26 0 fun t27=>pe t26 1 fun t28=>lo w5 25 t1 fun t30=>ca j7 #[t30,(i6 0),(i6 1)] w5 fun t31 w6=>
 pe t31 0 fun t32=>pe t31 1 fun t33=>lo w6 25 t1 fun t35=>ca Z9 #[t35,(i6 0),(i6 0),(i6 2),(Value.slice Option.none 0 0)] w6 fun t36 w7=>
 pe t36 0 fun t37=>pe t36 1 fun t38=>pe t36 2 fun t39=>lo w7 25 t1 fun t41=>ca j9 #[t41,(i6 0)] w7 fun t42 w8=>
 pe t42 0 fun t43=>pe t42 1 fun t44=>lo w8 25 t1 fun t46=>ca j8 #[t46,(i6 0),(i6 2)] w8 fun t47 w9=>
 pe t47 0 fun t48=>pe t47 1 fun t49=>lo w9 25 t1 fun t51=>ca vc #[t51,(i6 0)] w9 fun t52 w10=>
 pe t52 0 fun t53=>pe t52 1 fun t54=>lo w10 25 t1 fun t56=>pw w10 (Instr.buildSlice 28 2 #[(0,(i6 0)),(1,(i6 2))]) fun t57 w11=>
 ca YY #[t56,(i6 0),t57] w11 fun t58 w12=>
 pe t58 0 fun t59=>pe t58 1 fun t60=>pe t58 2 fun t61=>pw w12 (Instr.buildSlice 28 1 #[(0,(i6 0))]) fun t63 w13=>
 ca vd #[t63] w13 fun t64 w14=>
 ca Zh #[t64,(i6 0)] w14 fun t65 w15=>
 pe t65 0 fun t66=>pe t65 1 fun t67=>lo w15 25 t1 fun t69=>ca Zg #[t69,(i6 0),(i6 0),(i6 1)] w15 fun t70 w16=>
 pe t70 0 fun _t71=>pe t70 1 fun t72=>bt .eql 29 t28 (i6 0) fun t74=>za (fun K17=>gIf t74 true (pp (Builtin.len_ #[28] 3 #[t27]) fun t77=>bt .eql 3 t77 (i6 1) fun t78=>K17 [t78] w16) (K17 [undef] w16)) (fun s18 _d19 w20=>
 zb t74 (s18.getD 0 undef) fa_ fun t79=>za (fun K21=>gIf t79 true (xl w20 28 t27 (i6 0) 3 fun t83=>bt .eql 3 t83 (i6 1) fun t84=>K21 [t84] w20) (K21 [undef] w20)) (fun s22 _d23 w24=>
 zb t79 (s22.getD 0 undef) fa_ fun t85=>za (fun K25=>gIf t85 true (bt .eql 29 t33 (i6 0) fun t88=>K25 [t88] w24) (K25 [undef] w24)) (fun s26 _d27 w28=>
 zb t85 (s26.getD 0 undef) fa_ fun t89=>za (fun K29=>gIf t89 true (pp (Builtin.len_ #[28] 3 #[t32]) fun t92=>bt .eql 3 t92 (i6 2) fun t93=>K29 [t93] w28) (K29 [undef] w28)) (fun s30 _d31 w32=>
 zb t89 (s30.getD 0 undef) fa_ fun t94=>za (fun K33=>gIf t94 true (bt .eql 29 t39 (i6 0) fun t97=>K33 [t97] w32) (K33 [undef] w32)) (fun s34 _d35 w36=>
 zb t94 (s34.getD 0 undef) fa_ fun t98=>za (fun K37=>gIf t98 true (K37 [t38] w36) (K37 [undef] w36)) (fun s38 _d39 w40=>
 zb t98 (s38.getD 0 undef) fa_ fun t101=>za (fun K41=>gIf t101 true (pp (Builtin.len_ #[28] 3 #[t37]) fun t104=>bt .eql 3 t104 (i6 3) fun t105=>K41 [t105] w40) (K41 [undef] w40)) (fun s42 _d43 w44=>
 zb t101 (s42.getD 0 undef) fa_ fun t106=>za (fun K45=>gIf t106 true (bt .eql 29 t44 (i6 0) fun t109=>K45 [t109] w44) (K45 [undef] w44)) (fun s46 _d47 w48=>
 zb t106 (s46.getD 0 undef) fa_ fun t110=>za (fun K49=>gIf t110 true (pp (Builtin.len_ #[28] 3 #[t43]) fun t113=>bt .eql 3 t113 (i6 3) fun t114=>K49 [t114] w48) (K49 [undef] w48)) (fun s50 _d51 w52=>
 zb t110 (s50.getD 0 undef) fa_ fun t115=>za (fun K53=>gIf t115 true (bt .eql 29 t49 (i6 0) fun t118=>K53 [t118] w52) (K53 [undef] w52)) (fun s54 _d55 w56=>
 zb t115 (s54.getD 0 undef) fa_ fun t119=>za (fun K57=>gIf t119 true (pp (Builtin.len_ #[28] 3 #[t48]) fun t122=>bt .eql 3 t122 (i6 3) fun t123=>K57 [t123] w56) (K57 [undef] w56)) (fun s58 _d59 w60=>
 zb t119 (s58.getD 0 undef) fa_ fun t124=>za (fun K61=>gIf t124 true (bt .eql 29 t54 (i6 0) fun t127=>K61 [t127] w60) (K61 [undef] w60)) (fun s62 _d63 w64=>
 zb t124 (s62.getD 0 undef) fa_ fun t128=>za (fun K65=>gIf t128 true (xl w64 28 t53 (i6 0) 3 fun t132=>bt .eql 3 t132 (i6 (-1)) fun t133=>K65 [t133] w64) (K65 [undef] w64)) (fun s66 _d67 w68=>
 zb t128 (s66.getD 0 undef) fa_ fun t134=>za (fun K69=>gIf t134 true (xl w68 28 t53 (i6 2) 3 fun t138=>bt .eql 3 t138 (i6 1) fun t139=>K69 [t139] w68) (K69 [undef] w68)) (fun s70 _d71 w72=>
 zb t134 (s70.getD 0 undef) fa_ fun t140=>za (fun K73=>gIf t140 true (bt .eql 29 t61 (i6 0) fun t143=>K73 [t143] w72) (K73 [undef] w72)) (fun s74 _d75 w76=>
 zb t140 (s74.getD 0 undef) fa_ fun t144=>za (fun K77=>gIf t144 true (pp (Op.unary .not t60) fun t147=>K77 [t147] w76) (K77 [undef] w76)) (fun s78 _d79 w80=>
 zb t144 (s78.getD 0 undef) fa_ fun t148=>za (fun K81=>gIf t148 true (bt .eql 3 t59 (i6 1) fun t151=>K81 [t151] w80) (K81 [undef] w80)) (fun s82 _d83 w84=>
 zb t148 (s82.getD 0 undef) fa_ fun t152=>za (fun K85=>gIf t152 true (bt .eql 29 t67 (i6 0) fun t155=>K85 [t155] w84) (K85 [undef] w84)) (fun s86 _d87 w88=>
 zb t152 (s86.getD 0 undef) fa_ fun t156=>za (fun K89=>gIf t156 true (pp (Builtin.len_ #[46] 3 #[t66]) fun t159=>bt .eql 3 t159 (i6 1) fun t160=>K89 [t160] w88) (K89 [undef] w88)) (fun s90 _d91 w92=>
 zb t156 (s90.getD 0 undef) fa_ fun t161=>za (fun K93=>gIf t161 true (bt .eql 29 t72 (i6 2) fun t164=>K93 [t164] w92) (K93 [undef] w92)) (fun s94 _d95 w96=>
 zb t161 (s94.getD 0 undef) fa_ fun t165=>K t165 w96))))))))))))))))))))
theorem ach {w : World} {K : VW} (h : QF  w K) : zd prog yc #[] w K:=
 okC false (.s (.r (rz 1 0 0)) (.s (.r (rz 4 0 170)) (.s (.r (rz 7 0 9)) (.s (.r (rz 7 0 9)) (.s (.r (rz 9 0 9)) (.s (.r (rz 7 0 9)) (.s (.r (rz 7 0 9)) (.s (.r (rz 7 0 9)) (.s (.r (rz 10 0 41)) (.s (.r (rz 8 0 42)) (.s (.r (rz 7 0 9)) (.s (.r (ra 3 0 0 (.grp 75 true (ri 3 3 0) [78] (ra 2 6 0 (.grp 80 true (ri 4 8 16) [84] (ra 2 12 0 (.grp 86 true (ri 2 14 0) [88] (ra 2 16 0 (.grp 90 true (ri 3 18 0) [93] (ra 2 21 0 (.grp 95 true (ri 2 23 0) [97] (ra 2 25 0 (.grp 99 true (ri 1 27 0) [100] (ra 2 28 0 (.grp 102 true (ri 3 30 0) [105] (ra 2 33 0 (.grp 107 true (ri 2 35 0) [109] (ra 2 37 0 (.grp 111 true (ri 3 39 0) [114] (ra 2 42 0 (.grp 116 true (ri 2 44 0) [118] (ra 2 46 0 (.grp 120 true (ri 3 48 0) [123] (ra 2 51 0 (.grp 125 true (ri 2 53 0) [127] (ra 2 55 0 (.grp 129 true (ri 4 57 16) [133] (ra 2 61 0 (.grp 135 true (ri 4 63 16) [139] (ra 2 67 0 (.grp 141 true (ri 2 69 0) [143] (ra 2 71 0 (.grp 145 true (ri 2 73 0) [147] (ra 2 75 0 (.grp 149 true (ri 2 77 0) [151] (ra 2 79 0 (.grp 153 true (ri 2 81 0) [155] (ra 2 83 0 (.grp 157 true (ri 3 85 0) [160] (ra 2 88 0 (.grp 162 true (ri 2 90 0) [164] (rz 2 92 0)))))))))))))))))))))))))))))))))))))))))) (.n))))))))))))) func13 rfl (by kernel_rfl) (by kernel_rfl) h
def JO (t0 t1 : Value) (w : World) (K : VW) : Prop:=
 pp (Builtin.len_ #[28] 3 #[t0]) fun t7=>pp (Builtin.len_ #[28] 3 #[t1]) fun t9=>bf .neq 3 t7 t9 fun t10=>zc t10 (K fa_ w) (zm [(i6 0)] w (fun s2 _d3 w4 K1=>
 pp (Builtin.len_ #[28] 3 #[t0]) fun t13=>bf .lss 3 (s2.getD 0 undef) t13 fun t14=>zc t14 (xl w4.drew 28 t0 (s2.getD 0 undef) 3 fun t20=>xl w4.drew 28 t1 (s2.getD 0 undef) 3 fun t24=>bf .neq 3 t20 t24 fun t25=>zc t25 (K fa_ w4.drew) (bt .add 3 (s2.getD 0 undef) (i6 1) fun t16=>K1 [t16] w4.drew)) (K tr_ w4)))
theorem adF {t0 t1 : Value} {w : World} {K : VW} (h : JO t0 t1 w K) : zd prog yY #[t0,t1] w K:=
 okC false (.s (.r (rz 1 0 0)) (.s (.s (.r (rz 5 0 0)) (.c (.s (.r (rz 1 0 0)) (.n)) (.n))) (.s (.s (.r (rz 1 0 0)) (.b (.lp [5] (.s (.s (.r (rz 4 0 0)) (.c (.n) (.n))) (.s (.b (.s (.r (rz 9 0 16448)) (.c (.s (.r (rz 1 0 0)) (.n)) (.n)))) (.r (rz 3 0 0))))))) (.s (.r (rz 1 0 0)) (.n))))) func18 rfl (by kernel_rfl) (by kernel_rfl) h
def JP (t0 : Value) (w : World) (K : VW) : Prop:=
 pw w (Instr.alloc 25 true (.tuple #[])) fun t2 w1=>
 pp (Instr.build 138 #[(0,(Value.int .u8 1))]) fun t5=>pw w1 (Instr.buildSlice 34 1 #[(0,t5)]) fun t6 w2=>
 pw w2 (Instr.buildSlice 35 1 #[(0,(Value.string { data:=#[] }))]) fun t7 w3=>
 pp (Instr.build 38 #[(4,t6),(5,t7)]) fun t8=>pw w3 (Instr.alloc 38 true (.tuple #[])) fun t3 w4=>
 so w4 38 t3 t8 fun w5=>zm [(i6 0)] w5 (fun s7 _d8 w9 K6=>
 pp (Builtin.len_ #[28] 3 #[t0]) fun t11=>bf .lss 3 (s7.getD 0 undef) t11 fun t12=>zc t12 (fl w9.drew t3 38 6 36 fun t16=>xl w9.drew 28 t0 (s7.getD 0 undef) 3 fun t20=>pp (Instr.build 87 #[(0,(Value.int .u8 13)),(10,t20)]) fun t21=>pw w9.drew (Instr.buildSlice 36 1 #[(0,t21)]) fun t22 w10=>
 Ext w9.drew w10∧
 pw w10 (Builtin.append_ #[36,36] 36 #[t16,t22]) fun t23 w11=>
 pf 38 t3 6 fun t24=>so w11 36 t24 t23 fun w12=>bt .add 3 (s7.getD 0 undef) (i6 1) fun t14=>K6 [t14] w12) (fl w9 t3 38 6 36 fun t26=>pp (Instr.build 87 #[(0,(Value.int .u8 14))]) fun t27=>pw w9 (Instr.buildSlice 36 1 #[(0,t27)]) fun t28 w13=>
 pw w13 (Builtin.append_ #[36,36] 36 #[t26,t28]) fun t29 w14=>
 pf 38 t3 6 fun t30=>so w14 36 t30 t29 fun w15=>lo w15 38 t3 fun t31=>pw w15 (Instr.buildSlice 23 1 #[(0,t31)]) fun t32 w16=>
 pp (Instr.build 25 #[(1,t32)]) fun t33=>so w16 25 t2 t33 fun w17=>pq w17 (zD 25 t2) fun r18=>K r18 w17))
theorem adG {t0 : Value} {w : World} {K : VW} (h : JP t0 w K) : zd prog vd #[t0] w K:=
 okC false (.s (.r (rz 1 0 2)) (.s (.r (rz 6 0 2600)) (.s (.s (.r (rz 1 0 0)) (.b (.lp [4] (.s (.s (.r (rz 4 0 0)) (.c (.n) (.n))) (.s (.b (.r (rz 11 0 2278404))) (.r (rz 3 0 0))))))) (.s (.r (rz 7 0 8836)) (.s (.r (rz 4 0 137)) (.n)))))) func54 rfl (by kernel_rfl) (by kernel_rfl) h
end Go.Proofs.Tryz
end
section
namespace Go.Proofs
open Go.Sh Go.RowKit
set_option maxRecDepth 100000
set_option linter.unusedSimpArgs false
set_option linter.unusedVariables false
theorem aju {a b : List Int} {i : Nat} (ha : i<a.length) (hb : i<b.length) (h : a.take i=b.take i) (e : a[i]=b[i]) : a.take (i+1)=b.take (i+1):=by
 rw [List.take_succ_eq_append_getElem ha,List.take_succ_eq_append_getElem hb,h,e]
theorem xI {a b : List Int} {v v' : Value} {w : World} {r : Gh} {K : Value→World→Prop} (hr : Holds r w) (ha : SlG 1 r zu v a) (hb : SlG 1 r zu v' b) (hf : a.length≤1000000)
  (h : ∀ w',Ext w w'→K (.bool (decide (a=b))) w') : zd Tryz.prog Tryz.yY #[v,v'] w K:=by
 refine Tryz.adF ?_
 unfold Tryz.JO
 obtain ⟨p,cap,rfl,_,_⟩:=ha.shape
 obtain ⟨p',cap',rfl,_,_⟩:=hb.shape
 refine gg_ ?_
 refine zj (fun hne=>?_) (fun heq=>?_)
 ·rw [decide_eq_false fun k=>by subst k;exact hne rfl] at h
  exact h _ (.refl _)
 have hll : a.length=b.length:=by omega
 refine zh (ι:=Nat) (fun i=>[.int .i64 (i : Nat)]) (fun i w'=>Ext w w'∧i≤a.length∧a.take i=b.take i) (fun i=>a.length - i) 0 rfl ⟨.refl _,Nat.zero_le _,by simp⟩ ?_
 rintro i d w1 ⟨e1,hi,hn⟩ K1 hK1
 simp only [List.getD_cons_zero]
 refine gg_ ?_
 refine zj (fun hlt=>?_) (fun hge=>?_)
 ·have hlt : i<a.length:=by omega
  obtain ⟨ba,oa,hpa,_,hca⟩:=zE ha hlt
  cases hpa
  obtain ⟨bb,ob,hpb,_,hcb⟩:=zE hb (i:=i) (by omega)
  cases hpb
  have e2 : Ext w w1.drew:=e1.trans (Ext.drew _)
  have hr2:=hr.ext e2
  refine gg_ ?_
  refine zi (by rw [Int.toNat_natCast];exact hca _ hr2) ?_
  refine gg_ ?_
  refine zi (by rw [Int.toNat_natCast];exact hcb _ hr2) ?_
  refine gg_ ?_
  refine zj (fun he=>?_) (fun he=>?_)
  ·rw [decide_eq_false fun k=>by subst k;exact he rfl] at h
   exact h _ e2
  ·refine gg_ ?_
   refine hK1 (i+1) _ ⟨e2,hlt,aju hlt (by omega) hn (by omega)⟩ (by omega)
 ·have hie : i=a.length:=by omega
  subst hie
  rw [List.take_length,hll,List.take_length] at hn
  rw [decide_eq_true hn] at h
  exact h _ e1
end Go.Proofs
end
section
namespace Go.Proofs
open Go.Sh
set_option maxRecDepth 100000
set_option linter.unusedSimpArgs false
set_option linter.unusedVariables false
theorem YO {u : UnD} {v : Value} {w : World} {r : Gh} {K : Value→World→Prop} (hr : Holds r w) (hu : UnG r v u) (h : ∀ (b : Bool) w',Ext w w'→K (.bool b) w') : zd Tryz.prog Tryz.qw #[v] w K:=by
 refine Tryz.adE ?_
 unfold Tryz.JN
 obtain ⟨p0,cap0,vf,rfl,_,_,hst,hsl,hfn⟩:=hu
 obtain ⟨qf,capf,rfl,_,_⟩:=hfn.sl.shape
 have hfl : u.fs.length≤9223372036854775807:=hfn.few
 have hsl' : u.ss.length≤9223372036854775807:=hsl
 have S:=St.start hr
 refine S.box fun b1 w1 S=>?_
 have S : StX noX w r w1 [.cell b1 [.slice p0 u.ss.length cap0,.slice qf u.fs.length capf,.int .i64 u.mn] 25]:=S
 refine gg_ ?_
 refine zk (c:=decide (8<(u.fs.length : Int))) (fun _ K2 hK2=>by refine gg_ ?_;exact hK2) ?_
 refine c_b (fun _=>h _ _ S.ext) (fun _=>?_)
 refine zh (ι:=Nat) (fun i=>[.int .i64 (i : Nat)]) (fun i w'=>i≤u.ss.length∧StX noX w r w' _) (fun i=>u.ss.length - i) 0 rfl ⟨Nat.zero_le _,S⟩ ?_
 clear S
 rintro i d w2 ⟨hi,S⟩ K6 hK6
 rw [List.getD_cons_zero]
 refine gg_ ?_
 refine zj (fun hlt=>?_) (fun hge=>?_)
 ·have hlt : i<u.ss.length:=by omega
  obtain ⟨b,off,q,capq,rfl,hcell,_,_,_⟩:=xL hst hlt
  refine gg_ ?_
  refine zi (by rw [Int.toNat_natCast];exact S.at hcell) ?_
  refine gg_ ?_
  refine c_b (fun _=>h _ _ S.ext) (fun _=>?_)
  refine gg_ ?_
  exact hK6 (i+1) _ ⟨hlt,S⟩ (by omega)
 refine zh (ι:=Nat) (fun i=>[.int .i64 (i : Nat)]) (fun i w'=>i≤u.fs.length∧StX noX w r w' _) (fun i=>u.fs.length - i) 0 rfl ⟨Nat.zero_le _,S⟩ ?_
 clear S hK6 K6 hge hi
 rintro i d w3 ⟨hi,S⟩ K7 hK7
 simp only [List.getD_cons_zero]
 refine gg_ ?_
 refine zj (fun hlt=>?_) (fun hge=>h _ _ S.ext)
 have hlt : i<u.fs.length:=by omega
 obtain ⟨bf,of,cf,rfl,hcf,hgc,hfo⟩:=hfn.sl.get (by decide) hlt
 generalize u.fs[i]=g at hgc
 obtain ⟨vo,vt,vn,vp,rfl,h1,h2,h3,h4⟩:=id hgc
 obtain ⟨qt,capt,rfl,_,hct⟩:=h2.sl.shape
 obtain ⟨qp,capp,rfl,_,_⟩:=h4.sl.shape
 have l4 : Ob r fun w=>w.cell? ⟨bf,of+i*7+4,none⟩=some (.slice qt g.tys.length capt):=hfo 4 _ rfl
 have l6 : Ob r fun w=>w.cell? ⟨bf,of+i*7+6,none⟩=some (.slice qp g.pts.length capp):=hfo 6 _ rfl
 refine gg_ ?_
 refine zi (by rw [Int.toNat_natCast];exact S.at l6) ?_
 refine gg_ ?_
 refine zk (c:=decide (120<(g.tys.length : Int))) (fun _ K2 hK2=>?_) ?_
 ·refine gg_ ?_
  refine zi (by rw [Int.toNat_natCast];exact S.at l4) ?_
  refine gg_ ?_
  exact hK2
 refine c_b (fun _=>h _ _ S.ext) (fun _=>?_)
 refine gg_ ?_
 exact hK7 (i+1) _ ⟨hlt,S⟩ (by omega)
end Go.Proofs
end
section
namespace Go.Proofs
open Go.Sh
set_option maxRecDepth 100000
set_option linter.unusedSimpArgs false
set_option linter.unusedVariables false
def yZ (x : Int) : PtD:=⟨13,Je,adN,adN,[],ByteArray.empty,Je,false,0,0,x,0,0⟩
def xO (l : List Int) : GrD:=⟨ByteArray.empty,0,[],0,[V5],[ByteArray.empty],l.map yZ ++ [exB]⟩
def yU (l : List Int) : UnD:=⟨[],[xO l],0⟩
theorem ahE : netG (xO [1,2])=n3:=by decide
theorem ahF : netG (xO [0])=n1:=by decide
theorem agH : yM (yU [1,2]) 0 (xO [1,2])=true:=by
 have h1 : qC (yU [1,2]) (xO [1,2]) 0 (xO [1,2]).tys=true:=by
  show ((zY [] V5&&_)&&true)=true
  rw [hmay]
  kernel_rfl
 unfold yM
 rw [h1]
 show (_ : Bool)=true
 kernel_rfl
theorem agI : yM (yU [0]) 0 (xO [0])=true:=by
 have h1 : qC (yU [0]) (xO [0]) 0 (xO [0]).tys=true:=by
  show ((zY [] V5&&_)&&true)=true
  rw [hmay]
  kernel_rfl
 unfold yM
 rw [h1]
 show (_ : Bool)=true
 kernel_rfl
theorem ahG (l : List Int) : yv (yU l) (xO l) exB=true:=by
 have e : zH exB {} = true:=by
  rw [zH,Xf,show exB.sign=ByteArray.empty from rfl,X8];kernel_rfl
 have : yv (yU l) (xO l) exB=zH exB {}:=by kernel_rfl
 rw [this,e]
theorem af1 {x : Int} (h : x=1∨x=2) : yv (yU [1,2]) (xO [1,2]) (yZ x)=true:=by
 have e : zH (yZ x) {} = true:=by
  rw [zH,Xf,show (yZ x).sign=ByteArray.empty from rfl,X8];kernel_rfl
 rcases h with rfl|rfl
 ·have : yv (yU [1,2]) (xO [1,2]) (yZ 1)=(zH (yZ 1) {} && true):=by kernel_rfl
  rw [this,e];rfl
 ·have : yv (yU [1,2]) (xO [1,2]) (yZ 2)=(zH (yZ 2) {} && true):=by kernel_rfl
  rw [this,e];rfl
theorem ajv : yv (yU [0]) (xO [0]) (yZ 0)=true:=by
 have e : zH (yZ 0) {} = true:=by
  rw [zH,Xf,show (yZ 0).sign=ByteArray.empty from rfl,X8];kernel_rfl
 have : yv (yU [0]) (xO [0]) (yZ 0)=(zH (yZ 0) {} && true):=by kernel_rfl
 rw [this,e];rfl
theorem ahH : MayU (yU [1,2]):=by
 refine ⟨by show (zw []).2=0;rw [hst],by decide,by decide,by decide,by decide,fun i hi=>?_,fun g hg=>?_⟩
 ·have : i=0:=by have : (yU [1,2]).fs.length=1:=rfl;omega
  subst this
  exact agH
 ·rw [List.mem_singleton.1 hg]
  intro p hp
  have hp : p ∈ [yZ 1,yZ 2,exB]:=hp
  simp only [List.mem_cons,List.not_mem_nil,or_false] at hp
  rcases hp with rfl|rfl|rfl
  ·exact af1 (.inl rfl)
  ·exact af1 (.inr rfl)
  ·exact ahG _
theorem ahI : MayU (yU [0]):=by
 refine ⟨by show (zw []).2=0;rw [hst],by decide,by decide,by decide,by decide,fun i hi=>?_,fun g hg=>?_⟩
 ·have : i=0:=by have : (yU [0]).fs.length=1:=rfl;omega
  subst this
  exact agI
 ·rw [List.mem_singleton.1 hg]
  intro p hp
  have hp : p ∈ [yZ 0,exB]:=hp
  simp only [List.mem_cons,List.not_mem_nil,or_false] at hp
  rcases hp with rfl|rfl
  ·exact ajv
  ·exact ahG _
theorem qH : fnE (yU [1,2]) 0=0:=by
 rw [fnE,X7.2 ahH];rfl
theorem ae3 : fnE (yU [0]) 0=0:=by
 rw [fnE,X7.2 ahI];rfl
end Go.Proofs
end
section
namespace Go.Proofs
open Go.Sh
set_option maxRecDepth 100000
set_option linter.unusedSimpArgs false
set_option linter.unusedVariables false
abbrev Qh (x : Int) : List Value:=[.int .u8 13,.int .i64 0,.slice none 0 0,.int .u8 0,.int .i64 0,.int .i64 0,.slice none 0 0,.int .u8 0,.int .i64 0,.int .i64 0,.slice none 0 0,.slice none 0 0,.string ByteArray.empty,.int .i64 0,.slice none 0 0,.bool false,.int .i64 0,.int .i64 0,.int .i64 x,.int .i64 0,.int .i64 0]
def kO (l : List Int) : List Value:=l.flatMap fun x=>Qh x
theorem afz {l : List Int} {x : Int} : kO (l ++ [x])=kO l++Qh x:=by rw [kO,List.flatMap_append];simp [kO]
theorem akd {r : Gh} {x : Int} : PtG r (Qh x) (yZ x):=⟨_,_,_,_,_,rfl,kt,kt,kt,kt,kt⟩
theorem akD {r : Gh} : PtG r hl3 exB:=⟨_,_,_,_,_,rfl,kt,kt,kt,kt,kt⟩
theorem ae4 {r : Gh} : ∀ {l : List Int},RowOf 21 (PtG r) (kO l++hl3) (l.map yZ ++ [exB])
 |[]=>zZ rfl akD
 |x::l=>by
  have:=kF (c:=Qh x) rfl akd (ae4 (r:=r) (l:=l))
  rw [kO,List.flatMap_cons,List.append_assoc]
  exact this
abbrev Yf (bt bn : Nat) (v : Value) : List Value:=[.string ByteArray.empty,.int .i64 0,.slice none 0 0,.int .i64 0,.slice (some ⟨bt,0,none⟩) 1 1,.slice (some ⟨bn,0,none⟩) 1 1,v]
set_option maxHeartbeats 1000000 in
theorem JQ {l : List Int} {v : Value} {w : World} {r : Gh} {K : Value→World→Prop} (hr : Holds r w) (hl : SlG 1 r zu v l) (hf : l.length≤100)
  (h : ∀ v' s w',Ext w w'→New w s w'→UnG s v' (yU l)→K v' w') : zd Tryz.prog Tryz.vd #[v] w K:=by
 refine Tryz.adG ?_
 unfold Tryz.JP
 obtain ⟨p,cap,rfl,_,_⟩:=hl.shape
 have S:=St.start hr
 refine S.al fun b2 w1 S=>?_
 refine zC (cs:=YE.toArray) (by kernel_rfl) ?_
 refine S.lit (e:=138) (cs:=YE) (by kernel_rfl) fun bt w2 S=>?_
 refine S.lit (e:=9) (cs:=[.string ByteArray.empty]) (by kernel_rfl) fun bn w3 S=>?_
 refine zC (cs:=(Yf bt bn (.slice none 0 0)).toArray) (by kernel_rfl) ?_
 refine S.al fun b3 w4 S=>?_
 refine S.stB (b:=b3) fun w5 S=>?_
 have S:=S.ownNil 87 21
 have S : StX noX w r w5 [.row (.slice none 0 0) 87 21 0 (kO []),.cell b3 (Yf bt bn (.slice none 0 0)) 38,.cell bn [.string ByteArray.empty] 9,.cell bt YE 138,.cell b2 [.slice none 0 0,.slice none 0 0,.int .i64 0] 25]:=S
 refine zh (ι:=Value × Nat) (fun i=>[.int .i64 (i.2 : Nat)]) (fun i w'=>i.2≤l.length∧StX noX w r w' [.row i.1 87 21 i.2 (kO (l.take i.2)),.cell b3 (Yf bt bn i.1) 38,.cell bn [.string ByteArray.empty] 9,.cell bt YE 138,.cell b2 [.slice none 0 0,.slice none 0 0,.int .i64 0] 25]) (fun i=>l.length - i.2) (.slice none 0 0,0) rfl ⟨Nat.zero_le _,S⟩ ?_
 repeat clear S
 rintro ⟨vp,i⟩ d w6 ⟨hi,S⟩ K6 hK6
 simp only at hi S ⊢
 rw [List.getD_cons_zero]
 refine gg_ ?_
 refine zj (fun hlt=>?_) (fun hge=>?_)
 ·have hlt : i<l.length:=by omega
  have S:=S.go (Ext.drew _)
  obtain ⟨b,off,hp,_,hc⟩:=zE hl hlt
  cases hp
  refine gg_ ?_
  refine zi (by rw [Int.toNat_natCast];exact S.at hc) ?_
  refine zC (cs:=(Qh l[i]).toArray) (by kernel_rfl) ?_
  refine S.litU (e:=87) (cs:=Qh l[i]) (by kernel_rfl) fun b7 w7 S=>?_
  refine S.ap (v:=vp) (m':=1) (Sl.blk (S.blk b7)) (fun v8 w8 S=>?_) (by omega)
  have S:=S.drop b7
  refine gg_ ?_
  refine S.st (b:=b3) (fun w9 S=>?_) (by simp) (S.row1 v8)
  refine gg_ ?_
  refine hK6 (v8,i+1) _ ⟨hlt,?_⟩ (by show l.length - (i+1)<l.length - i;omega)
  have e : kO (l.take (i+1))=kO (l.take i)++Qh l[i]:=by rw [List.take_succ_eq_append_getElem hlt,afz]
  show StX noX w r w9 [.row v8 87 21 (i+1) (kO (l.take (i+1))),_,_,_,_]
  rw [e]
  exact S
 have hie : i=l.length:=by omega
 clear hK6
 subst hie
 rw [List.take_length] at S
 refine gg_ ?_
 refine S.lit (e:=87) (cs:=hl3) (by kernel_rfl) fun b7 w7 S=>?_
 refine S.ap (v:=vp) (m':=1) (Sl.blk (S.blk b7)) (fun v8 w8 S=>?_) (by omega)
 have S:=S.drop b7
 refine gg_ ?_
 refine S.st (b:=b3) (fun w9 S=>?_) (by simp) (S.row1 v8)
 refine S.ldB (b:=b3) ?_ rfl
 have S : StX noX w r w9 [.row v8 87 21 (l.length+1) (kO l++hl3),.cell b3 (Yf bt bn v8) 38,.cell bn [.string ByteArray.empty] 9,.cell bt YE 138,.cell b2 [.slice none 0 0,.slice none 0 0,.int .i64 0] 25]:=S
 have S:=S.drop b3
 refine S.lit (e:=38) (cs:=Yf bt bn v8) (by kernel_rfl) fun bg w10 S=>?_
 refine zC (cs:=#[.slice none 0 0,.slice (some ⟨bg,0,none⟩) 1 1,.int .i64 0]) (by kernel_rfl) ?_
 refine S.stB (b:=b2) fun w11 S=>?_
 refine S.ceB (b:=b2) ?_ rfl
 have S:=S.drop b2
 have S:=S.swap
 obtain ⟨sp,S,hsp,_,ap⟩:=S.doneRow (ae4 (r:=nothing) (l:=l)) (by decide) (by simp)
 have ap : Above w sp:=fun b o ho=>(ap b o ho).resolve_right id
 obtain ⟨S,ht,at'⟩:=S.litNew bt (sz:=5) (R:=TyC nothing) (l:=[V5]) (zZ (c:=YE) rfl (show TyC nothing YE V5 from aaW)) (by decide)
 obtain ⟨S,hn,an⟩:=S.litNew bn (sz:=1) (R:=ah9) (l:=[ByteArray.empty]) (zZ rfl rfl) (by decide)
 obtain ⟨qp,cp,rfl,_,_⟩:=hsp.shape
 have hz : ∀ {r : Gh} {α : Type} {sz : Nat} {R : List Value→α→Prop},SlB sz r R (.slice none 0 0) ([] : List α):=kt
 have hfew : (l.map yZ ++ [exB]).length≤1000000:=by rw [List.length_append,List.length_map,List.length_singleton];omega
 obtain ⟨S,hg,ag⟩:=S.litNew bg (sz:=7) (R:=GrG ((sp.or (Go.Sh.one bt YE 138)).or (Go.Sh.one bn [.string ByteArray.empty] 9))) (l:=[xO l])
  (zZ rfl ⟨_,_,_,_,rfl,hz,J3 (hl:=Nat.le_of_ble_eq_true rfl) (ht.up' inferInstance fun c x hx=>TyG.up hx),J3 (hl:=Nat.le_of_ble_eq_true rfl) hn.cells,J3 (hl:=hfew) (hsp.up' inferInstance fun c x hx=>PtG.up hx)⟩) (by decide)
 have S : StX noX w ((((r.or sp).or (Go.Sh.one bt YE 138)).or (Go.Sh.one bn [.string ByteArray.empty] 9)).or (Go.Sh.one bg (Yf bt bn (.slice qp (l.map yZ ++ [exB]).length cp)) 38)) w11 []:=S
 have hg : SlG 7 (Go.Sh.one bg (Yf bt bn (.slice qp (l.map yZ ++ [exB]).length cp)) 38) (GrG ((sp.or (Go.Sh.one bt YE 138)).or (Go.Sh.one bn [.string ByteArray.empty] 9))) (.slice (some ⟨bg,0,none⟩) 1 1) [xO l]:=hg
 have ag : Above w (Go.Sh.one bg (Yf bt bn (.slice qp (l.map yZ ++ [exB]).length cp)) 38):=ag
 exact h _ (((sp.or (Go.Sh.one bt YE 138)).or (Go.Sh.one bn [.string ByteArray.empty] 9)).or (Go.Sh.one bg (Yf bt bn (.slice qp (l.map yZ ++ [exB]).length cp)) 38)) _ S.ext (S.newOf (((ap.or' at').or' an).or' ag)) ⟨none,0,_,rfl,fun _=>rfl,Nat.zero_le _,trivial,Nat.zero_le _,J3 (hl:=Nat.le_of_ble_eq_true rfl) (hg.up' inferInstance fun c x hx=>GrG.up hx)⟩
end Go.Proofs
end
section
namespace Go.Sh
open Go.RowKit Go.MapKept
set_option linter.unusedVariables false
def mpI (P : Program) (t : TypeId) : Option (TypeId × TypeId):=match P.underlying t with
 |some (.map k e)=>(match P.underlying k with|some (.int .i64)=>some (k,e)|_=>none)
 |_=>none
theorem ae5 {P : Program} {t k e : TypeId} (h : mpI P t=some (k,e)) : P.underlying t=some (.map k e)∧P.underlying k=some (.int .i64):=by
 unfold mpI at h
 split at h
 ·rename_i k' e' h1
  split at h
  ·rename_i h2
   cases h;exact ⟨h1,h2⟩
  ·cases h
 ·cases h
def ake (m : MapEntry) (x : Int × Value) : Prop:=m.key = .int .i64 x.1∧m.val=x.2
inductive EntsI : List MapEntry→List (Int × Value)→Prop
 |nil : EntsI [] []
 |cons {m : MapEntry} {x : Int × Value} {l : List MapEntry} {M : List (Int × Value)} : ake m x→EntsI l M→EntsI (m::l) (x::M)
theorem EntsI.snoc {l : List MapEntry} {M : List (Int × Value)} {m : MapEntry} {x : Int × Value} (h : EntsI l M) (hm : ake m x) : EntsI (l ++ [m]) (M ++ [x]):=by
 induction h with
 |nil=>exact .cons hm .nil
 |cons h _ ih=>exact .cons h ih
def jg (M : List (Int × Value)) (o : Obj) : Prop:=∃ es c,o = .map es c∧EntsI es.toList M
theorem acZ {x : Int} {kd : IntKind} {l : List MapEntry} {M : List (Int × Value)} (h : EntsI l M) : ∀ {i : Nat},∃ o,Instr.findNow (.int kd) (.int .i64 x) l i=some o∧o.map (·.2)=M.lookup x:=by
 induction h with
 |nil=>intro i;exact ⟨none,rfl,rfl⟩
 |@cons m y l M hm h ih=>
  intro i
  obtain ⟨hk,hv⟩:=hm
  obtain ⟨y1,y2⟩:=y
  by_cases hx : x=y1
  ·subst hx
   refine ⟨some (i,m.val),?_,?_⟩
   ·rw [Instr.findNow,hk];simp [Instr.sameNow]
   ·rw [List.lookup_cons,show (x == x)=true by simp,hv];rfl
  ·obtain ⟨o,h1,h2⟩:=ih (i:=i+1)
   have hb : (x == y1)=false:=by simpa using hx
   refine ⟨o,?_,?_⟩
   ·rw [Instr.findNow,hk];simp [Instr.sameNow,hb,h1]
   ·rw [List.lookup_cons,hb,h2]
class ae6 (b : Nat) (L : List Asr) (Q : outParam (Obj→Prop)) (f : outParam (Asr→List Asr)) : Prop where
 h : ∃ p q,L=p ++ .obj b Q::q∧∀ y,f y=p++y::q
instance {b : Nat} {Q : Obj→Prop} {L : List Asr} : ae6 b (.obj b Q::L) Q fun y=>y::L:=⟨[],L,rfl,fun _=>rfl⟩
instance (priority:=low) {b : Nat} {Q : Obj→Prop} {x : Asr} {L : List Asr} {f : Asr→List Asr} [h : ae6 b L Q f] : ae6 b (x::L) Q fun y=>x::f y:=⟨by
 obtain ⟨p,q,h1,h2⟩:=h.h
 exact ⟨x::p,q,by rw [h1];rfl,fun c'=>by rw [h2];rfl⟩⟩
section
variable {P : Program} {X : Nat→Prop} {w0 w : World} {r : Gh} {L : List Asr} {t k e : TypeId} {b : Nat} {M : List (Int × Value)} {f : Asr→List Asr}
theorem StX.mkMapI (S : StX X w0 r w L) {K : Value→World→Prop} (h : ∀ b w',StX X w0 r w' (.obj b (jg [])::L)→K (.map (some b)) w') : opW P w (Instr.makeMap t none) K:=
 S.mkMap fun b w' S'=>h b w' ⟨S'.x,S'.holds,fun x hx=>by
  rcases List.mem_cons.1 hx with rfl|hx
  ·obtain ⟨o,h1,h2,rfl⟩:=S'.has _ List.mem_cons_self
   exact ⟨_,h1,h2,_,_,rfl,.nil⟩
  ·exact S'.has x (List.mem_cons_of_mem _ hx),fun x hx=>by
  rcases List.mem_cons.1 hx with rfl|hx
  ·exact S'.mine (.obj b (· = .map #[] 0)) List.mem_cons_self
  ·exact S'.mine x (List.mem_cons_of_mem _ hx),by
  have:=S'.apart
  rw [List.pairwise_cons] at this ⊢
  exact this⟩
theorem StX.mapAddI (S : StX X w0 r w L) {x : Int} {v : Value} [h0 : ae6 b L (jg M) f] (ht : mpI P t=some (k,e)) (hn : M.lookup x=none) {K : World→Prop}
  (h : ∀ w',StX X w0 r w' (f (.obj b (jg (M ++ [(x,v)]))))→K w') : opU P w (Instr.mapUpdate t (.map (some b)) (.int .i64 x) v) K:=by
 obtain ⟨ht,hk⟩:=ae5 ht
 obtain ⟨p,q,e1,e2⟩:=h0.h
 obtain ⟨o,hb,_,es,c,rfl,hE⟩:=S.has (.obj b (jg M)) (by rw [e1];simp)
 obtain ⟨o,h1,h2⟩:=acZ (x:=x) (kd:=.i64) hE (i:=0)
 have h3 : o=none:=by
  rw [hn] at h2
  cases o with
  |none=>rfl
  |some y=>cases h2
 subst h3
 have hf:=run_findKey (w:=w) hk h1
 refine ⟨{ w with heap:=w.heap.setIfInBounds b (.map (es.push { key:=.int .i64 x,val:=v,born:=c }) (c+1)) },?_,h _ ?_⟩
 ·simp [Instr.mapUpdate,run_underlying ht,MapKept.run_getObj_map hb,run_checkKey (w:=w) hk (k:=.int .i64 x) rfl false 9999,hf,MapKept.run_setObj_map _ hb,Result.andThen]
 ·obtain ⟨a1,a2⟩:=heap_set hb (o':=.map (es.push { key:=.int .i64 x,val:=v,born:=c }) (c+1))
  rw [e2]
  rw [e1] at S
  exact S.turn (x:=.obj b (jg M)) (y:=.obj b (jg (M ++ [(x,v)]))) ⟨rfl,rfl,rfl,by simp,fun k _ hk=>a2 k hk⟩ ⟨_,a1,rfl,_,_,rfl,by rw [Array.toList_push];exact hE.snoc ⟨rfl,rfl⟩⟩ fun k hk=>.inl hk
theorem StX.mapGetI (S : StX X w0 r w L) {x : Int} {z : Value} [h0 : ae6 b L (jg M) f] (ht : mpI P t=some (k,e)) (hz : zr1 P e=some z) {K : Value→Prop} (h : K ((M.lookup x).getD z)) :
  opQ P w (Instr.lookup t (.map (some b)) (.int .i64 x) false) K:=by
 obtain ⟨ht,hk⟩:=ae5 ht
 obtain ⟨p,q,e1,e2⟩:=h0.h
 obtain ⟨o,hb,_,es,c,rfl,hE⟩:=S.has (.obj b (jg M)) (by rw [e1];simp)
 obtain ⟨o,h1,h2⟩:=acZ (x:=x) (kd:=.i64) hE (i:=0)
 refine ⟨_,fun w' ex=>?_,h⟩
 have hb' : w'.heap[b]? = some (.map es c):=(ex.block b (Array.getElem?_eq_some_iff.1 hb).1).trans hb
 have hf:=run_findKey (w:=w') hk h1
 rw [← h2]
 cases o with
 |none=>simp [Instr.lookup,run_underlying ht,MapKept.run_getObj_map hb',run_checkKey (w:=w') hk (k:=.int .i64 x) rfl _ 9999,hf,acK hz,Result.andThen]
 |some y=>simp [Instr.lookup,run_underlying ht,MapKept.run_getObj_map hb',run_checkKey (w:=w') hk (k:=.int .i64 x) rfl _ 9999,hf,Result.andThen]
end
end Go.Sh
end
section
namespace Go.Proofs
open Go.Sh Go.RowKit
set_option maxRecDepth 100000
set_option linter.unusedSimpArgs false
set_option linter.unusedVariables false
inductive WmG (s : Gh) : List (Int × Value)→zU→Prop
 |nil : WmG s [] []
 |cons {p : Int} {v : Value} {w : List Int} {E : List (Int × Value)} {M : zU} : SlG 1 s zu v w→w≠[]→WmG s E M→WmG s ((p,v)::E) ((p,w)::M)
theorem WmG.up {s t : Gh} {E : List (Int × Value)} {M : zU} (h : WmG s E M) [l : Le s t] : WmG t E M:=by
 induction h with
 |nil=>exact .nil
 |cons h1 h2 _ ih=>exact .cons h1.cells h2 ih
theorem WmG.snoc {s : Gh} {E : List (Int × Value)} {M : zU} {p : Int} {v : Value} {w : List Int} (h : WmG s E M) (h1 : SlG 1 s zu v w) (h2 : w≠[]) : WmG s (E ++ [(p,v)]) (M ++ [(p,w)]):=by
 induction h with
 |nil=>exact .cons h1 h2 .nil
 |cons a b _ ih=>exact .cons a b ih
theorem WmG.look {s : Gh} {E : List (Int × Value)} {M : zU} (h : WmG s E M) (p : Int) : (M.lookup p=none∧E.lookup p=none)∨∃ w b off cap,M.lookup p=some w∧w≠[]∧E.lookup p=some (.slice (some ⟨b,off,none⟩) w.length cap)∧SlG 1 s zu (.slice (some ⟨b,off,none⟩) w.length cap) w:=by
 induction h with
 |nil=>exact .inl ⟨rfl,rfl⟩
 |@cons p' v w E M h1 h2 _ ih=>
  by_cases e : p=p'
  ·subst e
   obtain ⟨q,cap,rfl,_,_⟩:=h1.shape
   obtain ⟨b,off,rfl,_,_⟩:=zE h1 (i:=0) (List.length_pos_iff.2 h2)
   exact .inr ⟨w,b,off,cap,by rw [List.lookup_cons];simp,h2,by rw [List.lookup_cons];simp,h1⟩
  ·have hb : (p == p')=false:=by simpa using e
   rw [List.lookup_cons,List.lookup_cons,hb]
   exact ih
theorem aiB {wq : List Int} {st : zU × List Int} {p : Int} : st.1 <+: (yi wq st p).1:=by
 rw [yi];split
 ·exact List.prefix_refl _
 ·exact List.prefix_append _ _
theorem JR {wq : List Int} : ∀ {l : List Int} {st : zU × List Int},st.1 <+: (l.foldl (yi wq) st).1
 |[],st=>List.prefix_refl _
 |p::l,st=>aiB.trans JR
theorem aiC {n : zg} {so : List Int→List Int} {W : List Int} {s : Int} {M : zU} {l : List Int} {q : Int} {st : zU × List Int} : rndW n so W s M (l ++ [q]) st=if q≠s∧q ∈ W then rndW n so W s M l st else (so (nxt n q)).foldl (yi (getW M q)) (rndW n so W s M l st):=by
 rw [rndW,List.foldl_append];rfl
theorem af2 {n : zg} {so : List Int→List Int} {W : List Int} {s : Int} {M : zU} : ∀ {l : List Int} {st : zU × List Int},st.1 <+: (rndW n so W s M l st).1
 |[],st=>List.prefix_refl _
 |q::l,st=>by
  rw [rndW,List.foldl_cons]
  refine List.IsPrefix.trans ?_ (af2 (l:=l))
  split
  ·exact List.prefix_refl _
  ·exact JR
theorem aiD {M N : zU} {p : Int} (h : M <+: N) (hs : (M.lookup p).isSome=true) : N.lookup p=M.lookup p:=by
 obtain ⟨t,rfl⟩:=h
 rw [List.lookup_append]
 cases hm : M.lookup p with
 |none=>rw [hm] at hs;cases hs
 |some w=>rfl
theorem aiQ : abl sortI:=fun l=>⟨by
  have:=List.pairwise_mergeSort (le:=fun x y : Int=>decide (x≤y)) (by intro a b c h1 h2;simp only [decide_eq_true_eq] at *;omega) (by intro a b;simp only [Bool.or_eq_true,decide_eq_true_eq];omega) l
  exact this.imp fun h=>by simpa using h,
 fun x=>List.mem_mergeSort⟩
theorem mpW : mpI Tryz.prog 114=some (3,28):=by kernel_rfl
theorem ae7 : zr1 Tryz.prog 28=some (.slice none 0 0):=by kernel_rfl
noncomputable def okW (u : UnD) (n a b : Int) (W : List Int) : Bool:=!((decide (fnE u n≠0) || !decide (∀ x ∈ [a,b],isN (netU u n) x)) || !decide (∀ x ∈ W,isN (netU u n) x))
set_option maxHeartbeats 4000000 in
theorem abt {u : UnD} {n a b : Int} {W : List Int} {v vw : Value} {w : World} {r : Gh} {K : Value→World→Prop} (hr : Holds r w) (hu : UnG r v u) (hWs : SlG 1 r zu vw W) (hWf : W.length≤1000000)
  (h : ∀ v' s w',Ext w w'→New w s w'→SlG 1 s zu v' (if okW u n a b W=true then (jD (netU u n) a b W).getD [] else [])→K (.tuple #[v',.bool (okW u n a b W&&(jD (netU u n) a b W).isSome),.int .i64 (if okW u n a b W=true then 0 else 2)]) w') :
  zd Tryz.prog Tryz.Z9 #[v,.int .i64 n,.int .i64 a,.int .i64 b,vw] w K:=by
 refine Tryz.afs ?_
 unfold Tryz.abh
 have hu0:=hu
 obtain ⟨p0,cap0,vf,rfl,_,_,hst,hsl,hfn⟩:=hu
 obtain ⟨qf,capf,rfl,_,_⟩:=hfn.sl.shape
 have S:=St.start hr
 refine S.box fun b3 w1 S=>?_
 have S : StX noX w r w1 [.cell b3 [.slice p0 u.ss.length cap0,.slice qf u.fs.length capf,.int .i64 u.mn] 25]:=S
 refine S.ldB (b:=b3) ?_ rfl
 refine x7 S.holds hu0 fun vn sn w2 e2 n2 hnet=>?_
 obtain ⟨S,_,a2⟩:=S.tell e2 n2
 have S:=S.tl
 refine gS_ ?_
 refine xH (c:=!decide (∀ x ∈ [a,b],isN (netU u n) x)) (fun w'=>StX noX w (r.or sn) w' []) (fun _=>S) (fun hb K2 hK2=>?_) fun w3 S=>?_
 ·have hE : fnE u n=0:=by simpa using hb
  obtain ⟨hlt,he,hF⟩:=z7 hE
  obtain ⟨_,hN⟩:=hnet hE
  rw [← he] at hN
  refine S.lit (e:=3) (cs:=[.int .i64 a,.int .i64 b]) (by kernel_rfl) fun b5 w3 S=>?_
  obtain ⟨S,hs5,_⟩:=S.litNew b5 (sz:=1) (R:=zu) (l:=[a,b]) (kF (c:=[.int .i64 a]) rfl rfl (zZ rfl rfl)) (by decide)
  have hs5 : SlG 1 (Go.Sh.one b5 [.int .i64 a,.int .i64 b] 3) zu (.slice (some ⟨b5,0,none⟩) 2 2) [a,b]:=hs5
  have S : StX noX w ((r.or sn).or (Go.Sh.one b5 [.int .i64 a,.int .i64 b] 3)) w3 []:=S
  refine Qc S.holds hN.up hs5.cells (by simp) fun w4 e4=>?_
  have S:=S.go e4
  refine gp_ ?_
  exact hK2 _ (S.to _)
 refine xf (c:=!decide (∀ x ∈ W,isN (netU u n) x)) (fun hb K2 hK2=>?_) fun w4 e4=>?_
 ·rw [Bool.or_eq_false_iff] at hb
  have hE : fnE u n=0:=by simpa using hb.1
  obtain ⟨hlt,he,hF⟩:=z7 hE
  obtain ⟨_,hN⟩:=hnet hE
  rw [← he] at hN
  refine Qc S.holds hN.up hWs.cells hWf fun w5 e5=>?_
  refine gp_ ?_
  exact hK2 _ e5
 have S:=S.go e4
 have hok : okW u n a b W = !((decide (fnE u n≠0) || !decide (∀ x ∈ [a,b],isN (netU u n) x)) || !decide (∀ x ∈ W,isN (netU u n) x)):=rfl
 refine c_b (fun hb=>?_) (fun hb=>?_)
 ·rw [hb] at hok
  rw [hok] at h
  exact h _ nothing _ S.ext New.nothing SlG.nil
 rw [hb] at hok
 rw [hok] at h
 simp only [Bool.or_eq_false_iff,decide_eq_false_iff_not,Decidable.not_not,Bool.not_eq_false',decide_eq_true_eq,ne_eq] at hb
 obtain ⟨⟨hE,hab⟩,hWN⟩:=hb
 obtain ⟨hlt,he,hF⟩:=z7 hE
 obtain ⟨_,hN⟩:=hnet hE
 rw [← he] at hN
 have hfew:=hF.few
 have haN:=hab a (by simp)
 have hbN:=hab b (by simp)
 generalize netU u n=nn at *
 clear hnet hE he hlt hst hfn hu0
 refine S.mkMapI fun bm w5 S=>?_
 refine S.lit (e:=3) (cs:=[.int .i64 a]) (by kernel_rfl) fun b6 w6 S=>?_
 obtain ⟨S,hs6,ha6⟩:=S.litNew b6 (sz:=1) (R:=zu) (l:=[a]) (zZ rfl rfl) (by decide)
 refine S.mapAddI mpW (by rfl) fun w7 S=>?_
 refine S.lit (e:=3) (cs:=[.int .i64 a]) (by kernel_rfl) fun b7 w8 S=>?_
 obtain ⟨S,hs7,ha7⟩:=S.litNew b7 (sz:=1) (R:=zu) (l:=[a]) (zZ rfl rfl) (by decide)
 have S : StX noX w ((r.or sn).or ((Go.Sh.one b6 [.int .i64 a] 3).or (Go.Sh.one b7 [.int .i64 a] 3))) w8 [.obj bm (jg [(a,.slice (some ⟨b6,0,none⟩) 1 1)])]:=S.reGh
 have hs6 : SlG 1 (Go.Sh.one b6 [.int .i64 a] 3) zu (.slice (some ⟨b6,0,none⟩) 1 1) [a]:=hs6
 have hs7 : SlG 1 (Go.Sh.one b7 [.int .i64 a] 3) zu (.slice (some ⟨b7,0,none⟩) 1 1) [a]:=hs7
 have ha0:=ha6.or' ha7
 have hE0 : WmG ((Go.Sh.one b6 [.int .i64 a] 3).or (Go.Sh.one b7 [.int .i64 a] 3)) [(a,.slice (some ⟨b6,0,none⟩) 1 1)] [(a,[a])]:=.cons hs6.cells (by simp) .nil
 have hl0 : SlG 1 ((Go.Sh.one b6 [.int .i64 a] 3).or (Go.Sh.one b7 [.int .i64 a] 3)) zu (.slice (some ⟨b7,0,none⟩) 1 1) [a]:=hs7.cells
 have hF0:=Fw.start (n:=nn) (W:=W) haN
 generalize (Go.Sh.one b6 [.int .i64 a] 3).or (Go.Sh.one b7 [.int .i64 a] 3)=s0 at S ha0 hE0 hl0
 clear hs6 hs7 ha6 ha7
 refine zh (ι:=Value × Gh × List (Int × Value) × zU × List Int × Nat) (fun i=>[i.1]) (fun i w'=>Fw nn W a i.2.2.2.2.2 i.2.2.2.1 i.2.2.2.2.1∧Above w i.2.1∧SlG 1 i.2.1 zu i.1 i.2.2.2.2.1∧WmG i.2.1 i.2.2.1 i.2.2.2.1∧i.2.2.2.2.1.length≤nn.length∧(i.2.2.2.2.1≠[]→i.2.2.2.2.2+1≤i.2.2.2.1.length)∧
   StX noX w ((r.or sn).or i.2.1) w' [.obj bm (jg i.2.2.1)])
  (fun i=>2*(nn.length - i.2.2.2.1.length)+(if i.2.2.2.2.1 = [] then 0 else 1)) (.slice (some ⟨b7,0,none⟩) 1 1,s0,[(a,.slice (some ⟨b6,0,none⟩) 1 1)],[(a,[a])],[a],0) rfl ⟨hF0,ha0,hl0,hE0,hF.pos,fun _=>Nat.le_refl _,S⟩ ?_
 repeat clear S
 clear hF0 ha0 hl0 hE0
 rintro ⟨vl,s,E,M,L,k⟩ d w9 ⟨hFw,ha,hL,hEM,hLf,hkM,S⟩ K18 hK18
 simp only at hFw ha hL hEM hLf hkM S ⊢
 rw [List.getD_cons_zero]
 have hMf:=hFw.few
 obtain ⟨pl,capl,rfl,_,_⟩:=hL.shape
 refine gg_ ?_
 have hnone : ∀ {K : Value→Prop},K (.bool (M.lookup b).isNone)→opQ Tryz.prog w9 (Instr.lookup 114 (.map (some bm)) (.int .i64 b) false) fun t57=>opP Tryz.prog (yp .eql 28 true t57 (.slice none 0 0)) K:=fun {K} hK=>by
  refine S.mapGetI mpW ae7 ?_
  rcases hEM.look b with ⟨h1,h2⟩|⟨wl,bb,oo,cc,h1,_,h2,_⟩
  ·rw [h2,Option.getD_none]
   rw [h1] at hK
   refine gp_ ?_
   exact hK
  ·rw [h2,Option.getD_some]
   rw [h1] at hK
   refine gp_ ?_
   exact hK
 refine zf (c:=(M.lookup b).isNone) (fun _ K2 hK2=>hnone hK2) ?_
 clear hnone
 refine c_b (fun hgo=>?_) (fun hend=>?_)
 ·simp only [Bool.and_eq_true,decide_eq_true_eq] at hgo
  have hLne : L≠[]:=fun e=>by rw [e] at hgo;simp at hgo
  have hk1:=hkM hLne
  obtain ⟨hFw2,hlen2⟩:=hFw.next hF.ok aiQ
  have hMf2:=hFw2.few
  refine gg_ ?_
  refine zh (ι:=Value × Nat × Gh × List (Int × Value)) (fun i=>[i.1,.int .i64 (i.2.1 : Nat)]) (fun i w'=>i.2.1≤L.length∧Above w i.2.2.1∧WmG i.2.2.1 i.2.2.2 (rndW nn sortI W a M (L.take i.2.1) (M,[])).1∧(rndW nn sortI W a M (L.take i.2.1) (M,[])).2.length≤2*i.2.1∧(∀ b o,s b o→i.2.2.1 b o)∧
    StX noX w ((r.or sn).or i.2.2.1) w' [.row i.1 3 1 (rndW nn sortI W a M (L.take i.2.1) (M,[])).2.length (ints (rndW nn sortI W a M (L.take i.2.1) (M,[])).2),.obj bm (jg i.2.2.2)])
   (fun i=>L.length - i.2.1) (.slice none 0 0,0,s,E) rfl ⟨Nat.zero_le _,ha,hEM,Nat.zero_le _,fun _ _ h=>h,S.ownNil 3 1⟩ ?_
  repeat clear S
  rintro ⟨vx,i,s2,E2⟩ d w10 ⟨hi,ha2',hEM2,hnl,hsub,S⟩ K26 hK26
  simp only at hi ha2' hEM2 hnl hsub S ⊢
  simp only [List.getD_cons_zero,List.getD_cons_succ]
  have leS : Le s s2:=⟨hsub⟩
  refine gg_ ?_
  refine zj (fun hlti=>?_) (fun hge=>?_)
  ·have hlti : i<L.length:=by omega
   obtain ⟨bl,ol,hpl,_,hcl⟩:=zE hL hlti
   subst hpl
   have htk : L.take (i+1)=L.take i ++ [L[i]]:=List.take_succ_eq_append_getElem hlti
   have hqL : L[i] ∈ L:=List.getElem_mem hlti
   obtain ⟨hqM,hql⟩:=hFw.lenL hqL
   have hqN:=(hFw.min _ _ hqM).1
   generalize L[i]=q at hcl htk hqL hqM hql hqN
   have q0:=hqN.1;have q1:=hqN.2
   have hpre : M <+: (rndW nn sortI W a M (L.take i) (M,[])).1:=af2 (st:=(M,[]))
   refine zp (fun x w'=>∃ vx' s3 E3,x = [vx']∧Above w s3∧WmG s3 E3 (rndW nn sortI W a M (L.take (i+1)) (M,[])).1∧(rndW nn sortI W a M (L.take (i+1)) (M,[])).2.length≤2*(i+1)∧(∀ b o,s b o→s3 b o)∧
    StX noX w ((r.or sn).or s3) w' [.row vx' 3 1 (rndW nn sortI W a M (L.take (i+1)) (M,[])).2.length (ints (rndW nn sortI W a M (L.take (i+1)) (M,[])).2),.obj bm (jg E3)]) (fun K30 hK30=>?_) ?_
   ·refine gg_ ?_
    refine zi (by rw [Int.toNat_natCast];exact S.at hcl) ?_
    refine gg_ ?_
    refine zf (c:=decide (q ∈ W)) (fun _ K2 hK2=>qX S.holds hWs.cells (Nat.le_trans hWf (by decide)) hK2) ?_
    rw [htk,aiC] at hK30
    refine c_b (fun hsk=>?_) (fun hsk=>?_)
    ·simp only [Bool.and_eq_true,decide_eq_true_eq] at hsk
     rw [if_pos hsk] at hK30
     exact hK30 _ _ ⟨vx,s2,E2,rfl,ha2',hEM2,by omega,hsub,S⟩
    ·rw [if_neg (by simpa using hsk)] at hK30
     generalize rndW nn sortI W a M (L.take i) (M,[])=st at hK30 hEM2 hnl S hpre
     obtain ⟨pn,capn,rfl,_,_⟩:=hN.sl.shape
     obtain ⟨bn,on,un,hpn,_,hcn,hun⟩:=vX hN (i:=q.toNat) (by omega)
     subst hpn
     have hnx : nxt nn q=nn[q.toNat]:=xV hqN
     rw [hnx] at hK30
     have hn2 : nn[q.toNat].length≤2:=hF.nar _ (List.getElem_mem _)
     generalize nn[q.toNat]=ln at hK30 hun hn2
     refine gg_ ?_
     refine zi (S.at hcn) ?_
     refine VD S hun.sl.cells (by omega) fun v78 w11 S=>?_
     refine adt S (by omega) fun w12 S=>?_
     have hsl2 : (sortI ln).length=ln.length:=Zz
     rw [← hsl2] at S
     obtain ⟨s5,T,hs5,_,ha5⟩:=S.doneRow zS (by decide) rfl
     repeat clear S
     obtain ⟨p78,c78,rfl,_,_⟩:=hs5.shape
     have S:=T
     clear T
     have ha5' : Above w s5:=fun b o ho=>(ha5 b o ho).resolve_right id
     refine gg_ ?_
     generalize sortI ln=l2 at hK30 hs5 hsl2
     have hMq : M.lookup q=some (getW M q):=(jC hFw.nod).1 hqM
     generalize getW M q=wq at hK30 hMq hql
     refine zh (ι:=Value × Nat × Gh × List (Int × Value)) (fun i=>[i.1,.int .i64 (i.2.1 : Nat)]) (fun j w'=>j.2.1≤l2.length∧Above w j.2.2.1∧WmG j.2.2.1 j.2.2.2 ((l2.take j.2.1).foldl (yi wq) st).1∧((l2.take j.2.1).foldl (yi wq) st).2.length≤2*i+j.2.1∧(∀ b o,s b o→j.2.2.1 b o)∧
       StX noX w (((r.or sn).or s5).or j.2.2.1) w' [.row j.1 3 1 ((l2.take j.2.1).foldl (yi wq) st).2.length (ints ((l2.take j.2.1).foldl (yi wq) st).2),.obj bm (jg j.2.2.2)])
      (fun j=>l2.length - j.2.1) (vx,0,s2,E2) rfl ⟨Nat.zero_le _,ha2',hEM2,hnl,hsub,S.less (fun b o x=>Or.elim x (fun x=>Or.elim x (fun x=>.inl (.inl x)) .inr) fun x=>.inl (.inr x)) (List.Sublist.refl _)⟩ ?_
     repeat clear S
     rintro ⟨vy,j,s6,E6⟩ d w13 ⟨hj,ha6,hEM6,hnl6,hsub6,S⟩ K41 hK41
     simp only at hj ha6 hEM6 hnl6 hsub6 S ⊢
     simp only [List.getD_cons_zero,List.getD_cons_succ]
     have leS6 : Le s s6:=⟨hsub6⟩
     refine gg_ ?_
     refine zj (fun hltj=>?_) (fun hgej=>?_)
     ·have hltj : j<l2.length:=by omega
      obtain ⟨b78,o78,hp78,_,hc78⟩:=zE hs5 hltj
      subst hp78
      have hst : (l2.take (j+1)).foldl (yi wq) st=yi wq ((l2.take j).foldl (yi wq) st) l2[j]:=by
       rw [List.take_succ_eq_append_getElem hltj,List.foldl_append];rfl
      have hpre6 : M <+: ((l2.take j).foldl (yi wq) st).1:=hpre.trans JR
      generalize (l2.take j).foldl (yi wq) st=st6 at hst hEM6 hnl6 S hpre6
      generalize l2[j]=y at hst hc78
      refine zp (fun x w'=>∃ vy' s7 E7,x = [vy']∧Above w s7∧WmG s7 E7 (yi wq st6 y).1∧(yi wq st6 y).2.length≤2*i+(j+1)∧(∀ b o,s b o→s7 b o)∧
       StX noX w (((r.or sn).or s5).or s7) w' [.row vy' 3 1 (yi wq st6 y).2.length (ints (yi wq st6 y).2),.obj bm (jg E7)]) (fun K45 hK45=>?_) ?_
      ·refine gg_ ?_
       refine zi (by rw [Int.toNat_natCast];exact S.at hc78) ?_
       refine S.mapGetI mpW ae7 ?_
       rcases hEM6.look y with ⟨h1,h2⟩|⟨wl,bb,oo,cc,h1,_,h2,_⟩
       ·rw [h2,Option.getD_none]
        have e : yi wq st6 y=(st6.1 ++ [(y,wq ++ [y])],st6.2 ++ [y]):=by rw [yi,h1];rfl
        rw [e] at hK45
        refine gp_ ?_
        refine c_t rfl ?_
        refine S.mapGetI mpW ae7 ?_
        have hq6 : st6.1.lookup q=some wq:=by rw [aiD hpre6 (by rw [hMq];rfl)];exact hMq
        rcases hEM6.look q with ⟨g1,_⟩|⟨wl,bb,oo,cc,g1,_,g2,g3⟩
        ·rw [hq6] at g1;cases g1
        rw [hq6] at g1
        cases g1
        rw [g2,Option.getD_some]
        refine VD S g3.cells (by omega) fun v96 w14 S=>?_
        refine S.lit (e:=3) (cs:=[.int .i64 y]) (by kernel_rfl) fun b8 w15 S=>?_
        refine S.ap (v:=v96) (m':=1) (Sl.blk (S.blk b8)) (fun v99 w16 S=>?_) (by omega)
        have S:=S.drop b8
        have S : StX noX w (((r.or sn).or s5).or s6) w16 [.row v99 3 1 (wq ++ [y]).length (ints (wq ++ [y])),.row vy 3 1 st6.2.length (ints st6.2),.obj bm (jg E6)]:=by
         rw [yo,List.length_append];exact S
        obtain ⟨s7,S,hs7,_,ha7⟩:=S.doneRow zS (by decide) rfl
        have hE6n : E6.lookup y=none:=h2
        refine S.mapAddI mpW hE6n fun w17 S=>?_
        refine S.lit (e:=3) (cs:=[.int .i64 y]) (by kernel_rfl) fun b9 w18 S=>?_
        refine S.ap (v:=vy) (m':=1) (Sl.blk (S.blk b9)) (fun v5 w19 S=>?_) (by omega)
        have S:=S.drop b9
        refine hK45 _ _ ⟨v5,s6.or s7,E6 ++ [(y,v99)],rfl,ha6.or' fun b o ho=>(ha7 b o ho).resolve_right id,(hEM6.up.snoc hs7.cells (by simp)),by rw [List.length_append,List.length_singleton];omega,fun b o ho=>.inl (hsub6 b o ho),?_⟩
        have S:=S.reGh
        rw [List.length_append,yo];exact S
       ·rw [h2,Option.getD_some]
        have e : yi wq st6 y=st6:=by rw [yi,h1];rfl
        rw [e] at hK45
        refine gp_ ?_
        refine c_f rfl ?_
        exact hK45 _ _ ⟨vy,s6,E6,rfl,ha6,hEM6,by omega,hsub6,S⟩
      rintro x w14 ⟨vy',s7,E7,rfl,i1,i2,i3,i4,S⟩ d
      simp only [List.getD_cons_zero]
      refine gp_ ?_
      refine hK41 (vy',j+1,s7,E7) _ ⟨hltj,i1,?_,?_,i4,?_⟩ (by show l2.length - (j+1)<l2.length - j;omega)
      ·show WmG s7 E7 ((l2.take (j+1)).foldl (yi wq) st).1
       rw [hst];exact i2
      ·show ((l2.take (j+1)).foldl (yi wq) st).2.length≤2*i+(j+1)
       rw [hst];exact i3
      ·show StX noX w (((r.or sn).or s5).or s7) w14 [.row vy' 3 1 ((l2.take (j+1)).foldl (yi wq) st).2.length (ints ((l2.take (j+1)).foldl (yi wq) st).2),.obj bm (jg E7)]
       rw [hst];exact S
     have hje : j=l2.length:=by omega
     subst hje
     rw [List.take_length] at hEM6 hnl6 S
     clear hK41
     refine hK30 _ _ ⟨vy,s5.or s6,E6,rfl,ha5'.or' ha6,hEM6.up,by omega,fun b o ho=>.inr (hsub6 b o ho),S.reGh⟩
   rintro x w11 ⟨vx',s3,E3,rfl,i1,i2,i3,i4,S⟩ d
   simp only [List.getD_cons_zero]
   refine gp_ ?_
   exact hK26 (vx',i+1,s3,E3) _ ⟨hlti,i1,i2,i3,i4,S⟩ (by show L.length - (i+1)<L.length - i;omega)
  have hie : i=L.length:=by omega
  subst hie
  rw [List.take_length] at hEM2 hnl S
  clear hK26
  obtain ⟨s4,S,hs4,_,ha4⟩:=S.doneRow zS (by decide) rfl
  refine hK18 (vx,s2.or s4,E2,_,_,k+1) _ ⟨hFw2,ha2'.or' fun b o ho=>(ha4 b o ho).resolve_right id,hs4.cells,hEM2.up,(show (rndW nn sortI W a M L (M,[])).2.length≤nn.length by omega),fun hne=>?_,S.reGh⟩ ?_
  ·have : 0<(rndW nn sortI W a M L (M,[])).2.length:=List.length_pos_iff.2 hne
   show k+1+1≤(rndW nn sortI W a M L (M,[])).1.length
   omega
  ·show 2*(nn.length - (rndW nn sortI W a M L (M,[])).1.length)+(if (rndW nn sortI W a M L (M,[])).2 = [] then 0 else 1)<2*(nn.length - M.length)+(if L = [] then 0 else 1)
   rw [if_neg hLne]
   by_cases e : (rndW nn sortI W a M L (M,[])).2 = []
   ·rw [if_pos e];rw [e] at hlen2;simp only [List.length_nil] at hlen2;omega
   ·rw [if_neg e]
    have : 0<(rndW nn sortI W a M L (M,[])).2.length:=List.length_pos_iff.2 e
    omega
 have S:=S.go (Ext.drew _)
 have hfound:=hFw.found (t:=b) (by
  simp only [Bool.and_eq_false_iff,decide_eq_false_iff_not] at hend
  rcases hend with h1|h1
  ·refine .inl (List.length_eq_zero_iff.1 ?_);omega
  ·refine .inr ?_
   cases hl : M.lookup b with
   |none=>rw [hl] at h1;cases h1
   |some x=>rfl)
 refine S.mapGetI mpW ae7 ?_
 refine S.mapGetI mpW ae7 ?_
 rw [← hfound] at h
 rcases hEM.look b with ⟨h1,h2⟩|⟨wl,bb,oo,cc,h1,_,h2,h3⟩
 ·rw [h2,Option.getD_none]
  rw [h1] at h
  refine gg_ ?_
  exact h _ (sn.or s) _ S.ext (StX.newOf S.reGh (a2.or' ha)) SlG.nil
 ·rw [h2,Option.getD_some]
  rw [h1] at h
  refine gg_ ?_
  exact h _ (sn.or s) _ S.ext (StX.newOf S.reGh (a2.or' ha)) h3.cells
end Go.Proofs
end
section
namespace Go.Proofs
open Go.Sh
set_option maxRecDepth 100000
set_option linter.unusedSimpArgs false
set_option linter.unusedVariables false
theorem vD : netU (yU [1,2]) 0=n3:=ahE
theorem akE : netU (yU [0]) 0=n1:=ahF
theorem aci {q : Int} (h : isN n3 q) : okQ (yU [1,2]) 0 q=true:=by
 rw [okQ,qH,vD,decide_eq_true h];rfl
theorem akf : okW (yU [1,2]) 0 0 2 []=true:=by
 rw [okW,qH,vD];decide
theorem akN : okL (yU [1,2]) 0 0 1=false:=by
 rw [okL,qH,vD,JC];decide
set_option maxHeartbeats 4000000 in
theorem yl {w : World} {K : Value→World→Prop} (h : ∀ w',Ext w w'→K (.bool true) w') : zd Tryz.prog Tryz.yc #[] w K:=by
 refine Tryz.ach ?_
 unfold Tryz.QF
 have S : StX noX w nothing w []:=St.start (fun _ _ h=>h.elim)
 refine S.lit (e:=3) (cs:=[.int .i64 1,.int .i64 2]) (by kernel_rfl) fun b1 w1 S=>?_
 obtain ⟨S,h1,_⟩:=S.litNew b1 (sz:=1) (R:=zu) (l:=[1,2]) (kF (c:=[.int .i64 1]) rfl rfl (zZ rfl rfl)) (by decide)
 refine JQ S.holds h1.cells (by decide) fun v2 s2 w2 e2 n2 hu=>?_
 obtain ⟨S,_,_⟩:=S.tell e2 n2
 refine S.al fun b0 w3 S=>?_
 obtain ⟨p0,cap0,vf,rfl,_,_,_,_,hfn⟩:=id hu
 obtain ⟨qf,capf,rfl,_,_⟩:=hfn.sl.shape
 refine S.stB (b:=b0) fun w4 S=>?_
 have S:=S.to s2
 have S : StX noX w s2 w4 [.cell b0 [.slice p0 0 cap0,.slice qf 1 capf,.int .i64 0] 25]:=S
 have hu : UnG s2 (.agg #[.slice p0 0 cap0,.slice qf 1 capf,.int .i64 0]) (yU [1,2]):=hu
 have i0 : isN n3 0:=⟨by decide,by decide⟩
 have i1 : isN n3 1:=⟨by decide,by decide⟩
 have i2 : isN n3 2:=⟨by decide,by decide⟩
 refine S.ldB (b:=b0) ?_ rfl
 refine QA S.holds hu fun v5 s5 w5 e5 n5 h5=>?_
 rw [aci i2,if_pos rfl,vD,aj3] at h5
 rw [aci i2,if_pos rfl]
 obtain ⟨S,_,_⟩:=S.tell e5 n5
 obtain ⟨p5,cp5,rfl,_,_⟩:=h5.shape
 obtain ⟨b5,o5,rfl,_,g5⟩:=zE h5 (i:=0) (by decide)
 refine gS_ ?_
 refine S.ldB (b:=b0) ?_ rfl
 refine JE S.holds hu.up fun v6 s6 w6 e6 n6 h6=>?_
 rw [aci i1,if_pos rfl,vD,aj4,show mkd [false,true,true] = [1,2] by decide] at h6
 rw [aci i1,if_pos rfl]
 obtain ⟨S,_,_⟩:=S.tell e6 n6
 obtain ⟨p6,cp6,rfl,_,_⟩:=h6.shape
 refine gS_ ?_
 refine S.ldB (b:=b0) ?_ rfl
 refine abt S.holds hu.up SlG.nil (by decide) fun v7 s7 w7 e7 n7 h7=>?_
 rw [akf,if_pos rfl,vD,ahy] at h7
 rw [akf,if_pos rfl,vD,ahy]
 have h7 : SlG 1 s7 zu v7 [0,1,2]:=h7
 obtain ⟨S,_,_⟩:=S.tell e7 n7
 obtain ⟨p7,cp7,rfl,_,_⟩:=h7.shape
 refine gS_ ?_
 refine S.ldB (b:=b0) ?_ rfl
 refine JG S.holds hu.up fun v8 s8 w8 o b e8 n8 hw8 _ h8=>?_
 obtain ⟨st,hst,rfl,rfl⟩:=hw8 qH
 rw [vD] at hst
 obtain rfl:=hst.one ajk
 rw [qH]
 have h8 : SlG 1 s8 zu v8 [0,1,2]:=h8
 obtain ⟨S,_,_⟩:=S.tell e8 n8
 obtain ⟨p8,cp8,rfl,_,_⟩:=h8.shape
 refine gS_ ?_
 refine S.ldB (b:=b0) ?_ rfl
 refine JF S.holds hu.up fun v9 s9 w9 e9 n9 h9=>?_
 rw [aci i2,if_pos rfl,vD,JD] at h9
 rw [aci i2,if_pos rfl]
 obtain ⟨S,_,_⟩:=S.tell e9 n9
 obtain ⟨p9,cp9,rfl,_,_⟩:=h9.shape
 refine gS_ ?_
 refine S.ldB (b:=b0) ?_ rfl
 refine JH S.holds hu.up fun va sa wa ea na ha=>?_
 rw [if_pos qH,vD] at ha
 rw [qH]
 have ha : SlG 1 sa zu va [yP n3 0,yP n3 1,yP n3 2]:=ha
 rw [ahw,ahx] at ha
 obtain ⟨S,_,_⟩:=S.tell ea na
 obtain ⟨pa,ca,rfl,_,_⟩:=ha.shape
 obtain ⟨ba,oa,rfl,_,ga0⟩:=zE ha (i:=0) (by decide)
 obtain ⟨ba2,oa2,hpa,_,ga2⟩:=zE ha (i:=2) (by decide)
 cases hpa
 refine gS_ ?_
 refine S.ldB (b:=b0) ?_ rfl
 refine S.lit (e:=3) (cs:=[.int .i64 0,.int .i64 2]) (by kernel_rfl) fun b10 w10 S=>?_
 obtain ⟨S,h10,_⟩:=S.litNew b10 (sz:=1) (R:=zu) (l:=[0,2]) (kF (c:=[.int .i64 0]) rfl rfl (zZ rfl rfl)) (by decide)
 refine acV S.holds hu.up h10.cells (by decide) fun w11 e11=>?_
 have S:=S.go e11
 rw [if_pos qH,vD,show isW n3 [0,2]=(1,false) by decide]
 refine gS_ ?_
 refine S.lit (e:=3) (cs:=[.int .i64 0]) (by kernel_rfl) fun b12 w12 S=>?_
 obtain ⟨S,h12,_⟩:=S.litNew b12 (sz:=1) (R:=zu) (l:=[0]) (zZ rfl rfl) (by decide)
 refine JQ S.holds h12.cells (by decide) fun v13 s13 w13 e13 n13 hu1=>?_
 obtain ⟨S,_,_⟩:=S.tell e13 n13
 refine VG S.holds hu1.up fun v14 s14 w14 o b e14 n14 hw14 _ h14=>?_
 obtain ⟨st,hst,rfl,rfl⟩:=hw14 ae3
 rw [akE] at hst
 obtain rfl:=hst.one ajl
 rw [ae3]
 have h14 : SlG 2 s14 X2 v14 [(0,0)]:=h14
 obtain ⟨S,_,_⟩:=S.tell e14 n14
 obtain ⟨p14,cp14,rfl,_,_⟩:=h14.shape
 refine gS_ ?_
 refine S.ldB (b:=b0) ?_ rfl
 refine VH S.holds hu.up fun v15 s15 w15 e15 n15 h15=>?_
 rw [akN,if_neg (by decide)]
 have S:=S.go e15
 refine gS_ ?_
 refine zf (c:=true) (fun _ K2 hK2=>by refine gg_ ?_;exact hK2) ?_
 refine zf (c:=true) (fun _ K2 hK2=>?_) ?_
 ·refine gg_ ?_
  refine s_c (by simp) ?_
  refine zi (v:=.int .i64 1) (by simpa using S.at g5) ?_
  refine gg_ ?_
  exact hK2
 refine zf (c:=true) (fun _ K2 hK2=>by refine gg_ ?_;exact hK2) ?_
 refine zf (c:=true) (fun _ K2 hK2=>by refine gg_ ?_;exact hK2) ?_
 refine zf (c:=true) (fun _ K2 hK2=>by refine gg_ ?_;exact hK2) ?_
 refine zf (c:=true) (fun _ K2 hK2=>by refine gg_ ?_;exact hK2) ?_
 refine zf (c:=true) (fun _ K2 hK2=>by refine gg_ ?_;exact hK2) ?_
 refine zf (c:=true) (fun _ K2 hK2=>by refine gg_ ?_;exact hK2) ?_
 refine zf (c:=true) (fun _ K2 hK2=>by refine gg_ ?_;exact hK2) ?_
 refine zf (c:=true) (fun _ K2 hK2=>by refine gg_ ?_;exact hK2) ?_
 refine zf (c:=true) (fun _ K2 hK2=>by refine gg_ ?_;exact hK2) ?_
 refine zf (c:=true) (fun _ K2 hK2=>by refine gg_ ?_;exact hK2) ?_
 refine zf (c:=true) (fun _ K2 hK2=>?_) ?_
 ·refine gg_ ?_
  refine s_c (by simp) ?_
  refine zi (v:=.int .i64 (-1)) (by simpa using S.at ga0) ?_
  refine gg_ ?_
  exact hK2
 refine zf (c:=true) (fun _ K2 hK2=>?_) ?_
 ·refine gg_ ?_
  refine s_c (by simp) ?_
  refine zi (v:=.int .i64 1) (by simpa using S.at ga2) ?_
  refine gg_ ?_
  exact hK2
 refine zf (c:=true) (fun _ K2 hK2=>by refine gg_ ?_;exact hK2) ?_
 refine zf (c:=true) (fun _ K2 hK2=>by refine gg_ ?_;exact hK2) ?_
 refine zf (c:=true) (fun _ K2 hK2=>by refine gg_ ?_;exact hK2) ?_
 refine zf (c:=true) (fun _ K2 hK2=>by refine gg_ ?_;exact hK2) ?_
 refine zf (c:=true) (fun _ K2 hK2=>by refine gg_ ?_;exact hK2) ?_
 refine zf (c:=true) (fun _ K2 hK2=>by refine gg_ ?_;exact hK2) ?_
 have:=h _ S.ext
 simpa using this
end Go.Proofs
end
