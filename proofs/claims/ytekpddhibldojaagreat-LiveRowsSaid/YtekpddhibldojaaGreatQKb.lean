/-
  Data as such: what a value tells in a memory that stays, whatever its type: numbers, texts, structs, slices.
  Conditions put together: the value of 'and', 'or' as it stands.
  More of the way of walking: literals in a drawn region, cells that come to stay, rows that are given and taken.
  Strings as lists of bytes; interface values; structs compared.
  Notes beside code, told by numbers.
  The seat's types, reckoned: what each operation on them asks. Made by a program (wip/gen/gen.py).
  Shallow readings of functions. Made by a program (wip/gen/gen.py) out of the translation; the kernel checks each equality.
  Shallow readings of functions. Made by a program (wip/gen/gen.py) out of the translation; the kernel checks each equality.
  Shallow readings of functions. Made by a program (wip/gen/gen.py) out of the translation; the kernel checks each equality.
  Shallow readings of functions. Made by a program (wip/gen/gen.py) out of the translation; the kernel checks each equality.
  Shallow readings of functions. Made by a program (wip/gen/gen.py) out of the translation; the kernel checks each equality.
  Types as data: what a value of api.Type tells; typeFits.
  Contracts: which types may be (package types, the document's answer).
  Contracts: types that are alike, the same.
  Contracts: the regions of a type.
  Contracts: Regions, of both sides; which regions one type asks of another (pure).
  Contracts: what one type asks of another.
  Contracts: Asks, of both sides.
  Contracts: Asks, the document's.
  Contracts: the text of a type, of both sides. Itoa of small numbers.
  Contracts: the text of a type, the document's; Itoa of small numbers; Copies.
  Contracts: Structs, May, Words where there are no structs (what awake asks).
  Arithmetic of unsigned numbers, told by whole numbers where nothing runs over.
  A slice of one's own that need not begin where its block does: a queue.
  Further steps: values that are arrays, shifts and joins of numbers, structs of numbers compared; conditions put together.
  Contracts: the reader of types' texts: comes, take.
  Contracts: the reader of types' texts: digits.
  What is read of bytes, byte by byte: readers as data; how far they go. No program in sight.
  Contracts: the reader of types' texts: kind, ref.
  Contracts: the reader of types' texts: ref.
  Contracts: the reader of types' texts: kind.
  Contracts: types.Read.
  Contracts: the document's reader of types' texts: next, word, number.
  Contracts: the document's reader of types' texts: number.
  Contracts: the document's reader of types' texts: reference, kind.
  Contracts: the document's reader of types' texts: Read.
  Contracts: equal (of what is alike), spoil.
  Contracts: a type's nodes as one's own cells; own, Own.
  Contracts: walk that turns regions; Number, Anew.
-/
import Derived.Test.YtekpddhibldojaaGreatQKa
import Derived.Laws.StructEq
import Derived.Laws.Concat
import Derived.WideLaws
import Derived.Test.YtekpddhibldojaaGreatProg
import Derived.KernelRfl
import Derived.ArgAppend
section
namespace Go.Sh
open Go.RowKit
inductive Dat where
 |int (k : IntKind) (n : Int)
 |bool (b : Bool)
 |str (s : ByteArray)
 |agg (fs : List Dat)
 |sl (sz : Nat) (es : List Dat)
def CellsAt (r : Gh) (p : Option Addr) (n : Nat) (c : List Value) : Prop:=
 ∀ j v,c[j]? = some v→∃ b off,p=some ⟨b,off,none⟩∧Ob r fun w=>w.cell? ⟨b,off+n+j,none⟩=some v
mutual
def Rep (r : Gh) : Dat→List Value→Prop
 |.int k n,cs=>cs = [.int k n]
 |.bool b,cs=>cs = [.bool b]
 |.str s,cs=>cs = [.string s]
 |.agg fs,cs=>RepA r fs cs
 |.sl sz es,cs=>∃ p cap,cs = [.slice p es.length cap]∧(p=none→cap=0)∧es.length≤cap∧RepS r sz p 0 es
def RepA (r : Gh) : List Dat→List Value→Prop
 |[],cs=>cs = []
 |d::ds,cs=>∃ a b,cs=a++b∧Rep r d a∧RepA r ds b
def RepS (r : Gh) (sz : Nat) (p : Option Addr) : Nat→List Dat→Prop
 |_,[]=>True
 |i,d::ds=>(∃ c,c.length=sz∧CellsAt r p (i*sz) c∧Rep r d c)∧RepS r sz p (i+1) ds
end
theorem CellsAt.up {r s : Gh} {p : Option Addr} {n : Nat} {c : List Value} (h : CellsAt r p n c) (l : Le r s) : CellsAt s p n c:=fun j v hj=>by
 obtain ⟨b,off,h1,h2⟩:=h j v hj
 exact ⟨b,off,h1,h2.up⟩
mutual
theorem Rep.up' {r s : Gh} (l : Le r s) : ∀ {d : Dat} {cs : List Value},Rep r d cs→Rep s d cs
 |.int _ _,_,h=>h
 |.bool _,_,h=>h
 |.str _,_,h=>h
 |.agg fs,_,h=>RepA.up' l (fs:=fs) h
 |.sl _ es,_,h=>by
  obtain ⟨p,cap,h1,h2,h3,h4⟩:=h
  exact ⟨p,cap,h1,h2,h3,RepS.up' l (es:=es) h4⟩
theorem RepA.up' {r s : Gh} (l : Le r s) : ∀ {fs : List Dat} {cs : List Value},RepA r fs cs→RepA s fs cs
 |[],_,h=>h
 |d::ds,_,h=>by
  obtain ⟨a,b,h1,h2,h3⟩:=h
  exact ⟨a,b,h1,Rep.up' l (d:=d) h2,RepA.up' l (fs:=ds) h3⟩
theorem RepS.up' {r s : Gh} (l : Le r s) {sz : Nat} {p : Option Addr} : ∀ {i : Nat} {es : List Dat},RepS r sz p i es→RepS s sz p i es
 |_,[],_=>trivial
 |_,d::ds,h=>by
  obtain ⟨⟨c,h1,h2,h3⟩,h4⟩:=h
  exact ⟨⟨c,h1,h2.up l,Rep.up' l (d:=d) h3⟩,RepS.up' l (es:=ds) h4⟩
end
theorem Rep.up {r s : Gh} {d : Dat} {cs : List Value} (h : Rep r d cs) [l : Le r s] : Rep s d cs:=Rep.up' l h
theorem RepS.up {r s : Gh} {sz i : Nat} {p : Option Addr} {es : List Dat} (h : RepS r sz p i es) [l : Le r s] : RepS s sz p i es:=RepS.up' l h
theorem RepS.get {r : Gh} {sz : Nat} {p : Option Addr} : ∀ {es : List Dat} {k i : Nat} {d : Dat},RepS r sz p k es→es[i]? = some d→∃ c,c.length=sz∧CellsAt r p ((k+i)*sz) c∧Rep r d c
 |[],_,_,_,_,h=>by cases h
 |e::es,k,0,d,h,hi=>by simp only [List.getElem?_cons_zero,Option.some.injEq] at hi;subst hi;exact h.1
 |e::es,k,i+1,d,h,hi=>by
  have:=RepS.get (i:=i) h.2 hi
  rw [show k+1+i=k+(i+1) by omega] at this;exact this
theorem RepS.of {r : Gh} {sz : Nat} {p : Option Addr} : ∀ {es : List Dat} {k : Nat},(∀ i d,es[i]? = some d→∃ c,c.length=sz∧CellsAt r p ((k+i)*sz) c∧Rep r d c)→RepS r sz p k es
 |[],_,_=>trivial
 |e::es,k,h=>⟨h 0 e rfl,RepS.of (es:=es) (k:=k+1) fun i d hi=>by
  have:=h (i+1) d hi
  rw [show k+(i+1)=k+1+i by omega] at this;exact this⟩
theorem RepS.at {X : Nat→Prop} {w0 w : World} {r q : Gh} {L : List Asr} (S : StX X w0 r w L) {sz : Nat} {p : Option Addr} {es : List Dat} (h : RepS q sz p 0 es) [l : Le q r] {i : Nat} (hi : i<es.length) (hz : 0<sz) :
  ∃ b off c,p=some ⟨b,off,none⟩∧c.length=sz∧(∀ j v,c[j]? = some v→w.cell? ⟨b,off+i*sz+j,none⟩=some v)∧Rep q es[i] c:=by
 obtain ⟨c,h1,h2,h3⟩:=h.get (i:=i) (List.getElem?_eq_getElem hi)
 obtain ⟨b,off,rfl,_⟩:=h2 0 c[0] (List.getElem?_eq_getElem (by omega))
 refine ⟨b,off,c,rfl,h1,fun j v hj=>?_,h3⟩
 obtain ⟨b',off',hp,ho⟩:=h2 j v hj
 cases hp
 have:=S.at ho
 rwa [Nat.zero_add] at this
end Go.Sh
end
section
namespace Go.Sh
open Go.RowKit
section
variable {w : World} {A : (List Value→World→Prop)→Prop} {Z : Value→World→Prop} {b c : Bool}
theorem yv (hA : ∀ K : List Value→World→Prop,K [.bool c] w→A K) (hZ : Z (.bool (b&&c)) w) :
  za (fun K=>gIf (.bool b) true (A K) (K [undef] w)) fun s _ w'=>zb (.bool b) (s.getD 0 undef) (.bool false) fun t=>Z t w':=by
 intro K hK
 cases b with
 |true=>exact hA K (hK _ _ fun _=>⟨true,rfl,by simpa using hZ⟩)
 |false=>exact hK _ _ fun _=>⟨false,rfl,by simpa using hZ⟩
theorem ad6 (hA : ∀ K : List Value→World→Prop,K [.bool c] w→A K) (hZ : Z (.bool (b||c)) w) :
  za (fun K=>gIf (.bool b) false (A K) (K [undef] w)) fun s _ w'=>zb (.bool b) (.bool true) (s.getD 0 undef) fun t=>Z t w':=by
 intro K hK
 cases b with
 |true=>exact hK _ _ fun _=>⟨true,rfl,by simpa using hZ⟩
 |false=>exact hA K (hK _ _ fun _=>⟨false,rfl,by simpa using hZ⟩)
theorem zs (hA : b=true→∀ K : List Value→World→Prop,(∀ w',Ext w w'→K [.bool c] w')→A K) (hZ : ∀ w',Ext w w'→Z (.bool (b&&c)) w') :
  za (fun K=>gIf (.bool b) true (A K) (K [undef] w)) fun s _ w'=>zb (.bool b) (s.getD 0 undef) (.bool false) fun t=>Z t w':=by
 intro K hK
 cases b with
 |true=>exact hA rfl K fun w' e=>hK _ _ fun _=>⟨true,rfl,by simpa using hZ w' e⟩
 |false=>exact hK _ _ fun _=>⟨false,rfl,by simpa using hZ w (.refl w)⟩
theorem yP (hA : b=false→∀ K : List Value→World→Prop,(∀ w',Ext w w'→K [.bool c] w')→A K) (hZ : ∀ w',Ext w w'→Z (.bool (b||c)) w') :
  za (fun K=>gIf (.bool b) false (A K) (K [undef] w)) fun s _ w'=>zb (.bool b) (.bool true) (s.getD 0 undef) fun t=>Z t w':=by
 intro K hK
 cases b with
 |true=>exact hK _ _ fun _=>⟨true,rfl,by simpa using hZ w (.refl w)⟩
 |false=>exact hA rfl K fun w' e=>hK _ _ fun _=>⟨false,rfl,by simpa using hZ w' e⟩
theorem kA {K : List Value→World→Prop} {A : Prop} (hk : K [.bool (b||c)] w) (hA : b=false→K [.bool c] w→A) : zc (.bool b) (K [.bool b] w) A:=by
 cases b with
 |true=>rw [Bool.true_or] at hk;exact hk
 |false=>exact hA rfl (by rw [Bool.false_or] at hk;exact hk)
end
theorem zq {P : Program} {w : World} {K : Value→Prop} {t : TypeId} {b off n : Nat} {c : List Value} [k : LdN P t n] (hl : c.length=n) (h : ∀ j v,c[j]? = some v→w.cell? ⟨b,off+j,none⟩=some v) (hk : K (.agg c.toArray)) :
  opQ P w (Instr.loadAt t (.pointer (some ⟨b,off,none⟩))) K:=ab2 (by rw [hl];exact k.h) h hk
theorem zg {P : Program} {w : World} {K : Value→Prop} {t : TypeId} {a : Addr} {v : Value} [k : Ld1 P t] (h : w.cell? a=some v) (hk : K v) : opQ P w (Instr.loadAt t (.pointer (some a))) K:=aep k.h h hk
theorem n_some {a : Addr} {K : Value→Prop} (k : K (.pointer (some a))) : aad (.pointer (some a)) K:=alw k
end Go.Sh
end
section
namespace Go.Sh
section
variable {P : Program} {X : Nat→Prop} {w0 w w' : World} {r s : Gh} {L : List Asr} {t e : TypeId} {sz n m : Nat} {v : Value} {xs : List Value}
theorem StX.litU (S : StX X w0 r w L) {e : TypeId} {len : Nat} {parts : Array (Nat × Value)} {cs : List Value} {K : Value→World→Prop} (hT : ab5 P t len parts=some (e,cs))
  (h : ∀ b w',StX X w0 r w' (.cell b cs e::L)→K (.slice (some ⟨b,0,none⟩) len len) w') : opW P w (Instr.buildSlice t len parts) fun t' w'=>Ext w w'∧K t' w':=
 agW hT fun b w' hb e' _ B=>⟨e',h b w' (S.add e' (by omega) B)⟩
theorem StX.frz {b : Nat} {c : List Value} {T : TypeId} (S : StX X w0 r w (.cell b c T::L)) : StX X w0 (r.or (Go.Sh.one b c T)) w L:=by
 have B : Blk w b c T:=S.has _ (List.mem_cons_self ..)
 refine ⟨S.x,S.holds.or (ku B),fun x hx=>S.has x (List.mem_cons_of_mem _ hx),fun x hx k hk=>⟨(S.mine x (List.mem_cons_of_mem _ hx) k hk).1,fun o ho=>?_⟩,(List.pairwise_cons.1 S.apart).2⟩
 rcases ho with ho|⟨rfl,_⟩
 ·exact (S.mine x (List.mem_cons_of_mem _ hx) k hk).2 o ho
 ·exact (List.pairwise_cons.1 S.apart).1 x hx k rfl hk
theorem StX.take (S : StX X w0 r w L) (E : Ext w w') (h : w'.ownsRow w.heap.size e sz v n xs) : StX X w0 r w' (.row v e sz n xs::L):=by
 have S':=S.go E
 have hb : ∀ k,v.ownBlock=some k→w.heap.size≤k:=fun k hk=>by
  rcases Zo h with h0|⟨g,cap,c,h1,_,_,h2⟩
  ·rw [h0] at hk;cases hk
  ·rw [h1] at hk;cases hk;exact h2
 refine ⟨S'.x,S'.holds,?_,?_,.cons ?_ S'.apart⟩
 ·intro x hx;rcases List.mem_cons.1 hx with rfl|hx
  ·rcases h with ⟨hl,h|⟨g,cap,cur,rfl,_,hg⟩⟩
   ·exact ⟨hl,.inl h⟩
   ·exact ⟨hl,.inr ⟨g,cap,cur,rfl,Nat.zero_le _,hg⟩⟩
  ·exact S'.has x hx
 ·intro x hx;rcases List.mem_cons.1 hx with rfl|hx
  ·intro k hk
   have:=hb k hk
   exact ⟨.inl (by have:=S.x.size;omega),fun o ho=>by have:=S.holds.lt ho;omega⟩
  ·exact S'.mine x hx
 ·intro y hy k hk hk2
  have:=hb k hk
  have:=Asr.lt (S.has y hy) hk2
  omega
theorem StX.give {f : Asr→List Asr} (S : StX noX w0 r w L) (v : Value) [h : kY v L e sz n xs f] : w.ownsRow w0.heap.size e sz v n xs:=by
 obtain ⟨p,q,h2,h3⟩:=h.h
 have hx:=S.has (.row v e sz n xs) (by rw [h2];simp)
 have hm:=S.mine (.row v e sz n xs) (by rw [h2];simp)
 rcases hx with ⟨hl,hx|⟨g,cap,cur,rfl,hb,hg⟩⟩
 ·exact ⟨hl,.inl hx⟩
 ·exact ⟨hl,.inr ⟨g,cap,cur,rfl,(hm g rfl).1.resolve_right id,hg⟩⟩
theorem Ja {base : Nat} (h : w.ownsRow base e sz v n xs) : ∃ p cap,v = .slice p n cap∧(p=none→cap=0)∧n≤cap∧xs.length=n*sz∧Sl w p xs:=by
 have hl:=h.1
 rcases qD h with ⟨rfl,rfl,rfl⟩|⟨g,cap,c,rfl,hg,B,h1,_,h3,h4⟩
 ·exact ⟨none,0,rfl,fun _=>rfl,Nat.le_refl _,hl,Sl.nil _ _⟩
 ·exact ⟨_,cap,rfl,by simp,h1,hl,by rw [← h4];exact (Sl.blk B).take _⟩
theorem StX.rowS {f : Asr→List Asr} (S : StX X w0 r w L) (v : Value) [h : kY v L e sz n xs f] : ∃ p cap,v = .slice p n cap∧(p=none→cap=0)∧n≤cap∧xs.length=n*sz∧Sl w p xs:=
 Ja (S.rowSl v (h:=h))
theorem StX.row1 {f : Asr→List Asr} (S : StX X w0 r w L) (v : Value) [h : kY v L e sz n xs f] : v.oneCell'=true:=by
 obtain ⟨p,cap,rfl,_⟩:=S.rowS v (h:=h);rfl
theorem w_q {P : Program} {w : World} {s : Sem Value} {K : Value→World→Prop} (h : opQ P w s fun v=>K v w) : opW P w s K:=by
 obtain ⟨v,h1,h2⟩:=h
 exact ⟨v,w,h1 w (Ext.refl w),h2⟩
theorem akO {P : Program} {w : World} {s : Sem Value} {K : Value→World→Prop} (h : opQ P w s fun v=>K v w) : opW P w s fun v w'=>Ext w w'∧K v w':=w_q (by
 obtain ⟨v,h1,h2⟩:=h
 exact ⟨v,h1,Ext.refl w,h2⟩)
theorem StX.toRow {b : Nat} {c : List Value} (S : StX X w0 r w (.cell b c e::L)) (n sz : Nat) (hc : c.length=n*sz) (hm : n≤maxLen) : StX X w0 r w (.row (.slice (some ⟨b,0,none⟩) n n) e sz n c::L):=by
 have B : Blk w b c e:=S.has _ (List.mem_cons_self ..)
 refine S.turn (p:=[]) (x:=.cell b c e) (y:=.row _ e sz n c) (ExtBut.refl _ _) ?_ fun k hk=>.inl (by cases hk;rfl)
 have:=Z6 (base:=0) (Nat.zero_le _) B (Nat.le_refl n) hm hc
 rwa [List.take_of_length_le (by omega)] at this
end
end Go.Sh
end
section
namespace Go.Sh
open Go.RowKit
abbrev bs (l : List UInt8) : ByteArray:=⟨l.toArray⟩
theorem ab6 (l : List UInt8) : (bs l).size=l.length:=by simp [ByteArray.size]
theorem acQ (l : List UInt8) : (bs l).toList=l:=by rw [ByteArray.toList_eq]
section
variable {P : Program} {t ty : TypeId} {c : Bool} {l m : List UInt8} {a b : Int} {i j : IntKind}
theorem aiL {op : BinOp} {x y : Value} (h : (match op,x,y with|.eql,.nilIface,.nilIface=>c=true|.neq,.nilIface,.nilIface=>c=true|.eql,.agg _,.agg _=>P.eqGuardType P.depth t=false|.neq,.agg _,.agg _=>P.eqGuardType P.depth t=false|_,_,_=>True)) (w : World) :
  (zM op t c x y).run P w=(binOp op t x y).run P w:=by
 have hg : (eqG op t c x y).run P w = .ok () w:=by
  unfold eqG
  cases op<;>first|rfl|(cases x<;>first|rfl|(cases y<;>first|rfl|(subst h;rfl)|(simp only at h;simp [run_program,h])))
 rw [zM,Sem.run_bind,hg];rfl
instance [h : aiJ P t] : PStep P (Builtin.len_ #[t] ty #[.string (bs l)]) (.int .i64 l.length):=.of fun _ k=>aiG h.h (by rw [ab6];exact k)
def zQ (l : List UInt8) (n : Nat) : Int:=(l.getD n 0).toNat
instance [h : aiJ P t] : PCond P (Instr.index t (.string (bs l)) (.int i a)) (.int .u8 (zQ l a.toNat)) (0≤a∧a<l.length):=.of fun x _ k=>
 akH h.h x.1 (by rw [ab6];omega) (by
  have e : ((bs l)[a.toNat]'(by rw [ab6];omega))=l.getD a.toNat 0:=by
   rw [List.getD_eq_getElem?_getD,List.getElem?_eq_getElem (by omega)];rfl
  rw [e];exact k)
end
end Go.Sh
end
section
namespace Go.Sh
def kdN (n : Nat) : yE:=match n % 4 with|0=>.p|1=>.q|2=>.l|_=>.u
def ra : Nat→Nat→Nat→RI→RI
 |0,_,_,t=>t
 |n+1,i,c,t=>.op i (kdN c) (ra n (i+1) (c / 4) t)
abbrev rz (n i c : Nat) : RI:=ra n i c .nil
def ri : Nat→Nat→Nat→List (Nat × yE)
 |0,_,_=>[]
 |n+1,i,c=>(i,kdN c)::ri n (i+1) (c / 4)
end Go.Sh
end
section
namespace Go.Proofs
open Go.Sh
set_option maxRecDepth 100000
theorem Tryz.mixed : Tryz.prog.follows .mixedOrders=true:=by kernel_rfl
namespace Tryz
abbrev VW:=Value→World→Prop
abbrev fa (v : Value) (T : TypeId) (i : Nat) (k : Value→Prop) : Prop:=aad v fun a=>opP prog (Instr.fieldAt T a i) k
abbrev pf (T : TypeId) (v : Value) (i : Nat) (k : Value→Prop) : Prop:=opP prog (Instr.fieldAt T v i) k
abbrev lo (w : World) (T : TypeId) (v : Value) (k : Value→Prop) : Prop:=opQ prog w (Instr.loadAt T v) k
abbrev ff (w : World) (v : Value) (T : TypeId) (i : Nat) (U : TypeId) (k : Value→Prop) : Prop:=aad v fun a=>opP prog (Instr.fieldAt T a i) fun b=>opQ prog w (Instr.loadAt U b) k
abbrev fl (w : World) (v : Value) (T : TypeId) (i : Nat) (U : TypeId) (k : Value→Prop) : Prop:=opP prog (Instr.fieldAt T v i) fun b=>opQ prog w (Instr.loadAt U b) k
abbrev px (T : TypeId) (v i : Value) (k : Value→Prop) : Prop:=opP prog (Instr.indexAt T v i) k
abbrev xl (w : World) (T : TypeId) (v i : Value) (U : TypeId) (k : Value→Prop) : Prop:=opP prog (Instr.indexAt T v i) fun b=>opQ prog w (Instr.loadAt U b) k
abbrev bt (o : BinOp) (T : TypeId) (x y : Value) (k : Value→Prop) : Prop:=opP prog (zM o T true x y) k
abbrev bf (o : BinOp) (T : TypeId) (x y : Value) (k : Value→Prop) : Prop:=opP prog (zM o T false x y) k
abbrev pe (x : Value) (i : Nat) (k : Value→Prop) : Prop:=opP prog (Instr.extract x i) k
abbrev so (w : World) (T : TypeId) (x y : Value) (k : World→Prop) : Prop:=opU prog w (Instr.storeAt T x y) k
abbrev pp (s : Sem Value) (k : Value→Prop) : Prop:=opP prog s k
abbrev pq (w : World) (s : Sem Value) (k : Value→Prop) : Prop:=opQ prog w s k
abbrev pw (w : World) (s : Sem Value) (k : Value→World→Prop) : Prop:=opW prog w s k
abbrev pu (w : World) (s : Sem Unit) (k : World→Prop) : Prop:=opU prog w s k
abbrev ca (f : FuncId) (a : Array Value) (w : World) (k : Value→World→Prop) : Prop:=zd prog f a w k
abbrev cv (f : Value) (a : Array Value) (w : World) (k : Value→World→Prop) : Prop:=zH prog f a w k
abbrev i6 (n : Int) : Value:=.int .i64 n
abbrev tr_ : Value:=.bool true
abbrev fa_ : Value:=.bool false
theorem okC (m : Bool) (A : Ann) {f : FuncId} {fn : Func} {args : Array Value} {w : World} {K : VW} {X : Prop} (hf : prog.funcs[f]? = some fn) (hb : fn.body.isSome=true) (hc : chk ⟨m,false⟩ prog false A (Zn fn)=true)
  (he : sw ⟨m,false⟩ prog (fun _ _=>False) A (Zn fn) (args.toList++List.replicate (fn.ntmps - args.size) undef) w (aiu m prog fn w K)=X) (h : X) : zd prog f args w K:=
 afN (cf:=⟨m,false⟩) mixed hf hb hc (he.mpr h)
abbrev ke : FuncId:=26
abbrev qh : FuncId:=27
end Tryz
abbrev Tryz.kZ : FuncId:=119
instance : LdN Tryz.prog 93 5:=⟨by kernel_rfl⟩
instance : SzT Tryz.prog 93 5:=⟨by kernel_rfl⟩
abbrev Tryz.kP : FuncId:=145
abbrev Tryz.Zb : FuncId:=153
instance : ZrT Tryz.prog 93 [(.int .u8 0),(.bool false),(.int .i64 0),(.int .i64 0),(.slice none 0 0)]:=⟨by kernel_rfl⟩
instance : zE Tryz.prog 93 4 4:=⟨by kernel_rfl⟩
instance : Ld1 Tryz.prog 39:=⟨by kernel_rfl⟩
instance : SzT Tryz.prog 39 1:=⟨by kernel_rfl⟩
instance : SlT Tryz.prog 39 93 5:=⟨by kernel_rfl⟩
instance : Ld1 Tryz.prog 3:=⟨by kernel_rfl⟩
instance : SzT Tryz.prog 3 1:=⟨by kernel_rfl⟩
abbrev Tryz.k0 : FuncId:=112
instance : Ld1 Tryz.prog 32:=⟨by kernel_rfl⟩
instance : SzT Tryz.prog 32 1:=⟨by kernel_rfl⟩
instance : SlT Tryz.prog 32 3 1:=⟨by kernel_rfl⟩
instance : ZrT Tryz.prog 32 [(.slice none 0 0)]:=⟨by kernel_rfl⟩
abbrev Tryz.k6 : FuncId:=83
instance : Ld1 Tryz.prog 22:=⟨by kernel_rfl⟩
instance : SlT Tryz.prog 22 67 2:=⟨by kernel_rfl⟩
instance : ZrT Tryz.prog 3 [(.int .i64 0)]:=⟨by kernel_rfl⟩
instance : SlT Tryz.prog 184 79 1:=⟨by kernel_rfl⟩
instance : Ld1 Tryz.prog 79:=⟨by kernel_rfl⟩
abbrev Tryz.jc : FuncId:=118
abbrev Tryz.jU : FuncId:=143
instance : zE Tryz.prog 93 0 0:=⟨by kernel_rfl⟩
instance : Ld1 Tryz.prog 91:=⟨by kernel_rfl⟩
abbrev Tryz.kg : FuncId:=111
instance : zE Tryz.prog 93 1 1:=⟨by kernel_rfl⟩
instance : Ld1 Tryz.prog 4:=⟨by kernel_rfl⟩
instance : SzT Tryz.prog 4 1:=⟨by kernel_rfl⟩
instance : KdB Tryz.prog 4:=⟨by kernel_rfl⟩
instance : zE Tryz.prog 93 2 2:=⟨by kernel_rfl⟩
instance : zE Tryz.prog 93 3 3:=⟨by kernel_rfl⟩
abbrev Tryz.qV : FuncId:=144
instance : ApT Tryz.prog 32 3 1 8:=⟨by kernel_rfl⟩
abbrev Tryz.x6 : FuncId:=108
instance : zE Tryz.prog 67 1 1:=⟨by kernel_rfl⟩
instance : Ld1 Tryz.prog 65:=⟨by kernel_rfl⟩
instance : SlT Tryz.prog 65 156 6:=⟨by kernel_rfl⟩
instance : LdN Tryz.prog 156 6:=⟨by kernel_rfl⟩
instance : SzT Tryz.prog 156 6:=⟨by kernel_rfl⟩
abbrev Tryz.QW : FuncId:=110
instance : zE Tryz.prog 156 1 1:=⟨by kernel_rfl⟩
abbrev Tryz.x7 : FuncId:=113
abbrev Tryz.jV : FuncId:=114
instance : ArT Tryz.prog 205 32 4 1:=⟨by kernel_rfl⟩
instance : ZrT Tryz.prog 205 [(.bool false),(.bool false),(.bool false),(.bool false),(.bool false),(.bool false),(.bool false),(.bool false),(.bool false),(.bool false),(.bool false),(.bool false),(.bool false),(.bool false),(.bool false),(.bool false),(.bool false),(.bool false),(.bool false),(.bool false),(.bool false),(.bool false),(.bool false),(.bool false),(.bool false),(.bool false),(.bool false),(.bool false),(.bool false),(.bool false),(.bool false),(.bool false)]:=⟨by kernel_rfl⟩
instance : ZrT Tryz.prog 156 [(.string ByteArray.empty),(.int .u8 0),(.bool false),(.int .i64 0),(.int .i64 0),(.slice none 0 0)]:=⟨by kernel_rfl⟩
abbrev Tryz.x8 : FuncId:=115
abbrev Tryz.jk : FuncId:=116
abbrev Tryz.Zy : FuncId:=117
abbrev Tryz.xi : FuncId:=129
abbrev Tryz.vL : FuncId:=131
instance : ApT Tryz.prog 39 93 5 48:=⟨by kernel_rfl⟩
abbrev Tryz.Zz : FuncId:=132
abbrev Tryz.qE : FuncId:=148
abbrev Tryz.jl : FuncId:=149
abbrev Tryz.Y1 : FuncId:=150
abbrev Tryz.jm : FuncId:=154
abbrev Tryz.aa1 : FuncId:=161
abbrev Tryz.Zc : FuncId:=47
instance : LdN Tryz.prog 25 3:=⟨by kernel_rfl⟩
instance : SzT Tryz.prog 25 3:=⟨by kernel_rfl⟩
abbrev Tryz.ZA : FuncId:=64
instance : zE Tryz.prog 25 0 0:=⟨by kernel_rfl⟩
instance : zE Tryz.prog 25 1 1:=⟨by kernel_rfl⟩
instance : Ld1 Tryz.prog 23:=⟨by kernel_rfl⟩
instance : SlT Tryz.prog 23 43 7:=⟨by kernel_rfl⟩
instance : LdN Tryz.prog 43 7:=⟨by kernel_rfl⟩
instance : SzT Tryz.prog 43 7:=⟨by kernel_rfl⟩
instance : zE Tryz.prog 25 2 2:=⟨by kernel_rfl⟩
instance : ZrT Tryz.prog 43 [(.string ByteArray.empty),(.int .i64 0),(.slice none 0 0),(.int .i64 0),(.slice none 0 0),(.slice none 0 0),(.slice none 0 0)]:=⟨by kernel_rfl⟩
instance : LdN Tryz.prog 147 10:=⟨by kernel_rfl⟩
instance : SzT Tryz.prog 147 10:=⟨by kernel_rfl⟩
instance : ZrT Tryz.prog 147 [(.slice none 0 0),(.slice none 0 0),(.int .i64 0),(.string ByteArray.empty),(.int .i64 0),(.slice none 0 0),(.int .i64 0),(.slice none 0 0),(.slice none 0 0),(.slice none 0 0)]:=⟨by kernel_rfl⟩
instance : zE Tryz.prog 43 6 6:=⟨by kernel_rfl⟩
instance : Ld1 Tryz.prog 41:=⟨by kernel_rfl⟩
instance : SlT Tryz.prog 41 64 21:=⟨by kernel_rfl⟩
instance : LdN Tryz.prog 64 21:=⟨by kernel_rfl⟩
instance : SzT Tryz.prog 64 21:=⟨by kernel_rfl⟩
instance : ZrT Tryz.prog 64 [(.int .u8 0),(.int .i64 0),(.slice none 0 0),(.int .u8 0),(.int .i64 0),(.int .i64 0),(.slice none 0 0),(.int .u8 0),(.int .i64 0),(.int .i64 0),(.slice none 0 0),(.slice none 0 0),(.string ByteArray.empty),(.int .i64 0),(.slice none 0 0),(.bool false),(.int .i64 0),(.int .i64 0),(.int .i64 0),(.int .i64 0),(.int .i64 0)]:=⟨by kernel_rfl⟩
abbrev Tryz.zu : FuncId:=123
instance : LdN Tryz.prog 189 7:=⟨by kernel_rfl⟩
instance : SzT Tryz.prog 189 7:=⟨by kernel_rfl⟩
instance : ZrT Tryz.prog 189 [(.int .u8 0),(.bool false),(.int .i64 0),(.int .i64 0),(.slice none 0 0),(.int .i64 0),(.bool false)]:=⟨by kernel_rfl⟩
instance : zE Tryz.prog 58 0 0:=⟨by kernel_rfl⟩
instance : zE Tryz.prog 147 1 3:=⟨by kernel_rfl⟩
instance : zE Tryz.prog 43 4 4:=⟨by kernel_rfl⟩
instance : PStep Tryz.prog (Instr.build 189 #[]) (.agg #[(.int .u8 0),(.bool false),(.int .i64 0),(.int .i64 0),(.slice none 0 0),(.int .i64 0),(.bool false)]):=.of fun _ k=>zy (by kernel_rfl) k
instance : zE Tryz.prog 58 1 1:=⟨by kernel_rfl⟩
instance : Ld1 Tryz.prog 56:=⟨by kernel_rfl⟩
instance : SlT Tryz.prog 56 90 1:=⟨by kernel_rfl⟩
instance : Ld1 Tryz.prog 90:=⟨by kernel_rfl⟩
instance {x0_0 : Value} {x0_1 : Value} {x0_2 : Value} {x0_3 : Value} {x0_4 : Value} {x2_0 : Bool} : PStep Tryz.prog (Instr.build 189 #[(0,.agg #[x0_0,x0_1,x0_2,x0_3,x0_4]),(2,.bool x2_0)]) (.agg #[x0_0,x0_1,x0_2,x0_3,x0_4,(.int .i64 0),.bool x2_0]):=.of fun _ k=>zy (by kernel_rfl) k
instance : zE Tryz.prog 189 0 0:=⟨by kernel_rfl⟩
instance : zE Tryz.prog 189 1 5:=⟨by kernel_rfl⟩
instance : zE Tryz.prog 147 0 0:=⟨by kernel_rfl⟩
abbrev Tryz.Yk : FuncId:=84
instance : zE Tryz.prog 43 1 1:=⟨by kernel_rfl⟩
instance : zE Tryz.prog 43 3 3:=⟨by kernel_rfl⟩
instance : zE Tryz.prog 43 5 5:=⟨by kernel_rfl⟩
instance : Ld1 Tryz.prog 40:=⟨by kernel_rfl⟩
instance : SlT Tryz.prog 40 9 1:=⟨by kernel_rfl⟩
instance : Ld1 Tryz.prog 9:=⟨by kernel_rfl⟩
instance : aiJ Tryz.prog 9:=⟨by kernel_rfl⟩
instance : zE Tryz.prog 64 0 0:=⟨by kernel_rfl⟩
instance : Ld1 Tryz.prog 55:=⟨by kernel_rfl⟩
abbrev Tryz.kR : FuncId:=85
instance : zE Tryz.prog 64 12 20:=⟨by kernel_rfl⟩
instance : zE Tryz.prog 64 10 18:=⟨by kernel_rfl⟩
instance : zE Tryz.prog 64 1 1:=⟨by kernel_rfl⟩
instance : LdN Tryz.prog 58 2:=⟨by kernel_rfl⟩
instance : SzT Tryz.prog 58 2:=⟨by kernel_rfl⟩
instance : zE Tryz.prog 64 6 13:=⟨by kernel_rfl⟩
instance : zE Tryz.prog 189 2 6:=⟨by kernel_rfl⟩
instance : zE Tryz.prog 64 2 3:=⟨by kernel_rfl⟩
instance : LdN Tryz.prog 61 4:=⟨by kernel_rfl⟩
instance : SzT Tryz.prog 61 4:=⟨by kernel_rfl⟩
instance : zE Tryz.prog 64 3 7:=⟨by kernel_rfl⟩
instance {x0_0 : Bool} {x1_0 : Bool} : PStep Tryz.prog (Instr.build 196 #[(0,.bool x0_0),(1,.bool x1_0)]) (.agg #[.bool x0_0,.bool x1_0,(.bool false),(.bool false),(.bool false),(.bool false),(.bool false),(.bool false),(.bool false),(.bool false)]):=.of fun _ k=>zy (by kernel_rfl) k
instance {x0_0 : Bool} {x1_0 : Bool} {x2_0 : Bool} {x4_0 : Bool} : PStep Tryz.prog (Instr.build 196 #[(0,.bool x0_0),(1,.bool x1_0),(2,.bool x2_0),(4,.bool x4_0)]) (.agg #[.bool x0_0,.bool x1_0,.bool x2_0,(.bool false),.bool x4_0,(.bool false),(.bool false),(.bool false),(.bool false),(.bool false)]):=.of fun _ k=>zy (by kernel_rfl) k
instance : zE Tryz.prog 64 5 12:=⟨by kernel_rfl⟩
instance {x0_0 : Bool} {x1_0 : Bool} {x4_0 : Bool} : PStep Tryz.prog (Instr.build 196 #[(0,.bool x0_0),(1,.bool x1_0),(4,.bool x4_0)]) (.agg #[.bool x0_0,.bool x1_0,(.bool false),(.bool false),.bool x4_0,(.bool false),(.bool false),(.bool false),(.bool false),(.bool false)]):=.of fun _ k=>zy (by kernel_rfl) k
instance {x0_0 : Bool} {x5_0 : Bool} {x6_0 : Bool} : PStep Tryz.prog (Instr.build 196 #[(0,.bool x0_0),(5,.bool x5_0),(6,.bool x6_0)]) (.agg #[.bool x0_0,(.bool false),(.bool false),(.bool false),(.bool false),.bool x5_0,.bool x6_0,(.bool false),(.bool false),(.bool false)]):=.of fun _ k=>zy (by kernel_rfl) k
instance : zE Tryz.prog 64 7 15:=⟨by kernel_rfl⟩
instance {x0_0 : Bool} {x3_0 : Bool} {x8_0 : Bool} : PStep Tryz.prog (Instr.build 196 #[(0,.bool x0_0),(3,.bool x3_0),(8,.bool x8_0)]) (.agg #[.bool x0_0,(.bool false),(.bool false),.bool x3_0,(.bool false),(.bool false),(.bool false),(.bool false),.bool x8_0,(.bool false)]):=.of fun _ k=>zy (by kernel_rfl) k
instance : zE Tryz.prog 64 9 17:=⟨by kernel_rfl⟩
instance {x0_0 : Bool} {x3_0 : Bool} {x7_0 : Bool} : PStep Tryz.prog (Instr.build 196 #[(0,.bool x0_0),(3,.bool x3_0),(7,.bool x7_0)]) (.agg #[.bool x0_0,(.bool false),(.bool false),.bool x3_0,(.bool false),(.bool false),(.bool false),.bool x7_0,(.bool false),(.bool false)]):=.of fun _ k=>zy (by kernel_rfl) k
instance : zE Tryz.prog 64 8 16:=⟨by kernel_rfl⟩
instance {x0_0 : Bool} : PStep Tryz.prog (Instr.build 196 #[(0,.bool x0_0)]) (.agg #[.bool x0_0,(.bool false),(.bool false),(.bool false),(.bool false),(.bool false),(.bool false),(.bool false),(.bool false),(.bool false)]):=.of fun _ k=>zy (by kernel_rfl) k
instance {x1_0 : Bool} : PStep Tryz.prog (Instr.build 196 #[(1,.bool x1_0)]) (.agg #[(.bool false),.bool x1_0,(.bool false),(.bool false),(.bool false),(.bool false),(.bool false),(.bool false),(.bool false),(.bool false)]):=.of fun _ k=>zy (by kernel_rfl) k
instance {x5_0 : Bool} : PStep Tryz.prog (Instr.build 196 #[(5,.bool x5_0)]) (.agg #[(.bool false),(.bool false),(.bool false),(.bool false),(.bool false),.bool x5_0,(.bool false),(.bool false),(.bool false),(.bool false)]):=.of fun _ k=>zy (by kernel_rfl) k
instance {x1_0 : Bool} {x9_0 : Bool} : PStep Tryz.prog (Instr.build 196 #[(1,.bool x1_0),(9,.bool x9_0)]) (.agg #[(.bool false),.bool x1_0,(.bool false),(.bool false),(.bool false),(.bool false),(.bool false),(.bool false),(.bool false),.bool x9_0]):=.of fun _ k=>zy (by kernel_rfl) k
instance : zE Tryz.prog 64 11 19:=⟨by kernel_rfl⟩
instance : PStep Tryz.prog (Instr.build 196 #[]) (.agg #[(.bool false),(.bool false),(.bool false),(.bool false),(.bool false),(.bool false),(.bool false),(.bool false),(.bool false),(.bool false)]):=.of fun _ k=>zy (by kernel_rfl) k
abbrev Tryz.ab7 : FuncId:=120
abbrev Tryz.ju : FuncId:=121
instance : ArT Tryz.prog 161 8 160 8:=⟨by kernel_rfl⟩
instance : ZrT Tryz.prog 161 [(.bool false),(.bool false),(.bool false),(.bool false),(.bool false),(.bool false),(.bool false),(.bool false),(.bool false),(.bool false),(.bool false),(.bool false),(.bool false),(.bool false),(.bool false),(.bool false),(.bool false),(.bool false),(.bool false),(.bool false),(.bool false),(.bool false),(.bool false),(.bool false),(.bool false),(.bool false),(.bool false),(.bool false),(.bool false),(.bool false),(.bool false),(.bool false),(.bool false),(.bool false),(.bool false),(.bool false),(.bool false),(.bool false),(.bool false),(.bool false),(.bool false),(.bool false),(.bool false),(.bool false),(.bool false),(.bool false),(.bool false),(.bool false),(.bool false),(.bool false),(.bool false),(.bool false),(.bool false),(.bool false),(.bool false),(.bool false),(.bool false),(.bool false),(.bool false),(.bool false),(.bool false),(.bool false),(.bool false),(.bool false)]:=⟨by kernel_rfl⟩
instance : zE Tryz.prog 43 2 2:=⟨by kernel_rfl⟩
instance : Ld1 Tryz.prog 38:=⟨by kernel_rfl⟩
instance : SlT Tryz.prog 38 165 2:=⟨by kernel_rfl⟩
instance : LdN Tryz.prog 165 2:=⟨by kernel_rfl⟩
instance : SzT Tryz.prog 165 2:=⟨by kernel_rfl⟩
instance : ZrT Tryz.prog 165 [(.int .i64 0),(.int .i64 0)]:=⟨by kernel_rfl⟩
instance : zE Tryz.prog 165 0 0:=⟨by kernel_rfl⟩
instance : zE Tryz.prog 165 1 1:=⟨by kernel_rfl⟩
instance : ArT Tryz.prog 160 8 4 1:=⟨by kernel_rfl⟩
abbrev Tryz.jD : FuncId:=122
abbrev Tryz.yJ : FuncId:=124
instance : zE Tryz.prog 61 0 0:=⟨by kernel_rfl⟩
instance : Ld1 Tryz.prog 59:=⟨by kernel_rfl⟩
instance {x0_0 : Int} : PStep Tryz.prog (Instr.build 93 #[(0,.int .u8 x0_0)]) (.agg #[.int .u8 x0_0,(.bool false),(.int .i64 0),(.int .i64 0),(.slice none 0 0)]):=.of fun _ k=>zy (by kernel_rfl) k
instance : zE Tryz.prog 61 2 2:=⟨by kernel_rfl⟩
instance : zE Tryz.prog 61 1 1:=⟨by kernel_rfl⟩
instance : Ld1 Tryz.prog 2:=⟨by kernel_rfl⟩
instance : PStep Tryz.prog (Instr.build 93 #[]) (.agg #[(.int .u8 0),(.bool false),(.int .i64 0),(.int .i64 0),(.slice none 0 0)]):=.of fun _ k=>zy (by kernel_rfl) k
abbrev Tryz.jE : FuncId:=125
abbrev Tryz.jF : FuncId:=126
instance : zE Tryz.prog 64 4 11:=⟨by kernel_rfl⟩
instance : Ld1 Tryz.prog 62:=⟨by kernel_rfl⟩
instance : SlT Tryz.prog 62 61 4:=⟨by kernel_rfl⟩
abbrev Tryz.qT : FuncId:=128
abbrev Tryz.zT : FuncId:=130
instance : zE Tryz.prog 196 0 0:=⟨by kernel_rfl⟩
instance : zE Tryz.prog 196 1 1:=⟨by kernel_rfl⟩
instance : zE Tryz.prog 196 2 2:=⟨by kernel_rfl⟩
instance : zE Tryz.prog 196 3 3:=⟨by kernel_rfl⟩
instance : zE Tryz.prog 196 4 4:=⟨by kernel_rfl⟩
instance : zE Tryz.prog 196 5 5:=⟨by kernel_rfl⟩
instance : zE Tryz.prog 196 6 6:=⟨by kernel_rfl⟩
instance : zE Tryz.prog 196 7 7:=⟨by kernel_rfl⟩
instance : zE Tryz.prog 196 8 8:=⟨by kernel_rfl⟩
instance : zE Tryz.prog 196 9 9:=⟨by kernel_rfl⟩
abbrev Tryz.jW : FuncId:=146
instance : Ld1 Tryz.prog 81:=⟨by kernel_rfl⟩
instance : SzT Tryz.prog 81 1:=⟨by kernel_rfl⟩
instance : ZrT Tryz.prog 81 [.nilFunc]:=⟨by kernel_rfl⟩
abbrev Tryz.xu : FuncId:=147
abbrev Tryz.XL : FuncId:=151
abbrev Tryz.ZW : FuncId:=159
instance : Ld1 Tryz.prog 163:=⟨by kernel_rfl⟩
abbrev Tryz.Z7 : FuncId:=134
abbrev Tryz.xv : FuncId:=155
abbrev Tryz.k7 : FuncId:=94
abbrev Tryz.vM : FuncId:=105
abbrev Tryz.ZB : FuncId:=107
abbrev Tryz.qF : FuncId:=136
abbrev Tryz.Zd : FuncId:=139
abbrev Tryz.Ze : FuncId:=140
abbrev Tryz.jn : FuncId:=141
abbrev Tryz.jX : FuncId:=158
abbrev Tryz.jo : FuncId:=162
abbrev Tryz.jY : FuncId:=163
instance : Ld1 Tryz.prog 52:=⟨by kernel_rfl⟩
instance : SzT Tryz.prog 52 1:=⟨by kernel_rfl⟩
instance : SlT Tryz.prog 52 4 1:=⟨by kernel_rfl⟩
instance : ApT Tryz.prog 52 4 1 1:=⟨by kernel_rfl⟩
instance : ZrT Tryz.prog 4 [(.bool false)]:=⟨by kernel_rfl⟩
abbrev Tryz.jp : FuncId:=164
abbrev Tryz.zP : FuncId:=46
abbrev Tryz.yF : FuncId:=63
abbrev Tryz.zL : FuncId:=109
abbrev Tryz.zX : FuncId:=127
instance : ZrT Tryz.prog 61 [(.int .u8 0),(.int .i64 0),(.int .i64 0),(.slice none 0 0)]:=⟨by kernel_rfl⟩
abbrev Tryz.yY : FuncId:=142
abbrev Tryz.xa : FuncId:=152
abbrev Tryz.qi : FuncId:=160
abbrev Tryz.Yl : FuncId:=137
abbrev Tryz.k8 : FuncId:=77
abbrev Tryz.ZC : FuncId:=156
abbrev Tryz.jZ : FuncId:=157
abbrev Tryz.yQ : FuncId:=91
abbrev Tryz.j0 : FuncId:=92
abbrev Tryz.jq : FuncId:=93
abbrev Tryz.Qb : FuncId:=10
abbrev Tryz.Xv : FuncId:=29
abbrev Tryz.ZD : FuncId:=54
abbrev Tryz.Ym : FuncId:=78
abbrev Tryz.kS : FuncId:=79
instance : zE Tryz.prog 142 1 3:=⟨by kernel_rfl⟩
instance : zE Tryz.prog 142 0 0:=⟨by kernel_rfl⟩
abbrev Tryz.Yn : FuncId:=95
abbrev Tryz.jv : FuncId:=96
abbrev Tryz.yK : FuncId:=97
abbrev Tryz.yL : FuncId:=98
instance {x1_0 : Option Addr} {x1_0_l : Nat} {x1_0_c : Nat} : PStep Tryz.prog (Instr.build 58 #[(1,.slice x1_0 x1_0_l x1_0_c)]) (.agg #[(.int .i64 0),.slice x1_0 x1_0_l x1_0_c]):=.of fun _ k=>zy (by kernel_rfl) k
abbrev Tryz.zN : FuncId:=99
abbrev Tryz.yG : FuncId:=100
abbrev Tryz.Yo : FuncId:=101
abbrev Tryz.zI : FuncId:=102
abbrev Tryz.vO : FuncId:=103
abbrev Tryz.kh : FuncId:=104
abbrev Tryz.xP : FuncId:=106
abbrev Tryz.yy : FuncId:=135
abbrev Tryz.xD : FuncId:=138
abbrev Tryz.qW : FuncId:=61
abbrev Tryz.k9 : FuncId:=82
abbrev Tryz.Yp : FuncId:=55
abbrev Tryz.jw : FuncId:=32
instance : ApT Tryz.prog 62 61 4 48:=⟨by kernel_rfl⟩
abbrev Tryz.qc : FuncId:=33
abbrev Tryz.Qc : FuncId:=40
instance : Ld1 Tryz.prog 116:=⟨by kernel_rfl⟩
instance : SlT Tryz.prog 116 32 1:=⟨by kernel_rfl⟩
abbrev Tryz.Jb : FuncId:=57
instance : ApT Tryz.prog 116 32 1 24:=⟨by kernel_rfl⟩
abbrev Tryz.qG : FuncId:=58
abbrev Tryz.aah : FuncId:=80
abbrev Tryz.Yq : FuncId:=30
abbrev Tryz.xo : FuncId:=59
abbrev Tryz.xX : FuncId:=81
abbrev Tryz.xY : FuncId:=60
end Go.Proofs
end
section
namespace Go.Proofs.Tryz
open Go.Sh
set_option maxRecDepth 100000
def VN (t0 : Value) (w : World) (K : VW) : Prop:=
 pw w (Instr.box 25 t0) fun t1 w1=>
 lo w1 25 t1 fun t7=>ca ZA #[t7] w1 fun t8 w2=>
 pe t8 0 fun _t9=>pe t8 1 fun _t10=>pe t8 2 fun t11=>bt .eql 29 t11 (i6 0) fun t13=>K t13 w2
theorem aez {t0 : Value} {w : World} {K : VW} (h : VN t0 w K) : zd prog Zc #[t0] w K:=
 okC false (.s (.r (rz 2 0 2)) (.s (.r (rz 9 0 9)) (.s (.r (rz 3 0 0)) (.n)))) func47 rfl (by kernel_rfl) (by kernel_rfl) h
def QD (t0 : Value) (w : World) (K : VW) : Prop:=
 pw w (Instr.box 25 t0) fun t1 w1=>
 fl w1 t1 25 0 22 fun t15=>ca k6 #[t15] w1 fun t16 w2=>
 pe t16 0 fun _t17=>pe t16 1 fun t18=>bt .neq 29 t18 (i6 0) fun t20=>za (fun K3=>gIf t20 false (fl w2 t1 25 1 23 fun t23=>pp (Builtin.len_ #[23] 3 #[t23]) fun t24=>bt .lss 3 t24 (i6 1) fun t25=>K3 [t25] w2) (K3 [undef] w2)) (fun s4 _d5 w6=>
 zb t20 tr_ (s4.getD 0 undef) fun t26=>za (fun K7=>gIf t26 false (fl w6 t1 25 1 23 fun t29=>pp (Builtin.len_ #[23] 3 #[t29]) fun t30=>bt .gtr 3 t30 (i6 32) fun t31=>K7 [t31] w6) (K7 [undef] w6)) (fun s8 _d9 w10=>
 zb t26 tr_ (s8.getD 0 undef) fun t32=>za (fun K11=>gIf t32 false (fl w10 t1 25 2 3 fun t35=>bt .lss 3 t35 (i6 0) fun t36=>K11 [t36] w10) (K11 [undef] w10)) (fun s12 _d13 w14=>
 zb t32 tr_ (s12.getD 0 undef) fun t37=>za (fun K15=>gIf t37 false (fl w14 t1 25 2 3 fun t40=>fl w14 t1 25 1 23 fun t42=>pp (Builtin.len_ #[23] 3 #[t42]) fun t43=>bf .geq 3 t40 t43 fun t44=>K15 [t44] w14) (K15 [undef] w14)) (fun s16 _d17 w18=>
 zb t37 tr_ (s16.getD 0 undef) fun t45=>zc t45 (K (.tuple #[(i6 (-1)),(i6 (-1)),(i6 100)]) w18) (fl w18 t1 25 1 23 fun t47=>pp (Builtin.len_ #[23] 3 #[t47]) fun t48=>zo [(i6 0),(i6 0),(i6 0)] w18 (fun s20 _d21 w22 K19=>
 bf .lss 3 (s20.getD 2 undef) t48 fun t50=>zc t50 (lo w22 25 t1 fun t52=>ca Yk #[t52,(s20.getD 2 undef)] w22 fun t54 w23=>
 pp (Op.unary .not t54) fun t55=>zc t55 (K (.tuple #[(s20.getD 2 undef),(i6 (-1)),(i6 100)]) w23) (bt .add 3 (s20.getD 2 undef) (i6 1) fun t57=>K19 [(s20.getD 2 undef),(s20.getD 1 undef),t57] w23)) (za (fun K24=>
 fl w22 t1 25 1 23 fun t59=>pp (Builtin.len_ #[23] 3 #[t59]) fun t60=>zo [(s20.getD 0 undef),(s20.getD 1 undef),fa_,(i6 0)] w22 (fun s29 _d30 w31 K28=>
 bf .lss 3 (s29.getD 3 undef) t60 fun t62=>zc t62 (xl w31 23 t59 (s29.getD 3 undef) 43 fun t65=>pw w31 (Instr.alloc 43 true (.tuple #[])) fun t9 w32=>
 so w32 43 t9 t65 fun w33=>lo w33 25 t1 fun t66=>lo w33 43 t9 fun t67=>pp (Instr.build 147 #[(0,t66),(1,t67)]) fun t68=>pw w33 (Instr.alloc 147 true (.tuple #[])) fun t10 w34=>
 so w34 147 t10 t68 fun w35=>fl w35 t9 43 6 41 fun t70=>pp (Builtin.len_ #[41] 3 #[t70]) fun t71=>zo [(s29.getD 0 undef),(s29.getD 1 undef),(s29.getD 2 undef),(i6 0)] w35 (fun s37 _d38 w39 K36=>
 bf .lss 3 (s37.getD 3 undef) t71 fun t73=>zc t73 (xl w39 41 t70 (s37.getD 3 undef) 64 fun t76=>pw w39 (Instr.alloc 64 true (.tuple #[])) fun t12 w40=>
 so w40 64 t12 t76 fun w41=>lo w41 147 t10 fun t77=>lo w41 64 t12 fun t78=>ca kR #[t77,t78] w41 fun t79 w42=>
 pp (Op.unary .not t79) fun t80=>zc t80 (K24 [(s29.getD 3 undef),(s37.getD 3 undef),tr_] w42) (bt .add 3 (s37.getD 3 undef) (i6 1) fun t83=>K36 [(s37.getD 0 undef),(s37.getD 1 undef),(s37.getD 2 undef),t83] w42)) (bt .add 3 (s29.getD 3 undef) (i6 1) fun t84=>K28 [(s37.getD 0 undef),(s37.getD 1 undef),(s37.getD 2 undef),t84] w39))) (K24 [(s29.getD 0 undef),(s29.getD 1 undef),(s29.getD 2 undef)] w31))) (fun s25 _d26 w27=>
 zc (s25.getD 2 undef) (K (.tuple #[(s25.getD 0 undef),(s25.getD 1 undef),(i6 100)]) w27) (K (.tuple #[(i6 0),(i6 0),(i6 0)]) w27)))))))))
theorem ab8 {t0 : Value} {w : World} {K : VW} (h : QD t0 w K) : zd prog ZA #[t0] w K:=
 okC false (.s (.r (rz 4 0 2)) (.b (.s (.s (.r (rz 8 0 36)) (.s (.r (ra 3 0 0 (.grp 21 false (ri 4 3 4) [25] (ra 2 7 0 (.grp 27 false (ri 4 9 4) [31] (ra 2 13 0 (.grp 33 false (ri 3 15 4) [36] (ra 2 18 0 (.grp 38 false (ri 6 20 68) [44] (rz 1 26 0)))))))))) (.c (.s (.r (rz 3 0 0)) (.n)) (.n)))) (.s (.s (.r (rz 4 0 4)) (.b (.lp [2,3,49] (.s (.r (rz 1 0 0)) (.s (.c (.n) (.n)) (.s (.b (.s (.r (rz 2 0 0)) (.s (.r (rz 4 0 33)) (.c (.s (.r (rz 4 0 0)) (.n)) (.n))))) (.r (rz 2 0 0)))))))) (.s (.r (rz 1 0 0)) (.s (.n) (.j [2,3,7] (.s (.r (rz 4 0 4)) (.b (.lp [2,3,7,61] (.s (.r (rz 1 0 0)) (.s (.c (.n) (.n)) (.s (.b (.s (.r (rz 6 0 2192)) (.s (.r (rz 5 0 645)) (.s (.r (rz 4 0 4)) (.b (.lp [2,3,7,72] (.s (.r (rz 1 0 0)) (.s (.c (.n) (.n)) (.s (.b (.s (.r (rz 6 0 2192)) (.s (.r (rz 4 0 37)) (.c (.s (.r (rz 5 0 0)) (.n)) (.n))))) (.r (rz 2 0 0))))))))))) (.r (rz 2 0 0)))))))) (.s (.s (.r (rz 1 0 0)) (.c (.s (.r (rz 5 0 0)) (.n)) (.n))) (.s (.r (rz 3 0 0)) (.n)))))))))) func64 rfl (by kernel_rfl) (by kernel_rfl) h
def Zq (t0 t1 : Value) (w : World) (K : VW) : Prop:=
 pw w (Instr.box 147 t0) fun t2 w1=>
 pw w1 (Instr.box 58 t1) fun t3 w2=>
 pw w2 (Instr.alloc 189 true (.tuple #[])) fun t4 w3=>
 fl w3 t3 58 0 3 fun t11=>bt .lss 3 t11 (i6 0) fun t12=>za (fun K4=>gIf t12 false (fl w3 t3 58 0 3 fun t15=>pf 147 t2 1 fun t16=>fl w3 t16 43 4 39 fun t18=>pp (Builtin.len_ #[39] 3 #[t18]) fun t19=>bf .geq 3 t15 t19 fun t20=>K4 [t20] w3) (K4 [undef] w3)) (fun s5 _d6 w7=>
 zb t12 tr_ (s5.getD 0 undef) fun t21=>zc t21 (pp (Instr.build 189 #[]) fun t22=>so w7 189 t4 t22 fun w8=>pq w8 (zn 189 t4) fun r9=>K r9 w8) (pf 147 t2 1 fun t23=>fl w7.drew t23 43 4 39 fun t25=>fl w7.drew t3 58 0 3 fun t27=>xl w7.drew 39 t25 t27 93 fun t29=>fl w7.drew t3 58 1 56 fun t31=>pp (Builtin.len_ #[56] 3 #[t31]) fun t32=>bt .leq 3 t32 (i6 8) fun t33=>pp (Instr.build 189 #[(0,t29),(2,t33)]) fun t34=>pw w7.drew (Instr.alloc 189 true (.tuple #[])) fun t5 w10=>
 Ext w7.drew w10∧
 so w10 189 t5 t34 fun w11=>fl w11 t3 58 1 56 fun t36=>pp (Builtin.len_ #[56] 3 #[t36]) fun t37=>zo [(i6 0)] w11 (fun s13 _d14 w15 K12=>
 bf .lss 3 (s13.getD 0 undef) t37 fun t39=>zc t39 (za (fun K16=>
 xl w15 56 t36 (s13.getD 0 undef) 90 fun t41=>fl w15 t5 189 0 93 fun t43=>pw w15 (Instr.alloc 93 true (.tuple #[])) fun t8 w20=>
 so w20 93 t8 t43 fun w21=>bt .eql 90 t41 (i6 (-1)) fun t47=>za (fun K22=>gIf t47 true (fl w21 t8 93 0 91 fun t50=>bt .eql 91 t50 (Value.int .u8 3) fun t51=>K22 [t51] w21) (K22 [undef] w21)) (fun s23 _d24 w25=>
 zb t47 (s23.getD 0 undef) fa_ fun t52=>zc t52 (fl w25 t5 189 1 3 fun t54=>pp (Builtin.max_ #[3,3] 3 #[t54,(i6 1)]) fun t55=>pf 189 t5 1 fun t56=>so w25 3 t56 t55 fun w26=>fl w26 t8 93 4 39 fun t58=>xl w26 39 t58 (i6 0) 93 fun t60=>pf 189 t5 0 fun t61=>so w26 93 t61 t60 fun w27=>K16 [] w27) (bt .eql 90 t41 (i6 (-1)) fun t64=>za (fun K28=>gIf t64 true (fl w25 t8 93 0 91 fun t67=>bt .eql 91 t67 (Value.int .u8 4) fun t68=>K28 [t68] w25) (K28 [undef] w25)) (fun s29 _d30 w31=>
 zb t64 (s29.getD 0 undef) fa_ fun t69=>zc t69 (za (fun K32=>
 fl w31 t8 93 1 4 fun t71=>zc t71 (K32 [(i6 2)] w31) (K32 [(i6 3)] w31)) (fun s33 _d34 w35=>
 fl w35 t5 189 1 3 fun t73=>pp (Builtin.max_ #[3,3] 3 #[t73,(s33.getD 0 undef)]) fun t75=>pf 189 t5 1 fun t76=>so w35 3 t76 t75 fun w36=>fl w36 t8 93 4 39 fun t78=>xl w36 39 t78 (i6 0) 93 fun t80=>pf 189 t5 0 fun t81=>so w36 93 t81 t80 fun w37=>K16 [] w37)) (bt .geq 90 t41 (i6 0) fun t84=>za (fun K38=>gIf t84 true (fl w31 t8 93 0 91 fun t87=>bt .eql 91 t87 (Value.int .u8 5) fun t88=>K38 [t88] w31) (K38 [undef] w31)) (fun s39 _d40 w41=>
 zb t84 (s39.getD 0 undef) fa_ fun t89=>za (fun K42=>gIf t89 true (pf 147 t2 0 fun t92=>fl w41 t92 25 0 22 fun t94=>fl w41 t8 93 3 3 fun t96=>px 22 t94 t96 fun t97=>fl w41 t97 67 1 65 fun t99=>pp (Builtin.len_ #[65] 3 #[t99]) fun t100=>bf .lss 3 t41 t100 fun t101=>K42 [t101] w41) (K42 [undef] w41)) (fun s43 _d44 w45=>
 zb t89 (s43.getD 0 undef) fa_ fun t102=>zc t102 (pf 147 t2 0 fun t103=>fl w45 t103 25 0 22 fun t105=>fl w45 t8 93 3 3 fun t107=>px 22 t105 t107 fun t108=>fl w45 t108 67 1 65 fun t110=>px 65 t110 t41 fun t112=>fl w45 t112 156 1 93 fun t114=>pf 189 t5 0 fun t115=>so w45 93 t115 t114 fun w46=>K16 [] w46) (pp (Instr.build 189 #[]) fun t44=>so w45 189 t4 t44 fun w47=>pq w47 (zn 189 t4) fun r48=>K r48 w47)))))))) (fun _s17 _d18 w19=>
 bt .add 3 (s13.getD 0 undef) (i6 1) fun t116=>K12 [t116] w19)) (lo w15 189 t5 fun t117=>so w15 189 t4 t117 fun w49=>pq w49 (zn 189 t4) fun r50=>K r50 w49))))
theorem QX {t0 t1 : Value} {w : World} {K : VW} (h : Zq t0 t1 w K) : zd prog zu #[t0,t1] w K:=
 okC false (.s (.r (rz 3 0 42)) (.s (.s (.r (ra 4 0 4 (.grp 13 false (ri 7 4 260) [20] (rz 1 11 0)))) (.c (.s (.r (rz 2 0 8)) (.n)) (.n))) (.s (.r (rz 14 0 184619280)) (.s (.s (.r (rz 4 0 4)) (.b (.lp [38] (.s (.r (rz 1 0 0)) (.s (.c (.n) (.n)) (.j [] (.b (.s (.r (rz 3 0 4)) (.s (.r (rz 4 0 164)) (.b (.s (.r (ra 3 0 0 (.grp 48 true (ri 3 3 4) [51] (rz 2 6 0)))) (.c (.s (.r (rz 5 0 516)) (.r (rz 6 0 2116))) (.s (.r (ra 3 0 0 (.grp 65 true (ri 3 3 4) [68] (rz 2 6 0)))) (.c (.s (.r (rz 1 0 0)) (.j [9] (.s (.r (rz 2 0 4)) (.c (.r (rz 1 0 0)) (.n))) (.s (.r (rz 6 0 2052)) (.r (rz 6 0 2116))))) (.s (.r (ra 3 0 0 (.grp 85 true (ri 3 3 4) [88] (ra 2 6 0 (.grp 90 true (ri 11 8 66624) [101] (rz 2 19 0)))))) (.c (.r (rz 14 0 138428688)) (.s (.r (rz 2 0 8)) (.n)))))))))))) (.r (rz 2 0 0)))))))) (.s (.r (rz 2 0 9)) (.n)))))) func123 rfl (by kernel_rfl) (by kernel_rfl) h
def Jc (t0 t1 : Value) (w : World) (K : VW) : Prop:=
 pw w (Instr.box 25 t0) fun t2 w1=>
 fl w1 t2 25 1 23 fun t13=>xl w1 23 t13 t1 43 fun t16=>pw w1 (Instr.alloc 43 true (.tuple #[])) fun t5 w2=>
 so w2 43 t5 t16 fun w3=>fl w3 t5 43 1 3 fun t18=>bt .lss 3 t18 (i6 0) fun t19=>za (fun K4=>gIf t19 false (fl w3 t5 43 1 3 fun t22=>bt .gtr 3 t22 (i6 8) fun t23=>K4 [t23] w3) (K4 [undef] w3)) (fun s5 _d6 w7=>
 zb t19 tr_ (s5.getD 0 undef) fun t24=>za (fun K8=>gIf t24 false (fl w7 t5 43 3 3 fun t27=>bt .lss 3 t27 (i6 0) fun t28=>K8 [t28] w7) (K8 [undef] w7)) (fun s9 _d10 w11=>
 zb t24 tr_ (s9.getD 0 undef) fun t29=>za (fun K12=>gIf t29 false (fl w11 t5 43 3 3 fun t32=>bt .gtr 3 t32 (i6 8) fun t33=>K12 [t33] w11) (K12 [undef] w11)) (fun s13 _d14 w15=>
 zb t29 tr_ (s13.getD 0 undef) fun t34=>za (fun K16=>gIf t34 false (fl w15 t5 43 4 39 fun t37=>pp (Builtin.len_ #[39] 3 #[t37]) fun t38=>fl w15 t5 43 3 3 fun t40=>bf .leq 3 t38 t40 fun t41=>K16 [t41] w15) (K16 [undef] w15)) (fun s17 _d18 w19=>
 zb t34 tr_ (s17.getD 0 undef) fun t42=>za (fun K20=>gIf t42 false (fl w19 t5 43 4 39 fun t45=>pp (Builtin.len_ #[39] 3 #[t45]) fun t46=>bt .gtr 3 t46 (i6 512) fun t47=>K20 [t47] w19) (K20 [undef] w19)) (fun s21 _d22 w23=>
 zb t42 tr_ (s21.getD 0 undef) fun t48=>za (fun K24=>gIf t48 false (fl w23 t5 43 5 40 fun t51=>pp (Builtin.len_ #[40] 3 #[t51]) fun t52=>fl w23 t5 43 4 39 fun t54=>pp (Builtin.len_ #[39] 3 #[t54]) fun t55=>bf .neq 3 t52 t55 fun t56=>K24 [t56] w23) (K24 [undef] w23)) (fun s25 _d26 w27=>
 zb t48 tr_ (s25.getD 0 undef) fun t57=>zc t57 (K fa_ w27) (fl w27 t5 43 4 39 fun t59=>pp (Builtin.len_ #[39] 3 #[t59]) fun t60=>zo [(i6 0)] w27 (fun s29 _d30 w31 K28=>
 bf .lss 3 (s29.getD 0 undef) t60 fun t62=>zc t62 (xl w31 39 t59 (s29.getD 0 undef) 93 fun t65=>pw w31 (Instr.alloc 93 true (.tuple #[])) fun t7 w32=>
 so w32 93 t7 t65 fun w33=>fl w33 t2 25 0 22 fun t67=>lo w33 93 t7 fun t68=>ca jc #[t67,t68] w33 fun t69 w34=>
 pp (Op.unary .not t69) fun t70=>zc t70 (K fa_ w34) (pw w34 (Instr.alloc 3 true (.tuple #[])) fun t8 w35=>
 so w35 3 t8 (i6 (-1)) fun w36=>za (fun K37=>
 fl w36 t5 43 3 3 fun t73=>bf .leq 3 (s29.getD 0 undef) t73 fun t74=>zc t74 (so w36 3 t8 (i6 0) fun w41=>K37 [] w41) (K37 [] w36)) (fun _s38 _d39 w40=>
 lo w40 93 t7 fun t75=>ca kZ #[t75] w40 fun t76 w42=>
 pp (Instr.makeFunc (.func 120) #[] #[t8,t5]) fun t77=>ca zP #[t76,t77] w42 fun t78 w43=>
 zc t78 (K fa_ w43) (bt .add 3 (s29.getD 0 undef) (i6 1) fun t79=>K28 [t79] w43)))) (fl w31 t5 43 6 41 fun t81=>pp (Builtin.len_ #[41] 3 #[t81]) fun t82=>bt .lss 3 t82 (i6 1) fun t83=>za (fun K44=>gIf t83 false (fl w31 t5 43 6 41 fun t86=>pp (Builtin.len_ #[41] 3 #[t86]) fun t87=>bt .gtr 3 t87 (i6 1024) fun t88=>K44 [t88] w31) (K44 [undef] w31)) (fun s45 _d46 w47=>
 zb t83 tr_ (s45.getD 0 undef) fun t89=>za (fun K48=>gIf t89 false (lo w47 43 t5 fun t91=>ca ju #[t91] w47 fun t92 w52=>
 pp (Op.unary .not t92) fun t93=>K48 [t93] w52) (K48 [undef] w47)) (fun s49 _d50 w51=>
 zb t89 tr_ (s49.getD 0 undef) fun t94=>zc t94 (K fa_ w51) (fl w51 t5 43 6 41 fun t96=>pp (Builtin.len_ #[41] 3 #[t96]) fun t97=>zo [(i6 0),(i6 0)] w51 (fun s54 _d55 w56 K53=>
 bf .lss 3 (s54.getD 1 undef) t97 fun t99=>zc t99 (za (fun K57=>
 xl w56 41 t96 (s54.getD 1 undef) 64 fun t101=>pw w56 (Instr.alloc 64 true (.tuple #[])) fun t11 w61=>
 so w61 64 t11 t101 fun w62=>fl w62 t11 64 0 55 fun t103=>bt .eql 55 t103 (Value.int .u8 4) fun t104=>zc t104 (bt .add 3 (s54.getD 0 undef) (i6 1) fun t106=>K57 [t106] w62) (K57 [(s54.getD 0 undef)] w62)) (fun s58 _d59 w60=>
 bt .add 3 (s54.getD 1 undef) (i6 1) fun t107=>K53 [(s58.getD 0 undef),t107] w60)) (bt .leq 3 (s54.getD 0 undef) (i6 256) fun t109=>za (fun K63=>gIf t109 true (fl w56 t2 25 2 3 fun t113=>bf .neq 3 t1 t113 fun t114=>K63 [t114] w56) (K63 [undef] w56)) (fun s64 _d65 w66=>
 za (fun K67=>gIf (s64.getD 0 undef) false (fl w66 t5 43 1 3 fun t117=>bt .eql 3 t117 (i6 0) fun t118=>K67 [t118] w66) (K67 [undef] w66)) (fun s68 _d69 w70=>
 za (fun K71=>gIf (s68.getD 0 undef) true (fl w70 t5 43 3 3 fun t121=>bt .eql 3 t121 (i6 0) fun t122=>K71 [t122] w70) (K71 [undef] w70)) (fun s72 _d73 w74=>
 za (fun K75=>gIf (s64.getD 0 undef) false (zb (s68.getD 0 undef) (s72.getD 0 undef) fa_ fun t123=>K75 [t123] w74) (K75 [undef] w74)) (fun s76 _d77 w78=>
 za (fun K79=>gIf (s76.getD 0 undef) true (fl w78 t5 43 4 39 fun t126=>px 39 t126 (i6 0) fun t127=>fl w78 t127 93 0 91 fun t129=>bt .eql 91 t129 (Value.int .u8 1) fun t130=>K79 [t130] w78) (K79 [undef] w78)) (fun s80 _d81 w82=>
 za (fun K83=>gIf (s64.getD 0 undef) false (zb (s76.getD 0 undef) (s80.getD 0 undef) fa_ fun t131=>K83 [t131] w82) (K83 [undef] w82)) (fun s84 _d85 w86=>
 za (fun K87=>gIf t109 true (zb (s64.getD 0 undef) tr_ (s84.getD 0 undef) fun t132=>K87 [t132] w86) (K87 [undef] w86)) (fun s88 _d89 w90=>
 zb t109 (s88.getD 0 undef) fa_ fun t133=>K t133 w90)))))))))))))))))))))
theorem adn {t0 t1 : Value} {w : World} {K : VW} (h : Jc t0 t1 w K) : zd prog Yk #[t0,t1] w K:=
 okC false (.s (.r (rz 2 0 2)) (.s (.r (rz 7 0 10500)) (.s (.s (.r (ra 4 0 4 (.grp 20 false (ri 3 4 4) [23] (ra 2 7 0 (.grp 25 false (ri 3 9 4) [28] (ra 2 12 0 (.grp 30 false (ri 3 14 4) [33] (ra 2 17 0 (.grp 35 false (ri 6 19 260) [41] (ra 2 25 0 (.grp 43 false (ri 4 27 4) [47] (ra 2 31 0 (.grp 49 false (ri 7 33 260) [56] (rz 1 40 0)))))))))))))) (.c (.s (.r (rz 1 0 0)) (.n)) (.n))) (.s (.s (.r (rz 4 0 4)) (.b (.lp [61] (.s (.r (rz 1 0 0)) (.s (.c (.n) (.n)) (.s (.b (.s (.r (rz 6 0 2192)) (.s (.s (.r (rz 5 0 148)) (.c (.s (.r (rz 1 0 0)) (.n)) (.n))) (.s (.r (rz 2 0 10)) (.j [] (.s (.r (rz 4 0 16)) (.c (.r (rz 1 0 2)) (.n))) (.s (.r (rz 4 0 137)) (.c (.s (.r (rz 1 0 0)) (.n)) (.n)))))))) (.r (rz 2 0 0)))))))) (.s (.s (.r (ra 5 0 4 (.grp 84 false (ri 4 5 4) [88] (ra 2 9 0 (.grp 90 false (ri 3 11 9) [93] (rz 1 14 0)))))) (.c (.s (.r (rz 1 0 0)) (.n)) (.n))) (.s (.r (rz 1 0 0)) (.s (.s (.r (rz 4 0 4)) (.b (.lp [9,98] (.s (.r (rz 1 0 0)) (.s (.c (.n) (.n)) (.j [9] (.b (.s (.r (rz 4 0 164)) (.s (.r (rz 3 0 4)) (.c (.r (rz 3 0 0)) (.n))))) (.r (rz 2 0 0)))))))) (.s (.r (ra 3 0 0 (.grp 110 true (ri 5 3 16) [115] (.grp 115 false (ri 4 8 4) [119] (.grp 119 true (ri 3 12 4) [122] (.grp 115 false (ri 2 15 0) [124] (.grp 124 true (ri 6 17 260) [130] (.grp 115 false (ri 1 23 0) [131] (.grp 110 true (ri 1 24 0) [132] (rz 2 25 0)))))))))) (.n))))))))) func84 rfl (by kernel_rfl) (by kernel_rfl) h
def vB (t0 t1 : Value) (w : World) (K : VW) : Prop:=
 pw w (Instr.box 147 t0) fun t2 w1=>
 pw w1 (Instr.box 64 t1) fun t3 w2=>
 pf 147 t2 1 fun t23=>fl w2 t23 43 6 41 fun t25=>pp (Builtin.len_ #[41] 3 #[t25]) fun t26=>pw w2 (Instr.alloc 3 true (.tuple #[])) fun t5 w3=>
 so w3 3 t5 t26 fun w4=>pp (Instr.makeFunc (.func 122) #[] #[t5]) fun t27=>fl w4 t3 64 12 3 fun t29=>bt .lss 3 t29 (i6 0) fun t30=>za (fun K5=>gIf t30 false (fl w4 t3 64 0 55 fun t33=>bt .neq 55 t33 (Value.int .u8 14) fun t34=>K5 [t34] w4) (K5 [undef] w4)) (fun s6 _d7 w8=>
 za (fun K9=>gIf (s6.getD 0 undef) true (fl w8 t3 64 10 3 fun t38=>cv t27 #[t38] w8 fun t39 w13=>
 pp (Op.unary .not t39) fun t40=>K9 [t40] w13) (K9 [undef] w8)) (fun s10 _d11 w12=>
 za (fun K14=>gIf t30 false (zb (s6.getD 0 undef) (s10.getD 0 undef) fa_ fun t41=>K14 [t41] w12) (K14 [undef] w12)) (fun s15 _d16 w17=>
 zb t30 tr_ (s15.getD 0 undef) fun t42=>za (fun K18=>gIf t42 false (fl w17 t3 64 0 55 fun t45=>bt .eql 55 t45 (Value.int .u8 14) fun t46=>K18 [t46] w17) (K18 [undef] w17)) (fun s19 _d20 w21=>
 za (fun K22=>gIf (s19.getD 0 undef) true (fl w21 t3 64 10 3 fun t49=>bt .neq 3 t49 (i6 0) fun t50=>K22 [t50] w21) (K22 [undef] w21)) (fun s23 _d24 w25=>
 za (fun K26=>gIf t42 false (zb (s19.getD 0 undef) (s23.getD 0 undef) fa_ fun t51=>K26 [t51] w25) (K26 [undef] w25)) (fun s27 _d28 w29=>
 zb t42 tr_ (s27.getD 0 undef) fun t52=>zc t52 (K fa_ w29) (za (fun K30=>
 lo w29.drew 147 t2 fun t53=>fl w29.drew t3 64 1 58 fun t55=>lo w29.drew 147 t2 fun t57=>fl w29.drew t3 64 6 58 fun t59=>((ca zu #[t53,t55] w29.drew fun t56 w34=>
 Ext w29.drew w34∧
 ((ca zu #[t57,t59] w34 fun t60 w35=>
 ((pw w35 (Instr.alloc 189 true (.tuple #[])) fun t7 w36=>
 Ext w35 w36∧
 pw w36 (Instr.alloc 189 true (.tuple #[])) fun t8 w37=>
 Ext w36 w37∧
 so w37 189 t7 t56 fun w38=>so w38 189 t8 t60 fun w39=>K30 [t7,t8] w39)∧
 (pw w35 (Instr.alloc 189 true (.tuple #[])) fun t8_41 w40=>
 Ext w35 w40∧
 pw w40 (Instr.alloc 189 true (.tuple #[])) fun t7_43 w42=>
 Ext w40 w42∧
 so w42 189 t7_43 t56 fun w44=>so w44 189 t8_41 t60 fun w45=>K30 [t7_43,t8_41] w45)))∧
 (((pw w34 (Instr.alloc 189 true (.tuple #[])) fun t7_47 w46=>
 Ext w34 w46∧
 ((ca zu #[t57,t59] w46 fun t60_49 w48=>
 pw w48 (Instr.alloc 189 true (.tuple #[])) fun t8_51 w50=>
 Ext w48 w50∧
 so w50 189 t7_47 t56 fun w52=>so w52 189 t8_51 t60_49 fun w53=>K30 [t7_47,t8_51] w53)∧
 (pw w46 (Instr.alloc 189 true (.tuple #[])) fun t8_55 w54=>
 Ext w46 w54∧
 ca zu #[t57,t59] w54 fun t60_57 w56=>
 so w56 189 t7_47 t56 fun w58=>so w58 189 t8_55 t60_57 fun w59=>K30 [t7_47,t8_55] w59)))∧
 (pw w34 (Instr.alloc 189 true (.tuple #[])) fun t8_61 w60=>
 Ext w34 w60∧
 ((ca zu #[t57,t59] w60 fun t60_63 w62=>
 pw w62 (Instr.alloc 189 true (.tuple #[])) fun t7_65 w64=>
 Ext w62 w64∧
 so w64 189 t7_65 t56 fun w66=>so w66 189 t8_61 t60_63 fun w67=>K30 [t7_65,t8_61] w67)∧
 (pw w60 (Instr.alloc 189 true (.tuple #[])) fun t7_69 w68=>
 Ext w60 w68∧
 ca zu #[t57,t59] w68 fun t60_71 w70=>
 so w70 189 t7_69 t56 fun w72=>so w72 189 t8_61 t60_71 fun w73=>K30 [t7_69,t8_61] w73)))))))∧
 (((pw w29.drew (Instr.alloc 189 true (.tuple #[])) fun t7_75 w74=>
 Ext w29.drew w74∧
 ((ca zu #[t53,t55] w74 fun t56_77 w76=>
 Ext w74 w76∧
 ((ca zu #[t57,t59] w76 fun t60_79 w78=>
 pw w78 (Instr.alloc 189 true (.tuple #[])) fun t8_81 w80=>
 Ext w78 w80∧
 so w80 189 t7_75 t56_77 fun w82=>so w82 189 t8_81 t60_79 fun w83=>K30 [t7_75,t8_81] w83)∧
 (pw w76 (Instr.alloc 189 true (.tuple #[])) fun t8_85 w84=>
 Ext w76 w84∧
 ca zu #[t57,t59] w84 fun t60_87 w86=>
 so w86 189 t7_75 t56_77 fun w88=>so w88 189 t8_85 t60_87 fun w89=>K30 [t7_75,t8_85] w89)))∧
 (pw w74 (Instr.alloc 189 true (.tuple #[])) fun t8_91 w90=>
 Ext w74 w90∧
 ca zu #[t53,t55] w90 fun t56_93 w92=>
 Ext w90 w92∧
 ca zu #[t57,t59] w92 fun t60_95 w94=>
 so w94 189 t7_75 t56_93 fun w96=>so w96 189 t8_91 t60_95 fun w97=>K30 [t7_75,t8_91] w97)))∧
 (pw w29.drew (Instr.alloc 189 true (.tuple #[])) fun t8_99 w98=>
 Ext w29.drew w98∧
 ((ca zu #[t53,t55] w98 fun t56_101 w100=>
 Ext w98 w100∧
 ((ca zu #[t57,t59] w100 fun t60_103 w102=>
 pw w102 (Instr.alloc 189 true (.tuple #[])) fun t7_105 w104=>
 Ext w102 w104∧
 so w104 189 t7_105 t56_101 fun w106=>so w106 189 t8_99 t60_103 fun w107=>K30 [t7_105,t8_99] w107)∧
 (pw w100 (Instr.alloc 189 true (.tuple #[])) fun t7_109 w108=>
 Ext w100 w108∧
 ca zu #[t57,t59] w108 fun t60_111 w110=>
 so w110 189 t7_109 t56_101 fun w112=>so w112 189 t8_99 t60_111 fun w113=>K30 [t7_109,t8_99] w113)))∧
 (pw w98 (Instr.alloc 189 true (.tuple #[])) fun t7_115 w114=>
 Ext w98 w114∧
 ca zu #[t53,t55] w114 fun t56_117 w116=>
 Ext w114 w116∧
 ca zu #[t57,t59] w116 fun t60_119 w118=>
 so w118 189 t7_115 t56_117 fun w120=>so w120 189 t8_99 t60_119 fun w121=>K30 [t7_115,t8_99] w121))))))) (fun s31 _d32 w33=>
 fl w33 (s31.getD 0 undef) 189 2 4 fun t62=>za (fun K122=>gIf t62 true (fl w33 (s31.getD 0 undef) 189 1 3 fun t65=>bt .lss 3 t65 (i6 3) fun t66=>K122 [t66] w33) (K122 [undef] w33)) (fun s123 _d124 w125=>
 zb t62 (s123.getD 0 undef) fa_ fun t67=>lo w125 147 t2 fun t69=>fl w125 t3 64 2 61 fun t71=>ca yJ #[t69,t71] w125 fun t72 w126=>
 pe t72 0 fun t73=>pe t72 1 fun t74=>pw w126 (Instr.alloc 93 true (.tuple #[])) fun t10 w127=>
 so w127 93 t10 t73 fun w128=>lo w128 147 t2 fun t76=>fl w128 t3 64 3 61 fun t78=>ca yJ #[t76,t78] w128 fun t79 w129=>
 pe t79 0 fun t80=>pe t79 1 fun t81=>pw w129 (Instr.alloc 93 true (.tuple #[])) fun t12 w130=>
 so w130 93 t12 t80 fun w131=>pp (Instr.makeFunc (.func 126) #[] #[t3,t2]) fun t82=>fl w131 t3 64 0 55 fun t84=>bt .eql 55 t84 (Value.int .u8 1) fun t86=>zc t86 (lo w131 64 t3 fun t87=>pp (Instr.build 196 #[(0,tr_),(1,tr_)]) fun t88=>ca zT #[t87,t88] w131 fun t89 w132=>
 za (fun K133=>gIf t89 true (K133 [t67] w132) (K133 [undef] w132)) (fun s134 _d135 w136=>
 zb t89 (s134.getD 0 undef) fa_ fun t92=>za (fun K137=>gIf t92 true (K137 [t74] w136) (K137 [undef] w136)) (fun s138 _d139 w140=>
 zb t92 (s138.getD 0 undef) fa_ fun t95=>za (fun K141=>gIf t95 true (lo w140 93 t10 fun t97=>fl w140 (s31.getD 0 undef) 189 0 93 fun t99=>ca xi #[t97,t99] w140 fun t100 w145=>
 K141 [t100] w145) (K141 [undef] w140)) (fun s142 _d143 w144=>
 zb t95 (s142.getD 0 undef) fa_ fun t101=>K t101 w144)))) (bt .eql 55 t84 (Value.int .u8 2) fun t103=>zc t103 (lo w131 64 t3 fun t104=>pp (Instr.build 196 #[(0,tr_),(1,tr_),(2,tr_),(4,tr_)]) fun t105=>ca zT #[t104,t105] w131 fun t106 w146=>
 pp (Op.unary .not t106) fun t107=>za (fun K147=>gIf t107 false (pp (Op.unary .not t67) fun t110=>K147 [t110] w146) (K147 [undef] w146)) (fun s148 _d149 w150=>
 zb t107 tr_ (s148.getD 0 undef) fun t111=>za (fun K151=>gIf t111 false (pp (Op.unary .not t74) fun t114=>K151 [t114] w150) (K151 [undef] w150)) (fun s152 _d153 w154=>
 zb t111 tr_ (s152.getD 0 undef) fun t115=>za (fun K155=>gIf t115 false (pp (Op.unary .not t81) fun t118=>K155 [t118] w154) (K155 [undef] w154)) (fun s156 _d157 w158=>
 zb t115 tr_ (s156.getD 0 undef) fun t119=>zc t119 (K fa_ w158) (lo w158 93 t10 fun t121=>cv (Value.func (.func 125) #[] #[]) #[t121,(Value.int .u8 1)] w158 fun t122 w159=>
 za (fun K160=>gIf t122 true (lo w159 93 t12 fun t125=>cv (Value.func (.func 125) #[] #[]) #[t125,(Value.int .u8 1)] w159 fun t126 w164=>
 K160 [t126] w164) (K160 [undef] w159)) (fun s161 _d162 w163=>
 zb t122 (s161.getD 0 undef) fa_ fun t127=>fl w163 t3 64 5 9 fun t129=>za (fun K165=>
 bt .eql 9 t129 (Value.string { data:=#[43] }) fun t131=>zc t131 (K165 [t131] w163) (bt .eql 9 t129 (Value.string { data:=#[45] }) fun t132=>zc t132 (K165 [t132] w163) (bt .eql 9 t129 (Value.string { data:=#[42] }) fun t133=>zc t133 (K165 [t133] w163) (bt .eql 9 t129 (Value.string { data:=#[47] }) fun t134=>zc t134 (K165 [t134] w163) (bt .eql 9 t129 (Value.string { data:=#[37] }) fun t135=>K165 [t135] w163))))) (fun s166 _d167 w168=>
 zc (s166.getD 0 undef) (fl w168 (s31.getD 0 undef) 189 0 93 fun t138=>cv (Value.func (.func 125) #[] #[]) #[t138,(Value.int .u8 1)] w168 fun t139 w169=>
 za (fun K170=>gIf t139 true (K170 [t127] w169) (K170 [undef] w169)) (fun s171 _d172 w173=>
 zb t139 (s171.getD 0 undef) fa_ fun t142=>K t142 w173)) (za (fun K174=>
 bt .eql 9 t129 (Value.string { data:=#[60] }) fun t144=>zc t144 (K174 [t144] w168) (bt .eql 9 t129 (Value.string { data:=#[60,61] }) fun t145=>zc t145 (K174 [t145] w168) (bt .eql 9 t129 (Value.string { data:=#[62] }) fun t146=>zc t146 (K174 [t146] w168) (bt .eql 9 t129 (Value.string { data:=#[62,61] }) fun t147=>K174 [t147] w168)))) (fun s175 _d176 w177=>
 zc (s175.getD 0 undef) (fl w177 (s31.getD 0 undef) 189 0 93 fun t150=>cv (Value.func (.func 125) #[] #[]) #[t150,(Value.int .u8 2)] w177 fun t151 w178=>
 za (fun K179=>gIf t151 true (K179 [t127] w178) (K179 [undef] w178)) (fun s180 _d181 w182=>
 zb t151 (s180.getD 0 undef) fa_ fun t154=>K t154 w182)) (za (fun K183=>
 bt .eql 9 t129 (Value.string { data:=#[61,61] }) fun t156=>zc t156 (K183 [t156] w177) (bt .eql 9 t129 (Value.string { data:=#[33,61] }) fun t157=>K183 [t157] w177)) (fun s184 _d185 w186=>
 zc (s184.getD 0 undef) (fl w186 (s31.getD 0 undef) 189 0 93 fun t160=>cv (Value.func (.func 125) #[] #[]) #[t160,(Value.int .u8 2)] w186 fun t161 w187=>
 za (fun K188=>gIf t161 true (K188 [t127] w187) (K188 [undef] w187)) (fun s189 _d190 w191=>
 za (fun K192=>gIf (s189.getD 0 undef) false (lo w191 93 t10 fun t166=>cv (Value.func (.func 125) #[] #[]) #[t166,(Value.int .u8 2)] w191 fun t167 w196=>
 K192 [t167] w196) (K192 [undef] w191)) (fun s193 _d194 w195=>
 za (fun K197=>gIf (s193.getD 0 undef) true (lo w195 93 t12 fun t170=>cv (Value.func (.func 125) #[] #[]) #[t170,(Value.int .u8 2)] w195 fun t171 w201=>
 K197 [t171] w201) (K197 [undef] w195)) (fun s198 _d199 w200=>
 za (fun K202=>gIf (s189.getD 0 undef) false (zb (s193.getD 0 undef) (s198.getD 0 undef) fa_ fun t172=>K202 [t172] w200) (K202 [undef] w200)) (fun s203 _d204 w205=>
 za (fun K206=>gIf t161 true (zb (s189.getD 0 undef) tr_ (s203.getD 0 undef) fun t173=>K206 [t173] w205) (K206 [undef] w205)) (fun s207 _d208 w209=>
 zb t161 (s207.getD 0 undef) fa_ fun t174=>K t174 w209)))))) (K fa_ w186)))))))))))) (bt .eql 55 t84 (Value.int .u8 3) fun t176=>zc t176 (pw w131 (Instr.makeMap 197 none) fun t177 w210=>
 pu w210 (Instr.mapUpdate 197 t177 (Value.string { data:=#[45] }) (Value.int .u8 1)) fun w211=>pu w211 (Instr.mapUpdate 197 t177 (Value.string { data:=#[33] }) (Value.int .u8 2)) fun w212=>fl w212 t3 64 5 9 fun t180=>pq w212 (Instr.lookup 197 t177 t180 false) fun t181=>lo w212 64 t3 fun t182=>pp (Instr.build 196 #[(0,tr_),(1,tr_),(4,tr_)]) fun t183=>ca zT #[t182,t183] w212 fun t184 w213=>
 za (fun K214=>gIf t184 true (K214 [t67] w213) (K214 [undef] w213)) (fun s215 _d216 w217=>
 zb t184 (s215.getD 0 undef) fa_ fun t187=>za (fun K218=>gIf t187 true (K218 [t74] w217) (K218 [undef] w217)) (fun s219 _d220 w221=>
 zb t187 (s219.getD 0 undef) fa_ fun t190=>za (fun K222=>gIf t190 true (bt .neq 91 t181 (Value.int .u8 0) fun t193=>K222 [t193] w221) (K222 [undef] w221)) (fun s223 _d224 w225=>
 zb t190 (s223.getD 0 undef) fa_ fun t194=>za (fun K226=>gIf t194 true (fl w225 (s31.getD 0 undef) 189 0 93 fun t198=>cv (Value.func (.func 125) #[] #[]) #[t198,t181] w225 fun t200 w230=>
 K226 [t200] w230) (K226 [undef] w225)) (fun s227 _d228 w229=>
 zb t194 (s227.getD 0 undef) fa_ fun t201=>za (fun K231=>gIf t201 true (lo w229 93 t10 fun t204=>cv (Value.func (.func 125) #[] #[]) #[t204,t181] w229 fun t206 w235=>
 K231 [t206] w235) (K231 [undef] w229)) (fun s232 _d233 w234=>
 zb t201 (s232.getD 0 undef) fa_ fun t207=>K t207 w234)))))) (bt .eql 55 t84 (Value.int .u8 4) fun t209=>zc t209 (lo w131.drew 64 t3 fun t210=>pp (Instr.build 196 #[(0,tr_),(5,tr_),(6,tr_)]) fun t211=>ca zT #[t210,t211] w131.drew fun t212 w236=>
 za (fun K237=>gIf t212 true (K237 [t67] w236) (K237 [undef] w236)) (fun s238 _d239 w240=>
 zb t212 (s238.getD 0 undef) fa_ fun t215=>za (fun K241=>gIf t215 true (fl w240 (s31.getD 1 undef) 189 2 4 fun t218=>K241 [t218] w240) (K241 [undef] w240)) (fun s242 _d243 w244=>
 zb t215 (s242.getD 0 undef) fa_ fun t219=>za (fun K245=>gIf t219 true (fl w244 (s31.getD 0 undef) 189 0 93 fun t223=>cv (Value.func (.func 125) #[] #[]) #[t223,(Value.int .u8 4)] w244 fun t224 w249=>
 K245 [t224] w249) (K245 [undef] w244)) (fun s246 _d247 w248=>
 zb t219 (s246.getD 0 undef) fa_ fun t225=>za (fun K250=>gIf t225 true (pf 189 (s31.getD 0 undef) 0 fun t227=>fl w248 t227 93 1 4 fun t229=>fl w248 t3 64 7 4 fun t231=>bf .eql 4 t229 t231 fun t232=>K250 [t232] w248) (K250 [undef] w248)) (fun s251 _d252 w253=>
 zb t225 (s251.getD 0 undef) fa_ fun t233=>za (fun K254=>gIf t233 true (pf 189 (s31.getD 0 undef) 0 fun t235=>fl w253 t235 93 4 39 fun t237=>xl w253 39 t237 (i6 0) 93 fun t239=>fl w253 (s31.getD 1 undef) 189 0 93 fun t241=>ca xi #[t239,t241] w253 fun t242 w258=>
 K254 [t242] w258) (K254 [undef] w253)) (fun s255 _d256 w257=>
 zb t233 (s255.getD 0 undef) fa_ fun t243=>za (fun K259=>gIf t243 true (fl w257 t3 64 7 4 fun t246=>K259 [t246] w257) (K259 [undef] w257)) (fun s260 _d261 w262=>
 za (fun K263=>gIf (s260.getD 0 undef) true (fl w262 (s31.getD 1 undef) 189 1 3 fun t249=>bt .eql 3 t249 (i6 3) fun t250=>K263 [t250] w262) (K263 [undef] w262)) (fun s264 _d265 w266=>
 za (fun K267=>gIf t243 true (zb (s260.getD 0 undef) (s264.getD 0 undef) fa_ fun t251=>pp (Op.unary .not t251) fun t252=>K267 [t252] w266) (K267 [undef] w266)) (fun s268 _d269 w270=>
 zb t243 (s268.getD 0 undef) fa_ fun t253=>K t253 w270))))))))) (bt .eql 55 t84 (Value.int .u8 5) fun t255=>zc t255 (lo w131.drew 64 t3 fun t256=>pp (Instr.build 196 #[(0,tr_),(1,tr_)]) fun t257=>ca zT #[t256,t257] w131.drew fun t258 w271=>
 za (fun K272=>gIf t258 true (K272 [t67] w271) (K272 [undef] w271)) (fun s273 _d274 w275=>
 zb t258 (s273.getD 0 undef) fa_ fun t261=>za (fun K276=>gIf t261 true (K276 [t74] w275) (K276 [undef] w275)) (fun s277 _d278 w279=>
 zb t261 (s277.getD 0 undef) fa_ fun t264=>za (fun K280=>gIf t264 true (fl w279 (s31.getD 0 undef) 189 0 93 fun t268=>cv (Value.func (.func 125) #[] #[]) #[t268,(Value.int .u8 3)] w279 fun t269 w284=>
 K280 [t269] w284) (K280 [undef] w279)) (fun s281 _d282 w283=>
 zb t264 (s281.getD 0 undef) fa_ fun t270=>za (fun K285=>gIf t270 true (pf 189 (s31.getD 0 undef) 0 fun t272=>fl w283 t272 93 4 39 fun t274=>xl w283 39 t274 (i6 0) 93 fun t276=>lo w283 93 t10 fun t277=>ca xi #[t276,t277] w283 fun t278 w289=>
 K285 [t278] w289) (K285 [undef] w283)) (fun s286 _d287 w288=>
 zb t270 (s286.getD 0 undef) fa_ fun t279=>K t279 w288))))) (bt .eql 55 t84 (Value.int .u8 6) fun t281=>zc t281 (lo w131 64 t3 fun t282=>pp (Instr.build 196 #[(0,tr_),(3,tr_),(8,tr_)]) fun t283=>ca zT #[t282,t283] w131 fun t284 w290=>
 pp (Op.unary .not t284) fun t285=>za (fun K291=>gIf t285 false (pp (Op.unary .not t67) fun t288=>K291 [t288] w290) (K291 [undef] w290)) (fun s292 _d293 w294=>
 zb t285 tr_ (s292.getD 0 undef) fun t289=>za (fun K295=>gIf t289 false (fl w294 (s31.getD 0 undef) 189 0 93 fun t293=>cv (Value.func (.func 125) #[] #[]) #[t293,(Value.int .u8 5)] w294 fun t294 w299=>
 pp (Op.unary .not t294) fun t295=>K295 [t295] w299) (K295 [undef] w294)) (fun s296 _d297 w298=>
 zb t289 tr_ (s296.getD 0 undef) fun t296=>za (fun K300=>gIf t296 false (pf 189 (s31.getD 0 undef) 0 fun t298=>fl w298 t298 93 3 3 fun t300=>fl w298 t3 64 9 3 fun t302=>bf .neq 3 t300 t302 fun t303=>K300 [t303] w298) (K300 [undef] w298)) (fun s301 _d302 w303=>
 zb t296 tr_ (s301.getD 0 undef) fun t304=>zc t304 (K fa_ w303) (pf 147 t2 0 fun t306=>fl w303 t306 25 0 22 fun t308=>fl w303 (s31.getD 0 undef) 189 0 93 fun t310=>ca vL #[t308,t310] w303 fun t311 w304=>
 pe t311 0 fun t312=>pe t311 1 fun _t313=>cv t82 #[t312] w304 fun t316 w305=>
 K t316 w305))))) (bt .eql 55 t84 (Value.int .u8 7) fun t318=>zc t318 (lo w131 64 t3 fun t319=>pp (Instr.build 196 #[(0,tr_),(3,tr_),(7,tr_)]) fun t320=>ca zT #[t319,t320] w131 fun t321 w306=>
 pp (Op.unary .not t321) fun t322=>za (fun K307=>gIf t322 false (pp (Op.unary .not t67) fun t325=>K307 [t325] w306) (K307 [undef] w306)) (fun s308 _d309 w310=>
 zb t322 tr_ (s308.getD 0 undef) fun t326=>za (fun K311=>gIf t326 false (fl w310 t3 64 8 3 fun t329=>bt .lss 3 t329 (i6 0) fun t330=>K311 [t330] w310) (K311 [undef] w310)) (fun s312 _d313 w314=>
 zb t326 tr_ (s312.getD 0 undef) fun t331=>za (fun K315=>gIf t331 false (fl w314 t3 64 8 3 fun t334=>pf 147 t2 0 fun t335=>fl w314 t335 25 1 23 fun t337=>pp (Builtin.len_ #[23] 3 #[t337]) fun t338=>bf .geq 3 t334 t338 fun t339=>K315 [t339] w314) (K315 [undef] w314)) (fun s316 _d317 w318=>
 zb t331 tr_ (s316.getD 0 undef) fun t340=>zc t340 (K fa_ w318) (pf 147 t2 0 fun t341=>fl w318 t341 25 1 23 fun t343=>fl w318 t3 64 8 3 fun t345=>xl w318 23 t343 t345 43 fun t347=>pw w318 (Instr.alloc 43 true (.tuple #[])) fun t20 w319=>
 so w319 43 t20 t347 fun w320=>fl w320.drew (s31.getD 0 undef) 189 0 93 fun t349=>fl w320.drew t20 43 4 39 fun t351=>xl w320.drew 39 t351 (i6 0) 93 fun t353=>ca xi #[t349,t353] w320.drew fun t354 w321=>
 za (fun K322=>gIf t354 true (fl w321 t20 43 4 39 fun t358=>fl w321 t20 43 3 3 fun t360=>bt .add 3 t360 (i6 1) fun t361=>pp (Instr.sliceAt 39 t358 (some (i6 1)) (some t361) none) fun t362=>cv t82 #[t362] w321 fun t363 w326=>
 K322 [t363] w326) (K322 [undef] w321)) (fun s323 _d324 w325=>
 zb t354 (s323.getD 0 undef) fa_ fun t364=>K t364 w325)))))) (bt .eql 55 t84 (Value.int .u8 8) fun t366=>zc t366 (lo w131 64 t3 fun t367=>pp (Instr.build 196 #[(0,tr_)]) fun t368=>ca zT #[t367,t368] w131 fun t369 w327=>
 za (fun K328=>gIf t369 true (K328 [t67] w327) (K328 [undef] w327)) (fun s329 _d330 w331=>
 zb t369 (s329.getD 0 undef) fa_ fun t372=>za (fun K332=>gIf t372 true (fl w331 (s31.getD 0 undef) 189 0 93 fun t376=>cv (Value.func (.func 125) #[] #[]) #[t376,(Value.int .u8 1)] w331 fun t377 w336=>
 K332 [t377] w336) (K332 [undef] w331)) (fun s333 _d334 w335=>
 zb t372 (s333.getD 0 undef) fa_ fun t378=>K t378 w335))) (bt .eql 55 t84 (Value.int .u8 9) fun t380=>zc t380 (lo w131 64 t3 fun t381=>pp (Instr.build 196 #[(1,tr_)]) fun t382=>ca zT #[t381,t382] w131 fun t383 w337=>
 za (fun K338=>gIf t383 true (K338 [t74] w337) (K338 [undef] w337)) (fun s339 _d340 w341=>
 zb t383 (s339.getD 0 undef) fa_ fun t386=>za (fun K342=>gIf t386 true (lo w341 93 t10 fun t389=>cv (Value.func (.func 125) #[] #[]) #[t389,(Value.int .u8 1)] w341 fun t390 w346=>
 K342 [t390] w346) (K342 [undef] w341)) (fun s343 _d344 w345=>
 zb t386 (s343.getD 0 undef) fa_ fun t391=>K t391 w345))) (bt .eql 55 t84 (Value.int .u8 10) fun t393=>zc t393 (pf 147 t2 0 fun t395=>fl w131 t395 25 0 22 fun t397=>fl w131 (s31.getD 1 undef) 189 0 93 fun t399=>ca Zz #[t397,t399] w131 fun t400 w347=>
 pe t400 0 fun t401=>pe t400 1 fun _t402=>lo w347 64 t3 fun t403=>pp (Instr.build 196 #[(5,tr_)]) fun t404=>ca zT #[t403,t404] w347 fun t405 w348=>
 za (fun K349=>gIf t405 true (fl w348 (s31.getD 1 undef) 189 2 4 fun t408=>K349 [t408] w348) (K349 [undef] w348)) (fun s350 _d351 w352=>
 zb t405 (s350.getD 0 undef) fa_ fun t409=>za (fun K353=>gIf t409 true (K353 [t401] w352) (K353 [undef] w352)) (fun s354 _d355 w356=>
 zb t409 (s354.getD 0 undef) fa_ fun t412=>za (fun K357=>gIf t412 true (fl w356 (s31.getD 1 undef) 189 1 3 fun t415=>bt .lss 3 t415 (i6 2) fun t416=>K357 [t416] w356) (K357 [undef] w356)) (fun s358 _d359 w360=>
 zb t412 (s358.getD 0 undef) fa_ fun t417=>K t417 w360)))) (bt .eql 55 t84 (Value.int .u8 11) fun t419=>zc t419 (lo w131 64 t3 fun t420=>pp (Instr.build 196 #[(5,tr_)]) fun t421=>ca zT #[t420,t421] w131 fun t422 w361=>
 za (fun K362=>gIf t422 true (fl w361 (s31.getD 1 undef) 189 2 4 fun t425=>K362 [t425] w361) (K362 [undef] w361)) (fun s363 _d364 w365=>
 zb t422 (s363.getD 0 undef) fa_ fun t426=>za (fun K366=>gIf t426 true (pf 64 t3 6 fun t428=>fl w365 t428 58 0 3 fun t430=>bt .gtr 3 t430 (i6 0) fun t431=>K366 [t431] w365) (K366 [undef] w365)) (fun s367 _d368 w369=>
 zb t426 (s367.getD 0 undef) fa_ fun t432=>za (fun K370=>gIf t432 true (pf 64 t3 6 fun t434=>fl w369 t434 58 1 56 fun t436=>pp (Builtin.len_ #[56] 3 #[t436]) fun t437=>bt .eql 3 t437 (i6 0) fun t438=>K370 [t438] w369) (K370 [undef] w369)) (fun s371 _d372 w373=>
 zb t432 (s371.getD 0 undef) fa_ fun t439=>K t439 w373)))) (bt .eql 55 t84 (Value.int .u8 12) fun t441=>zc t441 (lo w131 64 t3 fun t442=>pp (Instr.build 196 #[(1,tr_),(9,tr_)]) fun t443=>ca zT #[t442,t443] w131 fun t444 w374=>
 za (fun K375=>gIf t444 true (K375 [t74] w374) (K375 [undef] w374)) (fun s376 _d377 w378=>
 zb t444 (s376.getD 0 undef) fa_ fun t447=>za (fun K379=>gIf t447 true (lo w378 93 t10 fun t450=>cv (Value.func (.func 125) #[] #[]) #[t450,(Value.int .u8 2)] w378 fun t451 w383=>
 K379 [t451] w383) (K379 [undef] w378)) (fun s380 _d381 w382=>
 zb t447 (s380.getD 0 undef) fa_ fun t452=>za (fun K384=>gIf t452 true (fl w382 t3 64 11 3 fun t456=>cv t27 #[t456] w382 fun t457 w388=>
 K384 [t457] w388) (K384 [undef] w382)) (fun s385 _d386 w387=>
 zb t452 (s385.getD 0 undef) fa_ fun t458=>K t458 w387)))) (za (fun K389=>
 bt .eql 55 t84 (Value.int .u8 13) fun t460=>zc t460 (K389 [t460] w131) (bt .eql 55 t84 (Value.int .u8 14) fun t461=>K389 [t461] w131)) (fun s390 _d391 w392=>
 zc (s390.getD 0 undef) (lo w392 64 t3 fun t462=>pp (Instr.build 196 #[]) fun t463=>ca zT #[t462,t463] w392 fun t464 w393=>
 K t464 w393) (K fa_ w392)))))))))))))))))))))))
theorem Qd {t0 t1 : Value} {w : World} {K : VW} (h : vB t0 t1 w K) : zd prog kR #[t0,t1] w K:=
 okC false (.s (.r (rz 3 0 10)) (.s (.r (rz 6 0 2576)) (.s (.r (rz 2 0 0)) (.s (.s (.r (ra 4 0 4 (.grp 31 false (ri 4 4 4) [35] (.grp 35 true (ri 5 8 144) [40] (.grp 31 false (ri 1 13 0) [41] (ra 2 14 0 (.grp 43 false (ri 4 16 4) [47] (.grp 47 true (ri 3 20 4) [50] (.grp 43 false (ri 1 23 0) [51] (rz 1 24 0)))))))))) (.c (.s (.r (rz 1 0 0)) (.n)) (.n))) (.j [7,8] (.r (ra 3 0 17 (ra 3 4 17 (.alt 3 .u (.alt 7 .l (.alt 8 .u (rz 3 9 43) (ra 1 9 3 (ra 1 8 3 (rz 2 10 10)))) (.alt 8 .u (.alt 7 .l (rz 3 9 43) (ra 1 9 3 (ra 1 7 2 (rz 2 10 10)))) (ra 1 9 3 (.alt 7 .l (ra 1 8 3 (rz 2 10 10)) (ra 1 8 3 (ra 1 7 2 (rz 2 10 10))))))) (.alt 8 .u (.alt 3 .u (.alt 7 .l (rz 3 9 43) (ra 1 9 3 (ra 1 7 2 (rz 2 10 10)))) (ra 1 9 3 (ra 1 3 3 (ra 1 7 2 (rz 2 10 10))))) (ra 1 9 3 (.alt 3 .u (.alt 7 .l (ra 1 8 3 (rz 2 10 10)) (ra 1 8 3 (ra 1 7 2 (rz 2 10 10)))) (ra 1 8 3 (ra 1 3 3 (ra 1 7 2 (rz 2 10 10))))))))))) (.s (.r (ra 3 0 4 (.grp 63 true (ri 3 3 4) [66] (rz 2 6 0)))) (.s (.r (rz 10 0 163985)) (.s (.r (rz 10 0 163985)) (.s (.r (rz 1 0 0)) (.s (.r (rz 2 0 0)) (.s (.s (.r (rz 2 0 4)) (.b (.s (.r (rz 2 0 0)) (.c (.s (.r (ra 4 0 33 (.grp 90 true (ri 1 4 0) [91] (ra 2 5 0 (.grp 93 true (ri 1 7 0) [94] (ra 2 8 0 (.grp 96 true (ri 4 10 145) [100] (rz 2 14 0)))))))) (.n)) (.s (.r (rz 2 0 0)) (.c (.s (.s (.r (ra 5 0 33 (.grp 108 false (ri 2 5 0) [110] (ra 2 7 0 (.grp 112 false (ri 2 9 0) [114] (ra 2 11 0 (.grp 116 false (ri 2 13 0) [118] (rz 1 15 0)))))))) (.c (.s (.r (rz 1 0 0)) (.n)) (.n))) (.s (.r (ra 4 0 36 (.grp 123 true (ri 3 4 36) [126] (rz 2 7 0)))) (.s (.s (.r (rz 2 0 4)) (.b (.j [130] (.s (.r (rz 2 0 0)) (.c (.n) (.s (.r (rz 2 0 0)) (.c (.n) (.s (.r (rz 2 0 0)) (.c (.n) (.s (.r (rz 2 0 0)) (.c (.n) (.r (rz 2 0 0)))))))))) (.c (.s (.r (ra 5 0 144 (.grp 140 true (ri 1 5 0) [141] (rz 2 6 0)))) (.n)) (.j [143] (.s (.r (rz 2 0 0)) (.c (.n) (.s (.r (rz 2 0 0)) (.c (.n) (.s (.r (rz 2 0 0)) (.c (.n) (.r (rz 2 0 0)))))))) (.c (.s (.r (ra 5 0 144 (.grp 152 true (ri 1 5 0) [153] (rz 2 6 0)))) (.n)) (.j [155] (.s (.r (rz 2 0 0)) (.c (.n) (.r (rz 2 0 0)))) (.c (.s (.r (ra 5 0 144 (.grp 162 true (ri 2 5 0) [164] (.grp 164 false (ri 4 7 36) [168] (.grp 168 true (ri 3 11 36) [171] (.grp 164 false (ri 1 14 0) [172] (.grp 162 true (ri 1 15 0) [173] (rz 2 16 0)))))))) (.n)) (.n))))))))) (.s (.r (rz 1 0 0)) (.n))))) (.s (.r (rz 2 0 0)) (.c (.s (.r (rz 8 0 5162)) (.s (.r (ra 4 0 33 (.grp 185 true (ri 1 4 0) [186] (ra 2 5 0 (.grp 188 true (ri 1 7 0) [189] (ra 2 8 0 (.grp 191 true (ri 2 10 0) [193] (ra 2 12 0 (.grp 195 true (ri 5 14 528) [200] (ra 2 19 0 (.grp 202 true (ri 4 21 132) [206] (rz 2 25 0)))))))))))) (.n))) (.s (.r (rz 2 0 0)) (.c (.s (.r (ra 4 0 33 (.grp 213 true (ri 1 4 0) [214] (ra 2 5 0 (.grp 216 true (ri 2 7 4) [218] (ra 2 9 0 (.grp 220 true (ri 4 11 144) [224] (ra 2 15 0 (.grp 226 true (ri 6 17 272) [232] (ra 2 23 0 (.grp 234 true (ri 8 25 37136) [242] (ra 2 33 0 (.grp 244 true (ri 3 35 4) [247] (.grp 247 true (ri 3 38 4) [250] (.grp 244 true (ri 2 41 0) [252] (rz 2 43 0)))))))))))))))) (.n)) (.s (.r (rz 2 0 0)) (.c (.s (.r (ra 4 0 33 (.grp 259 true (ri 1 4 0) [260] (ra 2 5 0 (.grp 262 true (ri 1 7 0) [263] (ra 2 8 0 (.grp 265 true (ri 4 10 144) [269] (ra 2 14 0 (.grp 271 true (ri 7 16 9488) [278] (rz 2 23 0)))))))))) (.n)) (.s (.r (rz 2 0 0)) (.c (.s (.s (.r (ra 5 0 33 (.grp 286 false (ri 2 5 0) [288] (ra 2 7 0 (.grp 290 false (ri 5 9 144) [295] (ra 2 14 0 (.grp 297 false (ri 6 16 272) [303] (rz 1 22 0)))))))) (.c (.s (.r (rz 1 0 0)) (.n)) (.n))) (.s (.r (rz 11 0 2320)) (.s (.r (rz 4 0 32)) (.n)))) (.s (.r (rz 2 0 0)) (.c (.s (.s (.r (ra 5 0 33 (.grp 323 false (ri 2 5 0) [325] (ra 2 7 0 (.grp 327 false (ri 3 9 4) [330] (ra 2 12 0 (.grp 332 false (ri 7 14 260) [339] (rz 1 21 0)))))))) (.c (.s (.r (rz 1 0 0)) (.n)) (.n))) (.s (.r (rz 9 0 168208)) (.s (.r (ra 8 0 9284 (.grp 355 true (ri 8 8 33040) [363] (rz 2 16 0)))) (.n)))) (.s (.r (rz 2 0 0)) (.c (.s (.r (ra 4 0 33 (.grp 370 true (ri 1 4 0) [371] (ra 2 5 0 (.grp 373 true (ri 4 7 144) [377] (rz 2 11 0)))))) (.n)) (.s (.r (rz 2 0 0)) (.c (.s (.r (ra 4 0 33 (.grp 384 true (ri 1 4 0) [385] (ra 2 5 0 (.grp 387 true (ri 3 7 36) [390] (rz 2 10 0)))))) (.n)) (.s (.r (rz 2 0 0)) (.c (.s (.r (rz 11 0 2320)) (.s (.r (ra 4 0 33 (.grp 406 true (ri 2 4 4) [408] (ra 2 6 0 (.grp 410 true (ri 1 8 0) [411] (ra 2 9 0 (.grp 413 true (ri 3 11 4) [416] (rz 2 14 0)))))))) (.n))) (.s (.r (rz 2 0 0)) (.c (.s (.r (ra 4 0 33 (.grp 423 true (ri 2 4 4) [425] (ra 2 6 0 (.grp 427 true (ri 4 8 16) [431] (ra 2 12 0 (.grp 433 true (ri 5 14 16) [438] (rz 2 19 0)))))))) (.n)) (.s (.r (rz 2 0 0)) (.c (.s (.r (ra 4 0 33 (.grp 445 true (ri 1 4 0) [446] (ra 2 5 0 (.grp 448 true (ri 3 7 36) [451] (ra 2 10 0 (.grp 453 true (ri 4 12 144) [457] (rz 2 16 0)))))))) (.n)) (.j [459] (.s (.r (rz 2 0 0)) (.c (.n) (.r (rz 2 0 0)))) (.c (.s (.r (rz 4 0 33)) (.n)) (.n))))))))))))))))))))))))))))) (.s (.r (rz 1 0 0)) (.n))))))))))))) func85 rfl (by kernel_rfl) (by kernel_rfl) h
def XM (t0 t1 t2 : Value) (w : World) (K : VW) : Prop:=
 lo w 3 t1 fun t6=>bf .lss 3 t0 t6 fun t7=>za (fun K1=>gIf t7 false (fl w t2 43 1 3 fun t11=>bf .geq 3 t0 t11 fun t12=>K1 [t12] w) (K1 [undef] w)) (fun s2 _d3 w4=>
 zb t7 tr_ (s2.getD 0 undef) fun t13=>K t13 w4)
theorem aa2 {t0 t1 t2 : Value} {w : World} {K : VW} (h : XM t0 t1 t2 w K) : zd prog ab7 #[t0,t1,t2] w K:=
 okC false (.s (.r (rz 1 0 0)) (.s (.r (ra 4 0 4 (.grp 8 false (ri 4 4 16) [12] (rz 2 8 0)))) (.n))) func120 rfl (by kernel_rfl) (by kernel_rfl) h
def Yr (t0 : Value) (w : World) (K : VW) : Prop:=
 pw w (Instr.box 43 t0) fun t1 w1=>
 pw w1 (Instr.alloc 161 true (.tuple #[])) fun t3 w2=>
 pw w2 (Instr.alloc 161 true (.tuple #[])) fun t4 w3=>
 fl w3 t1 43 4 39 fun t12=>fl w3 t1 43 3 3 fun t14=>bt .add 3 t14 (i6 1) fun t15=>pp (Instr.sliceAt 39 t12 none (some t15) none) fun t16=>ca jW #[t16,t3] w3 fun _t17 w4=>
 fl w4 t1 43 2 38 fun t19=>pp (Builtin.len_ #[38] 3 #[t19]) fun t20=>zo [(i6 0)] w4 (fun s6 _d7 w8 K5=>
 bf .lss 3 (s6.getD 0 undef) t20 fun t22=>zc t22 (xl w8 38 t19 (s6.getD 0 undef) 165 fun t25=>pw w8 (Instr.alloc 165 true (.tuple #[])) fun t6 w9=>
 so w9 165 t6 t25 fun w10=>fl w10 t6 165 0 3 fun t27=>fl w10 t6 165 1 3 fun t29=>pp (Builtin.min_ #[3,3] 3 #[t27,t29]) fun t30=>bt .lss 3 t30 (i6 0) fun t31=>za (fun K11=>gIf t31 false (fl w10 t6 165 0 3 fun t34=>fl w10 t6 165 1 3 fun t36=>pp (Builtin.max_ #[3,3] 3 #[t34,t36]) fun t37=>fl w10 t1 43 1 3 fun t39=>bf .geq 3 t37 t39 fun t40=>K11 [t40] w10) (K11 [undef] w10)) (fun s12 _d13 w14=>
 zb t31 tr_ (s12.getD 0 undef) fun t41=>za (fun K15=>gIf t41 false (fl w14 t6 165 0 3 fun t44=>fl w14 t6 165 1 3 fun t46=>bf .eql 3 t44 t46 fun t47=>K15 [t47] w14) (K15 [undef] w14)) (fun s16 _d17 w18=>
 zb t41 tr_ (s16.getD 0 undef) fun t48=>zc t48 (K fa_ w18) (za (fun K19=>
 bt .gtr 3 (s6.getD 0 undef) (i6 0) fun t50=>zc t50 (fl w18 t1 43 2 38 fun t52=>bt .sub 3 (s6.getD 0 undef) (i6 1) fun t54=>xl w18 38 t52 t54 165 fun t56=>pw w18 (Instr.alloc 165 true (.tuple #[])) fun t7 w23=>
 so w23 165 t7 t56 fun w24=>fl w24 t7 165 0 3 fun t58=>fl w24 t6 165 0 3 fun t60=>bf .gtr 3 t58 t60 fun t61=>za (fun K25=>gIf t61 false (fl w24 t7 165 0 3 fun t64=>fl w24 t6 165 0 3 fun t66=>bf .eql 3 t64 t66 fun t67=>K25 [t67] w24) (K25 [undef] w24)) (fun s26 _d27 w28=>
 za (fun K29=>gIf (s26.getD 0 undef) true (fl w28 t7 165 1 3 fun t70=>fl w28 t6 165 1 3 fun t72=>bf .geq 3 t70 t72 fun t73=>K29 [t73] w28) (K29 [undef] w28)) (fun s30 _d31 w32=>
 za (fun K33=>gIf t61 false (zb (s26.getD 0 undef) (s30.getD 0 undef) fa_ fun t74=>K33 [t74] w32) (K33 [undef] w32)) (fun s34 _d35 w36=>
 zb t61 tr_ (s34.getD 0 undef) fun t75=>zc t75 (K fa_ w36) (K19 [] w36))))) (K19 [] w18)) (fun _s20 _d21 w22=>
 fl w22.drew t6 165 0 3 fun t77=>fl w22.drew t6 165 1 3 fun t79=>px 161 t4 t77 fun t80=>px 160 t80 t79 fun t81=>so w22.drew 4 t81 tr_ fun w37=>bt .add 3 (s6.getD 0 undef) (i6 1) fun t82=>K5 [t82] w37))))) (fl w8 t1 43 1 3 fun t84=>zo [(i6 0)] w8 (fun s39 _d40 w41 K38=>
 bf .lss 3 (s39.getD 0 undef) t84 fun t86=>zc t86 (fl w41 t1 43 1 3 fun t89=>zo [(i6 0)] w41 (fun s43 _d44 w45 K42=>
 bf .lss 3 (s43.getD 0 undef) t89 fun t91=>zc t91 (fl w45 t1 43 1 3 fun t94=>zo [(i6 0)] w45 (fun s47 _d48 w49 K46=>
 bf .lss 3 (s47.getD 0 undef) t94 fun t96=>zc t96 (px 161 t4 (s39.getD 0 undef) fun t100=>xl w49 160 t100 (s43.getD 0 undef) 4 fun t102=>za (fun K50=>gIf t102 true (px 161 t4 (s43.getD 0 undef) fun t106=>xl w49 160 t106 (s47.getD 0 undef) 4 fun t108=>K50 [t108] w49) (K50 [undef] w49)) (fun s51 _d52 w53=>
 zb t102 (s51.getD 0 undef) fa_ fun t109=>za (fun K54=>gIf t109 true (bf .neq 3 (s39.getD 0 undef) (s47.getD 0 undef) fun t113=>K54 [t113] w53) (K54 [undef] w53)) (fun s55 _d56 w57=>
 zb t109 (s55.getD 0 undef) fa_ fun t114=>za (fun K58=>gIf t114 true (px 161 t4 (s39.getD 0 undef) fun t118=>xl w57 160 t118 (s47.getD 0 undef) 4 fun t120=>pp (Op.unary .not t120) fun t121=>K58 [t121] w57) (K58 [undef] w57)) (fun s59 _d60 w61=>
 zb t114 (s59.getD 0 undef) fa_ fun t122=>zc t122 (K fa_ w61) (bt .add 3 (s47.getD 0 undef) (i6 1) fun t123=>K46 [t123] w61))))) (bf .neq 3 (s39.getD 0 undef) (s43.getD 0 undef) fun t126=>za (fun K62=>gIf t126 true (px 161 t3 (s39.getD 0 undef) fun t130=>xl w49 160 t130 (s43.getD 0 undef) 4 fun t132=>K62 [t132] w49) (K62 [undef] w49)) (fun s63 _d64 w65=>
 zb t126 (s63.getD 0 undef) fa_ fun t133=>za (fun K66=>gIf t133 true (px 161 t4 (s39.getD 0 undef) fun t137=>xl w65 160 t137 (s43.getD 0 undef) 4 fun t139=>pp (Op.unary .not t139) fun t140=>K66 [t140] w65) (K66 [undef] w65)) (fun s67 _d68 w69=>
 zb t133 (s67.getD 0 undef) fa_ fun t141=>zc t141 (K fa_ w69) (bt .add 3 (s43.getD 0 undef) (i6 1) fun t142=>K42 [t142] w69)))))) (bt .add 3 (s39.getD 0 undef) (i6 1) fun t143=>K38 [t143] w45))) (K tr_ w41))))
theorem Vt {t0 : Value} {w : World} {K : VW} (h : Yr t0 w K) : zd prog ju #[t0] w K:=
 okC false (.s (.r (rz 2 0 2)) (.s (.r (rz 2 0 10)) (.s (.r (rz 7 0 8260)) (.s (.s (.r (rz 4 0 4)) (.b (.lp [21] (.s (.r (rz 1 0 0)) (.s (.c (.n) (.n)) (.s (.b (.s (.r (rz 6 0 2192)) (.s (.s (.r (ra 7 0 68 (.grp 32 false (ri 8 7 4164) [40] (ra 2 15 0 (.grp 42 false (ri 5 17 68) [47] (rz 1 22 0)))))) (.c (.s (.r (rz 1 0 0)) (.n)) (.n))) (.j [] (.s (.r (rz 2 0 0)) (.c (.s (.r (rz 8 0 41988)) (.s (.r (ra 6 0 68 (.grp 62 false (ri 6 6 68) [68] (.grp 68 true (ri 5 12 68) [73] (.grp 62 false (ri 1 17 0) [74] (rz 1 18 0)))))) (.c (.s (.r (rz 1 0 0)) (.n)) (.n)))) (.n))) (.r (rz 7 0 8260)))))) (.r (rz 2 0 0)))))))) (.s (.s (.r (rz 3 0 4)) (.b (.lp [85] (.s (.r (rz 1 0 0)) (.s (.c (.n) (.n)) (.s (.b (.s (.r (rz 2 0 0)) (.s (.r (rz 3 0 4)) (.b (.lp [90] (.s (.r (rz 1 0 0)) (.s (.c (.n) (.n)) (.s (.b (.s (.r (rz 2 0 0)) (.s (.s (.r (rz 3 0 4)) (.b (.lp [95] (.s (.r (rz 1 0 0)) (.s (.c (.n) (.n)) (.s (.b (.s (.r (rz 2 0 0)) (.s (.r (ra 6 0 256 (.grp 103 true (ri 5 6 256) [108] (ra 2 11 0 (.grp 110 true (ri 3 13 0) [113] (ra 2 16 0 (.grp 115 true (ri 6 18 256) [121] (rz 1 24 0)))))))) (.c (.s (.r (rz 1 0 0)) (.n)) (.n))))) (.r (rz 2 0 0)))))))) (.s (.r (ra 4 0 0 (.grp 127 true (ri 5 4 256) [132] (ra 2 9 0 (.grp 134 true (ri 6 11 256) [140] (rz 1 17 0)))))) (.c (.s (.r (rz 1 0 0)) (.n)) (.n)))))) (.r (rz 2 0 0)))))))))) (.r (rz 2 0 0)))))))) (.s (.r (rz 1 0 0)) (.n))))))) func121 rfl (by kernel_rfl) (by kernel_rfl) h
def jG (t0 t1 : Value) (w : World) (K : VW) : Prop:=
 bt .geq 3 t0 (i6 0) fun t5=>za (fun K1=>gIf t5 true (lo w 3 t1 fun t8=>bf .lss 3 t0 t8 fun t9=>K1 [t9] w) (K1 [undef] w)) (fun s2 _d3 w4=>
 zb t5 (s2.getD 0 undef) fa_ fun t10=>K t10 w4)
theorem Xw {t0 t1 : Value} {w : World} {K : VW} (h : jG t0 t1 w K) : zd prog jD #[t0,t1] w K:=
 okC false (.s (.r (rz 1 0 0)) (.s (.r (ra 3 0 0 (.grp 6 true (ri 3 3 4) [9] (rz 2 6 0)))) (.n))) func122 rfl (by kernel_rfl) (by kernel_rfl) h
def jH (t0 t1 : Value) (w : World) (K : VW) : Prop:=
 pw w (Instr.box 147 t0) fun t2 w1=>
 pw w1 (Instr.box 61 t1) fun t3 w2=>
 pw w2 (Instr.alloc 93 true (.tuple #[])) fun t4 w3=>
 fl w3 t3 61 0 59 fun t9=>bt .eql 59 t9 (Value.int .u8 1) fun t11=>zc t11 (pp (Instr.build 93 #[(0,(Value.int .u8 1))]) fun t12=>fl w3 t3 61 2 58 fun t14=>ca xu #[t14] w3 fun t15 w4=>
 so w4 93 t4 t12 fun w5=>pq w5 (zn 93 t4) fun r6=>K (.tuple #[r6,t15]) w5) (bt .eql 59 t9 (Value.int .u8 2) fun t17=>zc t17 (pp (Instr.build 93 #[(0,(Value.int .u8 2))]) fun t18=>fl w3.drew t3 61 2 58 fun t20=>ca xu #[t20] w3.drew fun t21 w7=>
 za (fun K8=>gIf t21 true (fl w7 t3 61 1 2 fun t24=>bt .eql 2 t24 (i6 0) fun t25=>K8 [t25] w7) (K8 [undef] w7)) (fun s9 _d10 w11=>
 za (fun K12=>gIf (s9.getD 0 undef) false (pf 61 t3 1 fun t27=>K12 [t27] w11) (K12 [undef] w11)) (fun s13 _d14 w15=>
 ((za (fun K16=>gIf (s9.getD 0 undef) false (pw w15 (Instr.loadAt 2 (s13.getD 0 undef)) fun t28 w20=>
 bt .eql 2 t28 (i6 1) fun t29=>K16 [t29] w20) (K16 [undef] w15)) (fun s17 _d18 w19=>
 za (fun K21=>gIf t21 true (zb (s9.getD 0 undef) tr_ (s17.getD 0 undef) fun t30=>K21 [t30] w19) (K21 [undef] w19)) (fun s22 _d23 w24=>
 zb t21 (s22.getD 0 undef) fa_ fun t31=>so w24 93 t4 t18 fun w25=>pq w25 (zn 93 t4) fun r26=>K (.tuple #[r26,t31]) w25)))∧
 (so w15 93 t4 t18 fun w27=>za (fun K28=>gIf (s9.getD 0 undef) false (pw w27 (Instr.loadAt 2 (s13.getD 0 undef)) fun t28_33 w32=>
 bt .eql 2 t28_33 (i6 1) fun t29_34=>K28 [t29_34] w32) (K28 [undef] w27)) (fun s29 _d30 w31=>
 za (fun K35=>gIf t21 true (zb (s9.getD 0 undef) tr_ (s29.getD 0 undef) fun t30_39=>K35 [t30_39] w31) (K35 [undef] w31)) (fun s36 _d37 w38=>
 zb t21 (s36.getD 0 undef) fa_ fun t31_40=>pq w38 (zn 93 t4) fun r41=>K (.tuple #[r41,t31_40]) w38))))))) (lo w3 147 t2 fun t32=>fl w3 t3 61 2 58 fun t34=>ca zu #[t32,t34] w3 fun t35 w42=>
 pw w42 (Instr.alloc 189 true (.tuple #[])) fun t6 w43=>
 so w43 189 t6 t35 fun w44=>fl w44 t6 189 2 4 fun t37=>za (fun K45=>gIf t37 true (fl w44 t3 61 1 2 fun t40=>bt .eql 2 t40 (i6 0) fun t41=>K45 [t41] w44) (K45 [undef] w44)) (fun s46 _d47 w48=>
 zb t37 (s46.getD 0 undef) fa_ fun t42=>fl w48 t3 61 0 59 fun t44=>bt .eql 59 t44 (Value.int .u8 3) fun t46=>zc t46 (fl w48.drew t6 189 0 93 fun t48=>za (fun K49=>gIf t42 true (fl w48.drew t6 189 0 93 fun t52=>ca qE #[t52] w48.drew fun t53 w53=>
 Ext w48.drew w53∧
 K49 [t53] w53) (K49 [undef] w48.drew)) (fun s50 _d51 w52=>
 zb t42 (s50.getD 0 undef) fa_ fun t54=>so w52 93 t4 t48 fun w54=>pq w54 (zn 93 t4) fun r55=>K (.tuple #[r55,t54]) w54)) (bt .eql 59 t44 (Value.int .u8 4) fun t56=>zc t56 (fl w48.drew t6 189 0 93 fun t58=>za (fun K56=>gIf t42 true (fl w48.drew t6 189 0 93 fun t62=>ca qE #[t62] w48.drew fun t63 w60=>
 Ext w48.drew w60∧
 pp (Op.unary .not t63) fun t64=>K56 [t64] w60) (K56 [undef] w48.drew)) (fun s57 _d58 w59=>
 zb t42 (s57.getD 0 undef) fa_ fun t65=>za (fun K61=>gIf t65 true (pf 189 t6 1 fun t67=>K61 [t67] w59) (K61 [undef] w59)) (fun s62 _d63 w64=>
 ((za (fun K65=>gIf t65 true (pw w64 (Instr.loadAt 3 (s62.getD 0 undef)) fun t68 w69=>
 Ext w64 w69∧
 bt .lss 3 t68 (i6 2) fun t69=>K65 [t69] w69) (K65 [undef] w64)) (fun s66 _d67 w68=>
 zb t65 (s66.getD 0 undef) fa_ fun t70=>so w68 93 t4 t58 fun w70=>pq w70 (zn 93 t4) fun r71=>K (.tuple #[r71,t70]) w70))∧
 (so w64 93 t4 t58 fun w72=>za (fun K73=>gIf t65 true (pw w72 (Instr.loadAt 3 (s62.getD 0 undef)) fun t68_78 w77=>
 Ext w72 w77∧
 bt .lss 3 t68_78 (i6 2) fun t69_79=>K73 [t69_79] w77) (K73 [undef] w72)) (fun s74 _d75 w76=>
 zb t65 (s74.getD 0 undef) fa_ fun t70_80=>pq w76 (zn 93 t4) fun r81=>K (.tuple #[r81,t70_80]) w76)))))) (pp (Instr.build 93 #[]) fun t71=>so w48 93 t4 t71 fun w82=>pq w82 (zn 93 t4) fun r83=>K (.tuple #[r83,fa_]) w82)))))
theorem Xx {t0 t1 : Value} {w : World} {K : VW} (h : jH t0 t1 w K) : zd prog yJ #[t0,t1] w K:=
 okC false (.s (.r (rz 4 0 42)) (.s (.s (.r (rz 2 0 4)) (.b (.s (.r (rz 2 0 0)) (.c (.s (.r (rz 6 0 656)) (.n)) (.s (.r (rz 2 0 0)) (.c (.s (.r (ra 5 0 144 (.grp 22 true (ri 4 5 4) [26] (.grp 26 false (ri 1 9 0) [27] (.bth (.grp 26 false (ri 2 10 2) [29] (.grp 22 true (ri 1 12 0) [30] (rz 3 13 8))) (ra 1 14 2 (.grp 26 false (ri 2 10 2) [29] (.grp 22 true (ri 1 12 0) [30] (ra 1 13 0 (rz 1 15 0)))))))))) (.n)) (.n))))))) (.s (.r (rz 6 0 2705)) (.s (.r (ra 3 0 4 (.grp 38 true (ri 3 3 4) [41] (rz 2 6 0)))) (.s (.s (.r (rz 2 0 4)) (.b (.s (.r (rz 2 0 0)) (.c (.s (.r (ra 4 0 4 (.grp 50 true (ri 3 4 52) [53] (rz 3 7 8)))) (.n)) (.s (.r (rz 2 0 0)) (.c (.s (.r (ra 4 0 4 (.grp 60 true (ri 4 4 52) [64] (ra 2 8 0 (.grp 66 true (ri 1 10 0) [67] (.bth (.grp 66 true (ri 2 11 3) [69] (rz 3 13 8)) (ra 1 14 2 (.grp 66 true (ri 2 11 3) [69] (ra 1 13 0 (rz 1 15 0)))))))))) (.n)) (.n))))))) (.s (.r (rz 3 0 8)) (.n))))))) func124 rfl (by kernel_rfl) (by kernel_rfl) h
def jI (t0 t1 : Value) (w : World) (K : VW) : Prop:=
 pw w (Instr.box 93 t0) fun t2 w1=>
 fl w1 t2 93 0 91 fun t6=>bf .eql 91 t6 t1 fun t8=>K t8 w1
theorem Xy {t0 t1 : Value} {w : World} {K : VW} (h : jI t0 t1 w K) : zd prog jE #[t0,t1] w K:=
 okC false (.s (.r (rz 2 0 2)) (.s (.r (rz 5 0 4)) (.n))) func125 rfl (by kernel_rfl) (by kernel_rfl) h
def jJ (t0 t1 t2 : Value) (w : World) (K : VW) : Prop:=
 fl w t1 64 4 62 fun t6=>pp (Instr.makeFunc (.func 128) #[] #[t2]) fun t8=>ca zX #[t6,t0,t8] w fun t9 w1=>
 K t9 w1
theorem Xz {t0 t1 t2 : Value} {w : World} {K : VW} (h : jJ t0 t1 t2 w K) : zd prog jF #[t0,t1,t2] w K:=
 okC false (.s (.r (rz 1 0 0)) (.s (.r (rz 6 0 516)) (.n))) func126 rfl (by kernel_rfl) (by kernel_rfl) h
def qU (t0 t1 t2 : Value) (w : World) (K : VW) : Prop:=
 pw w (Instr.box 61 t0) fun t3 w1=>
 pw w1 (Instr.box 93 t1) fun t4 w2=>
 lo w2 147 t2 fun t9=>lo w2 61 t3 fun t10=>ca yJ #[t9,t10] w2 fun t11 w3=>
 pe t11 0 fun t12=>pe t11 1 fun t13=>pw w3 (Instr.alloc 93 true (.tuple #[])) fun t6 w4=>
 so w4 93 t6 t12 fun w5=>za (fun K6=>gIf t13 true (lo w5 93 t6 fun t16=>lo w5 93 t4 fun t17=>ca xi #[t16,t17] w5 fun t18 w10=>
 K6 [t18] w10) (K6 [undef] w5)) (fun s7 _d8 w9=>
 zb t13 (s7.getD 0 undef) fa_ fun t19=>K t19 w9)
theorem Ys {t0 t1 t2 : Value} {w : World} {K : VW} (h : qU t0 t1 t2 w K) : zd prog qT #[t0,t1,t2] w K:=
 okC false (.s (.r (rz 3 0 10)) (.s (.r (rz 9 0 40997)) (.s (.r (ra 2 0 0 (.grp 15 true (ri 3 2 37) [18] (rz 2 5 0)))) (.n)))) func128 rfl (by kernel_rfl) (by kernel_rfl) h
def Jd (t0 t1 : Value) (w : World) (K : VW) : Prop:=
 pw w (Instr.box 64 t0) fun t2 w1=>
 pw w1 (Instr.box 196 t1) fun t3 w2=>
 fl w2.drew t3 196 0 4 fun t8=>fl w2.drew t3 196 1 4 fun t15=>fl w2.drew t3 196 2 4 fun t23=>fl w2.drew t3 196 3 4 fun t31=>fl w2.drew t3 196 4 4 fun t39=>fl w2.drew t3 196 5 4 fun t46=>fl w2.drew t3 196 6 4 fun t53=>fl w2.drew t3 196 7 4 fun t60=>fl w2.drew t3 196 8 4 fun t67=>fl w2.drew t3 196 9 4 fun t74=>za (fun K3=>gIf t8 false (fl w2.drew t2 64 1 58 fun t11=>ca xu #[t11] w2.drew fun t12 w7=>
 Ext w2.drew w7∧
 K3 [t12] w7) (K3 [undef] w2.drew)) (fun s4 _d5 w6=>
 zb t8 tr_ (s4.getD 0 undef) fun t13=>za (fun K8=>gIf t15 false (fl w6 t2 64 2 61 fun t19=>cv (Value.func (.func 151) #[] #[]) #[t19] w6 fun t20 w12=>
 Ext w6 w12∧
 K8 [t20] w12) (K8 [undef] w6)) (fun s9 _d10 w11=>
 zb t15 tr_ (s9.getD 0 undef) fun t21=>za (fun K13=>gIf t23 false (fl w11 t2 64 3 61 fun t27=>cv (Value.func (.func 151) #[] #[]) #[t27] w11 fun t28 w17=>
 Ext w11 w17∧
 K13 [t28] w17) (K13 [undef] w11)) (fun s14 _d15 w16=>
 zb t23 tr_ (s14.getD 0 undef) fun t29=>za (fun K18=>gIf t31 false (fl w16 t2 64 4 62 fun t34=>pp (Builtin.len_ #[62] 3 #[t34]) fun t35=>bt .eql 3 t35 (i6 0) fun t36=>K18 [t36] w16) (K18 [undef] w16)) (fun s19 _d20 w21=>
 zb t31 tr_ (s19.getD 0 undef) fun t37=>za (fun K22=>gIf t39 false (fl w21 t2 64 5 9 fun t42=>bt .eql 9 t42 (Value.string { data:=#[] }) fun t43=>K22 [t43] w21) (K22 [undef] w21)) (fun s23 _d24 w25=>
 zb t39 tr_ (s23.getD 0 undef) fun t44=>za (fun K26=>gIf t46 false (fl w25 t2 64 6 58 fun t49=>ca xu #[t49] w25 fun t50 w30=>
 Ext w25 w30∧
 K26 [t50] w30) (K26 [undef] w25)) (fun s27 _d28 w29=>
 zb t46 tr_ (s27.getD 0 undef) fun t51=>za (fun K31=>gIf t53 false (fl w29 t2 64 7 4 fun t56=>pp (Op.unary .not t56) fun t57=>K31 [t57] w29) (K31 [undef] w29)) (fun s32 _d33 w34=>
 zb t53 tr_ (s32.getD 0 undef) fun t58=>za (fun K35=>gIf t60 false (fl w34 t2 64 8 3 fun t63=>bt .eql 3 t63 (i6 0) fun t64=>K35 [t64] w34) (K35 [undef] w34)) (fun s36 _d37 w38=>
 zb t60 tr_ (s36.getD 0 undef) fun t65=>za (fun K39=>gIf t67 false (fl w38 t2 64 9 3 fun t70=>bt .eql 3 t70 (i6 0) fun t71=>K39 [t71] w38) (K39 [undef] w38)) (fun s40 _d41 w42=>
 zb t67 tr_ (s40.getD 0 undef) fun t72=>za (fun K43=>gIf t74 false (fl w42 t2 64 11 3 fun t77=>bt .eql 3 t77 (i6 0) fun t78=>K43 [t78] w42) (K43 [undef] w42)) (fun s44 _d45 w46=>
 zb t74 tr_ (s44.getD 0 undef) fun t79=>pw w46 (Instr.buildSlice 52 10 #[(0,t13),(1,t21),(2,t29),(3,t37),(4,t44),(5,t51),(6,t58),(7,t65),(8,t72),(9,t79)]) fun t80 w47=>
 ca xa #[t80,fa_] w47 fun t82 w48=>
 pp (Op.unary .not t82) fun t83=>K t83 w48))))))))))
theorem ado {t0 t1 : Value} {w : World} {K : VW} (h : Jd t0 t1 w K) : zd prog zT #[t0,t1] w K:=
 okC false (.s (.r (rz 3 0 10)) (.s (.r (rz 1 0 0)) (.s (.r (ra 3 0 4 (ra 2 7 4 (ra 2 15 4 (ra 2 23 4 (ra 2 31 4 (ra 2 38 4 (ra 2 45 4 (ra 2 52 4 (ra 2 59 4 (ra 2 66 4 (.grp 9 false (ri 3 3 52) [12] (ra 1 6 0 (ra 1 9 0 (.grp 16 false (ri 4 10 208) [20] (ra 1 14 0 (ra 1 17 0 (.grp 24 false (ri 4 18 208) [28] (ra 1 22 0 (ra 1 25 0 (ra 1 33 0 (ra 1 40 0 (.grp 32 false (ri 4 26 4) [36] (ra 1 30 0 (.grp 40 false (ri 3 34 4) [43] (ra 1 37 0 (.grp 47 false (ri 3 41 52) [50] (ra 1 44 0 (ra 1 47 0 (ra 1 54 0 (ra 1 61 0 (ra 1 68 0 (.grp 54 false (ri 3 48 4) [57] (ra 1 51 0 (.grp 61 false (ri 3 55 4) [64] (ra 1 58 0 (.grp 68 false (ri 3 62 4) [71] (ra 1 65 0 (.grp 75 false (ri 3 69 4) [78] (rz 3 72 8)))))))))))))))))))))))))))))))))))))))) (.s (.r (rz 4 0 8)) (.n))))) func130 rfl (by kernel_rfl) (by kernel_rfl) h
def Y2 (t0 t1 : Value) (w : World) (K : VW) : Prop:=
 pw w (Instr.box 163 t1) fun t3 w1=>
 pw w1 (Instr.alloc 81 true (.tuple #[])) fun t4 w2=>
 pp (Instr.makeFunc (.func 159) #[] #[t3,t4]) fun t7=>so w2 81 t4 t7 fun w3=>pp (Builtin.len_ #[39] 3 #[t0]) fun t9=>zo [(i6 0)] w3 (fun s5 _d6 w7 K4=>
 bf .lss 3 (s5.getD 0 undef) t9 fun t11=>zc t11 (xl w7 39 t0 (s5.getD 0 undef) 93 fun t13=>pw w7 (Instr.alloc 93 true (.tuple #[])) fun t6 w8=>
 so w8 93 t6 t13 fun w9=>lo w9.drew 81 t4 fun t14=>lo w9.drew 93 t6 fun t15=>ca kZ #[t15] w9.drew fun t16 w10=>
 Ext w9.drew w10∧
 cv t14 #[t16] w10 fun _t17 w11=>
 bt .add 3 (s5.getD 0 undef) (i6 1) fun t18=>K4 [t18] w11) (K (.tuple #[]) w7))
theorem aai {t0 t1 : Value} {w : World} {K : VW} (h : Y2 t0 t1 w K) : zd prog jW #[t0,t1] w K:=
 okC false (.s (.r (rz 1 0 2)) (.s (.r (rz 1 0 2)) (.s (.r (rz 2 0 8)) (.s (.r (rz 3 0 0)) (.b (.lp [10] (.s (.r (rz 1 0 0)) (.s (.c (.n) (.n)) (.s (.b (.s (.r (rz 4 0 164)) (.r (rz 4 0 181)))) (.r (rz 2 0 0))))))))))) func146 rfl (by kernel_rfl) (by kernel_rfl) h
def Je (t0 : Value) (w : World) (K : VW) : Prop:=
 pw w (Instr.box 58 t0) fun t1 w1=>
 fl w1 t1 58 0 3 fun t4=>bt .eql 3 t4 (i6 0) fun t5=>za (fun K2=>gIf t5 true (fl w1 t1 58 1 56 fun t8=>pp (Builtin.len_ #[56] 3 #[t8]) fun t9=>bt .eql 3 t9 (i6 0) fun t10=>K2 [t10] w1) (K2 [undef] w1)) (fun s3 _d4 w5=>
 zb t5 (s3.getD 0 undef) fa_ fun t11=>K t11 w5)
theorem adp {t0 : Value} {w : World} {K : VW} (h : Je t0 w K) : zd prog xu #[t0] w K:=
 okC false (.s (.r (rz 2 0 2)) (.s (.r (ra 4 0 4 (.grp 6 true (ri 4 4 4) [10] (rz 2 8 0)))) (.n))) func147 rfl (by kernel_rfl) (by kernel_rfl) h
def XN (t0 : Value) (w : World) (K : VW) : Prop:=
 pw w (Instr.box 61 t0) fun t1 w1=>
 fl w1 t1 61 0 59 fun t4=>bt .eql 59 t4 (Value.int .u8 0) fun t5=>za (fun K2=>gIf t5 true (fl w1 t1 61 1 2 fun t8=>bt .eql 2 t8 (i6 0) fun t9=>K2 [t9] w1) (K2 [undef] w1)) (fun s3 _d4 w5=>
 zb t5 (s3.getD 0 undef) fa_ fun t10=>za (fun K6=>gIf t10 true (fl w5 t1 61 2 58 fun t13=>ca xu #[t13] w5 fun t14 w10=>
 K6 [t14] w10) (K6 [undef] w5)) (fun s7 _d8 w9=>
 zb t10 (s7.getD 0 undef) fa_ fun t15=>K t15 w9))
theorem aa3 {t0 : Value} {w : World} {K : VW} (h : XN t0 w K) : zd prog XL #[t0] w K:=
 okC false (.s (.r (rz 2 0 2)) (.s (.r (ra 4 0 4 (.grp 6 true (ri 3 4 4) [9] (ra 2 7 0 (.grp 11 true (ri 3 9 36) [14] (rz 2 12 0)))))) (.n))) func151 rfl (by kernel_rfl) (by kernel_rfl) h
def qX (t0 t1 t2 : Value) (w : World) (K : VW) : Prop:=
 pp (Builtin.len_ #[32] 3 #[t0]) fun t7=>bt .eql 3 t7 (i6 0) fun t8=>zc t8 (K (.tuple #[]) w) (pp (Instr.sliceAt 32 t0 (some (i6 1)) none none) fun t10=>pp (Builtin.len_ #[32] 3 #[t10]) fun t11=>zo [(i6 0)] w (fun s2 _d3 w4 K1=>
 bf .lss 3 (s2.getD 0 undef) t11 fun t13=>zc t13 (xl w4 32 t10 (s2.getD 0 undef) 3 fun t15=>lo w4.drew 163 t1 fun t16=>xl w4.drew 32 t0 (i6 0) 3 fun t20=>aad t16 fun t21=>px 161 t21 t15 fun t22=>px 160 t22 t20 fun t23=>so w4.drew 4 t23 tr_ fun w5=>bt .add 3 (s2.getD 0 undef) (i6 1) fun t24=>K1 [t24] w5) (lo w4.drew 81 t2 fun t25=>pp (Instr.sliceAt 32 t0 (some (i6 1)) none none) fun t27=>cv t25 #[t27] w4.drew fun _t28 w6=>
 K (.tuple #[]) w6)))
theorem Zr {t0 t1 t2 : Value} {w : World} {K : VW} (h : qX t0 t1 t2 w K) : zd prog ZW #[t0,t1,t2] w K:=
 okC false (.s (.s (.r (rz 3 0 0)) (.c (.n) (.n))) (.s (.s (.r (rz 4 0 0)) (.b (.lp [12] (.s (.r (rz 1 0 0)) (.s (.c (.n) (.n)) (.s (.b (.s (.r (rz 3 0 4)) (.r (rz 9 0 131329)))) (.r (rz 2 0 0)))))))) (.r (rz 4 0 129)))) func159 rfl (by kernel_rfl) (by kernel_rfl) h
end Go.Proofs.Tryz
end
section
namespace Go.Proofs.Tryz
open Go.Sh
set_option maxRecDepth 100000
def yW (t0 t1 : Value) (w : World) (K : VW) : Prop:=
 ca yF #[t0,t1] w fun t7 w1=>
 bt .geq 3 t7 (i6 0) fun t8=>K t8 w1
theorem xQ {t0 t1 : Value} {w : World} {K : VW} (h : yW t0 t1 w K) : zd prog zP #[t0,t1] w K:=
 okC false (.s (.r (rz 1 0 0)) (.s (.r (rz 5 0 32)) (.n))) func46 rfl (by kernel_rfl) (by kernel_rfl) h
def xj (t0 t1 : Value) (w : World) (K : VW) : Prop:=
 pp (Builtin.len_ #[32] 3 #[t0]) fun t7=>zo [(i6 0)] w (fun s2 _d3 w4 K1=>
 bf .lss 3 (s2.getD 0 undef) t7 fun t9=>zc t9 (xl w4 32 t0 (s2.getD 0 undef) 3 fun t15=>cv t1 #[t15] w4 fun t16 w5=>
 zc t16 (K (s2.getD 0 undef) w5) (bt .add 3 (s2.getD 0 undef) (i6 1) fun t18=>K1 [t18] w5)) (K (i6 (-1)) w4))
theorem kv {t0 t1 : Value} {w : World} {K : VW} (h : xj t0 t1 w K) : zd prog yF #[t0,t1] w K:=
 okC false (.s (.r (rz 1 0 0)) (.s (.s (.r (rz 3 0 0)) (.b (.lp [8] (.s (.r (rz 1 0 0)) (.s (.c (.n) (.n)) (.s (.b (.s (.r (rz 2 0 0)) (.s (.r (rz 6 0 2304)) (.c (.s (.r (rz 2 0 0)) (.n)) (.n))))) (.r (rz 2 0 0)))))))) (.s (.r (rz 1 0 0)) (.n)))) func63 rfl (by kernel_rfl) (by kernel_rfl) h
def yM (t0 t1 : Value) (w : World) (K : VW) : Prop:=
 ca yY #[t0,t1] w fun t7 w1=>
 bt .geq 3 t7 (i6 0) fun t8=>K t8 w1
theorem ki {t0 t1 : Value} {w : World} {K : VW} (h : yM t0 t1 w K) : zd prog zL #[t0,t1] w K:=
 okC false (.s (.r (rz 1 0 0)) (.s (.r (rz 5 0 32)) (.n))) func109 rfl (by kernel_rfl) (by kernel_rfl) h
def zY (t0 t1 t2 : Value) (w : World) (K : VW) : Prop:=
 pp (Builtin.len_ #[62] 3 #[t0]) fun t11=>pp (Builtin.len_ #[39] 3 #[t1]) fun t13=>bf .neq 3 t11 t13 fun t14=>zc t14 (K fa_ w) (pp (Builtin.len_ #[62] 3 #[t0]) fun t16=>zo [(i6 0)] w (fun s2 _d3 w4 K1=>
 bf .lss 3 (s2.getD 0 undef) t16 fun t18=>zc t18 (xl w4 62 t0 (s2.getD 0 undef) 61 fun t21=>pw w4 (Instr.alloc 61 true (.tuple #[])) fun t8 w5=>
 so w5 61 t8 t21 fun w6=>xl w6 39 t1 (s2.getD 0 undef) 93 fun t25=>pw w6 (Instr.alloc 93 true (.tuple #[])) fun t9 w7=>
 so w7 93 t9 t25 fun w8=>lo w8 61 t8 fun t27=>lo w8 93 t9 fun t28=>cv t2 #[t27,t28] w8 fun t29 w9=>
 pp (Op.unary .not t29) fun t30=>zc t30 (K fa_ w9) (bt .add 3 (s2.getD 0 undef) (i6 1) fun t31=>K1 [t31] w9)) (K tr_ w4)))
theorem yN {t0 t1 t2 : Value} {w : World} {K : VW} (h : zY t0 t1 t2 w K) : zd prog zX #[t0,t1,t2] w K:=
 okC false (.s (.r (rz 1 0 0)) (.s (.s (.r (rz 5 0 0)) (.c (.s (.r (rz 1 0 0)) (.n)) (.n))) (.s (.s (.r (rz 3 0 0)) (.b (.lp [17] (.s (.r (rz 1 0 0)) (.s (.c (.n) (.n)) (.s (.b (.s (.r (rz 6 0 2192)) (.s (.r (rz 6 0 2624)) (.s (.r (rz 5 0 148)) (.c (.s (.r (rz 1 0 0)) (.n)) (.n)))))) (.r (rz 2 0 0)))))))) (.s (.r (rz 1 0 0)) (.n))))) func127 rfl (by kernel_rfl) (by kernel_rfl) h
def yZ (t0 t1 : Value) (w : World) (K : VW) : Prop:=
 pp (Builtin.len_ #[65] 3 #[t0]) fun t7=>zo [(i6 0)] w (fun s2 _d3 w4 K1=>
 bf .lss 3 (s2.getD 0 undef) t7 fun t9=>zc t9 (xl w4 65 t0 (s2.getD 0 undef) 156 fun t15=>cv t1 #[t15] w4 fun t16 w5=>
 zc t16 (K (s2.getD 0 undef) w5) (bt .add 3 (s2.getD 0 undef) (i6 1) fun t18=>K1 [t18] w5)) (K (i6 (-1)) w4))
theorem kJ {t0 t1 : Value} {w : World} {K : VW} (h : yZ t0 t1 w K) : zd prog yY #[t0,t1] w K:=
 okC false (.s (.r (rz 1 0 0)) (.s (.s (.r (rz 3 0 0)) (.b (.lp [8] (.s (.r (rz 1 0 0)) (.s (.c (.n) (.n)) (.s (.b (.s (.r (rz 2 0 0)) (.s (.r (rz 6 0 2304)) (.c (.s (.r (rz 2 0 0)) (.n)) (.n))))) (.r (rz 2 0 0)))))))) (.s (.r (rz 1 0 0)) (.n)))) func142 rfl (by kernel_rfl) (by kernel_rfl) h
def kx (t0 t1 : Value) (w : World) (K : VW) : Prop:=
 ca qi #[t0,t1] w fun t7 w1=>
 bt .geq 3 t7 (i6 0) fun t8=>K t8 w1
theorem vP {t0 t1 : Value} {w : World} {K : VW} (h : kx t0 t1 w K) : zd prog xa #[t0,t1] w K:=
 okC false (.s (.r (rz 1 0 0)) (.s (.r (rz 5 0 32)) (.n))) func152 rfl (by kernel_rfl) (by kernel_rfl) h
def qj (t0 t1 : Value) (w : World) (K : VW) : Prop:=
 pp (Builtin.len_ #[52] 3 #[t0]) fun t7=>zo [(i6 0)] w (fun s2 _d3 w4 K1=>
 bf .lss 3 (s2.getD 0 undef) t7 fun t9=>zc t9 (xl w4 52 t0 (s2.getD 0 undef) 4 fun t15=>bf .eql 4 t1 t15 fun t16=>zc t16 (K (s2.getD 0 undef) w4) (bt .add 3 (s2.getD 0 undef) (i6 1) fun t18=>K1 [t18] w4)) (K (i6 (-1)) w4))
theorem Z8 {t0 t1 : Value} {w : World} {K : VW} (h : qj t0 t1 w K) : zd prog qi #[t0,t1] w K:=
 okC false (.s (.r (rz 1 0 0)) (.s (.s (.r (rz 3 0 0)) (.b (.lp [8] (.s (.r (rz 1 0 0)) (.s (.c (.n) (.n)) (.s (.b (.s (.r (rz 2 0 0)) (.s (.r (rz 6 0 256)) (.c (.s (.r (rz 2 0 0)) (.n)) (.n))))) (.r (rz 2 0 0)))))))) (.s (.r (rz 1 0 0)) (.n)))) func160 rfl (by kernel_rfl) (by kernel_rfl) h
end Go.Proofs.Tryz
end
section
namespace Go.Proofs.Tryz
open Go.Sh
set_option maxRecDepth 100000
def Y3 (t0 : Value) (w : World) (K : VW) : Prop:=
 pw w (Instr.box 93 t0) fun t1 w1=>
 lo w1 93 t1 fun t3=>ca kP #[t3] w1 fun t4 w2=>
 pp (Op.unary .not t4) fun t5=>zc t5 (K (Value.slice Option.none 0 0) w2) (lo w2 93 t1 fun t6=>ca k0 #[t6] w2 fun t7 w3=>
 K t7 w3)
theorem aaj {t0 : Value} {w : World} {K : VW} (h : Y3 t0 w K) : zd prog kZ #[t0] w K:=
 okC false (.s (.r (rz 2 0 2)) (.s (.s (.r (rz 3 0 9)) (.c (.s (.r (rz 1 0 0)) (.n)) (.n))) (.s (.r (rz 3 0 9)) (.n)))) func119 rfl (by kernel_rfl) (by kernel_rfl) h
def VO (t0 : Value) (w : World) (K : VW) : Prop:=
 pw w (Instr.box 93 t0) fun t1 w1=>
 lo w1 93 t1 fun t3=>ca kg #[t3,(i6 32),(i6 48)] w1 fun t4 w2=>
 K t4 w2
theorem aeA {t0 : Value} {w : World} {K : VW} (h : VO t0 w K) : zd prog kP #[t0] w K:=
 okC false (.s (.r (rz 2 0 2)) (.s (.r (rz 3 0 9)) (.n))) func145 rfl (by kernel_rfl) (by kernel_rfl) h
def VP (t0 : Value) (w : World) (K : VW) : Prop:=
 pw w (Instr.box 93 t0) fun t1 w1=>
 pw w1 (Instr.alloc 93 true (.tuple #[])) fun t2 w2=>
 za (fun K3=>
 fl w2 t1 93 4 39 fun t4=>pp (Builtin.len_ #[39] 3 #[t4]) fun t5=>bt .gtr 3 t5 (i6 0) fun t6=>zc t6 (fl w2 t1 93 4 39 fun t8=>xl w2 39 t8 (i6 0) 93 fun t10=>ca Zb #[t10] w2 fun t11 w7=>
 pw w7 (Instr.buildSlice 39 1 #[(0,t11)]) fun t12 w8=>
 pf 93 t1 4 fun t13=>so w8 39 t13 t12 fun w9=>K3 [] w9) (pf 93 t1 4 fun t14=>so w2 39 t14 (Value.slice Option.none 0 0) fun w10=>K3 [] w10)) (fun _s4 _d5 w6=>
 lo w6 93 t1 fun t15=>so w6 93 t2 t15 fun w11=>pq w11 (zn 93 t2) fun r12=>K r12 w11)
theorem aeB {t0 : Value} {w : World} {K : VW} (h : VP t0 w K) : zd prog Zb #[t0] w K:=
 okC false (.s (.r (rz 2 0 10)) (.j [] (.s (.r (rz 4 0 4)) (.c (.r (rz 8 0 35396)) (.r (rz 2 0 8)))) (.s (.r (rz 2 0 9)) (.n)))) func153 rfl (by kernel_rfl) (by kernel_rfl) h
def Y4 (t0 : Value) (w : World) (K : VW) : Prop:=
 pw w (Instr.box 93 t0) fun t1 w1=>
 pw w1 (Instr.alloc 32 true (.tuple #[])) fun t3 w2=>
 pp (Instr.makeFunc (.func 144) #[] #[t3]) fun t4=>ca jU #[t1,t4] w2 fun _t5 w3=>
 lo w3 32 t3 fun t6=>K t6 w3
theorem aak {t0 : Value} {w : World} {K : VW} (h : Y4 t0 w K) : zd prog k0 #[t0] w K:=
 okC false (.s (.r (rz 2 0 2)) (.s (.r (rz 1 0 2)) (.s (.r (rz 2 0 8)) (.s (.r (rz 2 0 1)) (.n))))) func112 rfl (by kernel_rfl) (by kernel_rfl) h
def Y5 (t0 : Value) (w : World) (K : VW) : Prop:=
 pw w (Instr.box 22 t0) fun t1 w1=>
 lo w1 22 t1 fun t9=>pp (Builtin.len_ #[22] 3 #[t9]) fun t10=>pw w1 (Instr.alloc 3 true (.tuple #[])) fun t4 w2=>
 so w2 3 t4 t10 fun w3=>lo w3 3 t4 fun t11=>bt .gtr 3 t11 (i6 32) fun t12=>zc t12 (K (.tuple #[(i6 32),(i6 2)]) w3) (pp (Instr.makeFunc (.func 108) #[] #[t1,t4]) fun t13=>pp (Instr.makeFunc (.func 113) #[] #[t1]) fun t14=>pp (Instr.makeFunc (.func 115) #[] #[t1]) fun t15=>pw w3 (Instr.buildSlice 184 3 #[(0,t13),(1,t14),(2,t15)]) fun t16 w4=>
 pp (Builtin.len_ #[184] 3 #[t16]) fun t18=>zo [(i6 0)] w4 (fun s6 _d7 w8 K5=>
 bf .lss 3 (s6.getD 0 undef) t18 fun t20=>zc t20 (xl w8 184 t16 (s6.getD 0 undef) 79 fun t22=>lo w8 3 t4 fun t23=>ca Zy #[t23,t22] w8 fun t25 w9=>
 lo w9 3 t4 fun t27=>bf .lss 3 t25 t27 fun t28=>zc t28 (K (.tuple #[t25,(i6 2)]) w9) (bt .add 3 (s6.getD 0 undef) (i6 1) fun t30=>K5 [t30] w9)) (K (.tuple #[(i6 0),(i6 0)]) w8)))
theorem aal {t0 : Value} {w : World} {K : VW} (h : Y5 t0 w K) : zd prog k6 #[t0] w K:=
 okC false (.s (.r (rz 3 0 2)) (.s (.r (rz 4 0 161)) (.s (.s (.r (rz 2 0 1)) (.c (.s (.r (rz 2 0 0)) (.n)) (.n))) (.s (.r (rz 5 0 128)) (.s (.s (.r (rz 3 0 0)) (.b (.lp [19] (.s (.r (rz 1 0 0)) (.s (.c (.n) (.n)) (.s (.b (.s (.r (rz 3 0 4)) (.s (.r (rz 4 0 33)) (.s (.r (rz 3 0 4)) (.c (.s (.r (rz 3 0 0)) (.n)) (.n)))))) (.r (rz 2 0 0)))))))) (.s (.r (rz 2 0 0)) (.n))))))) func83 rfl (by kernel_rfl) (by kernel_rfl) h
def VQ (t0 t1 : Value) (w : World) (K : VW) : Prop:=
 pw w (Instr.box 93 t1) fun t3 w1=>
 ca k6 #[t0] w1 fun t9 w2=>
 pe t9 0 fun _t10=>pe t9 1 fun t11=>bt .eql 29 t11 (i6 0) fun t13=>za (fun K3=>gIf t13 true (lo w2 93 t3 fun t15=>pp (Builtin.len_ #[22] 3 #[t0]) fun t17=>ca kg #[t15,t17,(i6 48)] w2 fun t18 w7=>
 K3 [t18] w7) (K3 [undef] w2)) (fun s4 _d5 w6=>
 zb t13 (s4.getD 0 undef) fa_ fun t19=>K t19 w6)
theorem aeC {t0 t1 : Value} {w : World} {K : VW} (h : VQ t0 t1 w K) : zd prog jc #[t0,t1] w K:=
 okC false (.s (.r (rz 2 0 2)) (.s (.r (rz 7 0 8)) (.s (.r (ra 3 0 0 (.grp 14 true (ri 4 3 129) [18] (rz 2 7 0)))) (.n)))) func118 rfl (by kernel_rfl) (by kernel_rfl) h
def Jf (t0 t1 : Value) (w : World) (K : VW) : Prop:=
 za (fun K1=>
 ff w t0 93 0 91 fun t7=>bt .eql 91 t7 (Value.int .u8 4) fun t8=>zc t8 (cv t1 #[t0] w fun _t11 w5=>
 K1 [] w5) (K1 [] w)) (fun _s2 _d3 w4=>
 ff w4 t0 93 4 39 fun t15=>pp (Builtin.len_ #[39] 3 #[t15]) fun t16=>bt .gtr 3 t16 (i6 0) fun t17=>zc t17 (ff w4 t0 93 4 39 fun t21=>px 39 t21 (i6 0) fun t22=>ca jU #[t22,t1] w4 fun _t24 w6=>
 K (.tuple #[]) w6) (K (.tuple #[]) w4))
theorem adq {t0 t1 : Value} {w : World} {K : VW} (h : Jf t0 t1 w K) : zd prog jU #[t0,t1] w K:=
 okC false (.j [] (.s (.r (rz 5 0 64)) (.c (.r (rz 3 0 32)) (.n))) (.s (.r (rz 6 0 64)) (.c (.r (rz 7 0 8256)) (.n)))) func143 rfl (by kernel_rfl) (by kernel_rfl) h
def Yt (t0 t1 t2 : Value) (w : World) (K : VW) : Prop:=
 pw w (Instr.box 93 t0) fun t3 w1=>
 bt .eql 3 t2 (i6 0) fun t10=>zc t10 (K fa_ w1) (fl w1 t3 93 4 39 fun t12=>pp (Builtin.len_ #[39] 3 #[t12]) fun t13=>bt .eql 3 t13 (i6 1) fun t14=>za (fun K2=>gIf t14 true (fl w1 t3 93 4 39 fun t17=>xl w1 39 t17 (i6 0) 93 fun t19=>bt .sub 3 t2 (i6 1) fun t22=>ca kg #[t19,t1,t22] w1 fun t23 w6=>
 K2 [t23] w6) (K2 [undef] w1)) (fun s3 _d4 w5=>
 zb t14 (s3.getD 0 undef) fa_ fun t24=>fl w5 t3 93 1 4 fun t26=>pp (Op.unary .not t26) fun t27=>za (fun K7=>gIf t27 true (fl w5 t3 93 2 3 fun t30=>bt .eql 3 t30 (i6 0) fun t31=>K7 [t31] w5) (K7 [undef] w5)) (fun s8 _d9 w10=>
 zb t27 (s8.getD 0 undef) fa_ fun t32=>fl w10 t3 93 0 91 fun t34=>za (fun K11=>
 bt .eql 91 t34 (Value.int .u8 1) fun t36=>zc t36 (K11 [t36] w10) (bt .eql 91 t34 (Value.int .u8 2) fun t37=>K11 [t37] w10)) (fun s12 _d13 w14=>
 zc (s12.getD 0 undef) (za (fun K15=>gIf t32 true (fl w14 t3 93 3 3 fun t41=>bt .eql 3 t41 (i6 0) fun t42=>K15 [t42] w14) (K15 [undef] w14)) (fun s16 _d17 w18=>
 zb t32 (s16.getD 0 undef) fa_ fun t43=>za (fun K19=>gIf t43 true (fl w18 t3 93 4 39 fun t46=>pp (Builtin.len_ #[39] 3 #[t46]) fun t47=>bt .eql 3 t47 (i6 0) fun t48=>K19 [t48] w18) (K19 [undef] w18)) (fun s20 _d21 w22=>
 zb t43 (s20.getD 0 undef) fa_ fun t49=>K t49 w22))) (bt .eql 91 t34 (Value.int .u8 5) fun t51=>zc t51 (za (fun K23=>gIf t32 true (fl w14 t3 93 4 39 fun t55=>pp (Builtin.len_ #[39] 3 #[t55]) fun t56=>bt .eql 3 t56 (i6 0) fun t57=>K23 [t57] w14) (K23 [undef] w14)) (fun s24 _d25 w26=>
 zb t32 (s24.getD 0 undef) fa_ fun t58=>za (fun K27=>gIf t58 true (fl w26 t3 93 3 3 fun t61=>bt .geq 3 t61 (i6 0) fun t62=>K27 [t62] w26) (K27 [undef] w26)) (fun s28 _d29 w30=>
 zb t58 (s28.getD 0 undef) fa_ fun t63=>za (fun K31=>gIf t63 true (fl w30 t3 93 3 3 fun t66=>bf .lss 3 t66 t1 fun t68=>K31 [t68] w30) (K31 [undef] w30)) (fun s32 _d33 w34=>
 zb t63 (s32.getD 0 undef) fa_ fun t69=>K t69 w34)))) (bt .eql 91 t34 (Value.int .u8 3) fun t71=>zc t71 (za (fun K35=>gIf t32 true (fl w14 t3 93 3 3 fun t75=>bt .eql 3 t75 (i6 0) fun t76=>K35 [t76] w14) (K35 [undef] w14)) (fun s36 _d37 w38=>
 zb t32 (s36.getD 0 undef) fa_ fun t77=>za (fun K39=>gIf t77 true (K39 [t24] w38) (K39 [undef] w38)) (fun s40 _d41 w42=>
 zb t77 (s40.getD 0 undef) fa_ fun t80=>K t80 w42))) (bt .eql 91 t34 (Value.int .u8 4) fun t82=>zc t82 (fl w14 t3 93 2 3 fun t84=>bt .geq 3 t84 (i6 (-1)) fun t85=>za (fun K43=>gIf t85 true (fl w14 t3 93 3 3 fun t88=>bt .eql 3 t88 (i6 0) fun t89=>K43 [t89] w14) (K43 [undef] w14)) (fun s44 _d45 w46=>
 zb t85 (s44.getD 0 undef) fa_ fun t90=>za (fun K47=>gIf t90 true (K47 [t24] w46) (K47 [undef] w46)) (fun s48 _d49 w50=>
 zb t90 (s48.getD 0 undef) fa_ fun t93=>K t93 w50))) (K fa_ w14))))))))
theorem QE {t0 t1 t2 : Value} {w : World} {K : VW} (h : Yt t0 t1 t2 w K) : zd prog kg #[t0,t1,t2] w K:=
 okC false (.s (.r (rz 2 0 2)) (.s (.s (.r (rz 2 0 0)) (.c (.s (.r (rz 1 0 0)) (.n)) (.n))) (.s (.r (ra 5 0 4 (.grp 15 true (ri 8 5 32836) [23] (rz 2 13 0)))) (.s (.r (ra 4 0 4 (.grp 28 true (ri 3 4 4) [31] (rz 2 7 0)))) (.s (.s (.r (rz 2 0 4)) (.b (.j [35] (.s (.r (rz 2 0 0)) (.c (.n) (.r (rz 2 0 0)))) (.c (.s (.r (ra 2 0 0 (.grp 39 true (ri 3 2 4) [42] (ra 2 5 0 (.grp 44 true (ri 4 7 4) [48] (rz 2 11 0)))))) (.n)) (.s (.r (rz 2 0 0)) (.c (.s (.r (ra 2 0 0 (.grp 53 true (ri 4 2 4) [57] (ra 2 6 0 (.grp 59 true (ri 3 8 4) [62] (ra 2 11 0 (.grp 64 true (ri 4 13 4) [68] (rz 2 17 0)))))))) (.n)) (.s (.r (rz 2 0 0)) (.c (.s (.r (ra 2 0 0 (.grp 73 true (ri 3 2 4) [76] (ra 2 5 0 (.grp 78 true (ri 1 7 0) [79] (rz 2 8 0)))))) (.n)) (.s (.r (rz 2 0 0)) (.c (.s (.r (ra 4 0 4 (.grp 86 true (ri 3 4 4) [89] (ra 2 7 0 (.grp 91 true (ri 1 9 0) [92] (rz 2 10 0)))))) (.n)) (.n))))))))))) (.s (.r (rz 1 0 0)) (.n))))))) func111 rfl (by kernel_rfl) (by kernel_rfl) h
def ZX (t0 t1 : Value) (w : World) (K : VW) : Prop:=
 lo w.drew 32 t1 fun t3=>ff w.drew t0 93 2 3 fun t7=>pw w.drew (Instr.buildSlice 32 1 #[(0,t7)]) fun t8 w1=>
 Ext w.drew w1∧
 pw w1 (Builtin.append_ #[32,32] 32 #[t3,t8]) fun t9 w2=>
 so w2 32 t1 t9 fun w3=>K (.tuple #[]) w3
theorem Jg {t0 t1 : Value} {w : World} {K : VW} (h : ZX t0 t1 w K) : zd prog qV #[t0,t1] w K:=
 okC false (.r (rz 8 0 44289)) func144 rfl (by kernel_rfl) (by kernel_rfl) h
def ZY (t0 t1 t2 : Value) (w : World) (K : VW) : Prop:=
 lo w 22 t1 fun t6=>px 22 t6 t0 fun t8=>fl w t8 67 1 65 fun t10=>pp (Builtin.len_ #[65] 3 #[t10]) fun t12=>bt .lss 3 t12 (i6 1) fun t13=>za (fun K1=>gIf t13 false (pp (Builtin.len_ #[65] 3 #[t10]) fun t16=>bt .gtr 3 t16 (i6 8) fun t17=>K1 [t17] w) (K1 [undef] w)) (fun s2 _d3 w4=>
 zb t13 tr_ (s2.getD 0 undef) fun t18=>za (fun K5=>gIf t18 false (pp (Instr.makeFunc (.func 110) #[] #[t2]) fun t21=>ca zL #[t10,t21] w4 fun t22 w9=>
 K5 [t22] w9) (K5 [undef] w4)) (fun s6 _d7 w8=>
 zb t18 tr_ (s6.getD 0 undef) fun t23=>K t23 w8))
theorem Jh {t0 t1 t2 : Value} {w : World} {K : VW} (h : ZY t0 t1 t2 w K) : zd prog x6 #[t0,t1,t2] w K:=
 okC false (.s (.r (rz 1 0 0)) (.s (.r (rz 6 0 257)) (.s (.r (ra 4 0 0 (.grp 14 false (ri 3 4 0) [17] (ra 2 7 0 (.grp 19 false (ri 3 9 32) [22] (rz 2 12 0)))))) (.n)))) func108 rfl (by kernel_rfl) (by kernel_rfl) h
def vC (t0 t1 : Value) (w : World) (K : VW) : Prop:=
 pw w (Instr.box 156 t0) fun t2 w1=>
 fl w1 t2 156 1 93 fun t5=>lo w1 3 t1 fun t6=>ca kg #[t5,t6,(i6 48)] w1 fun t7 w2=>
 pp (Op.unary .not t7) fun t8=>za (fun K3=>gIf t8 false (fl w2 t2 156 1 93 fun t11=>ca k0 #[t11] w2 fun t12 w7=>
 pp (Builtin.len_ #[32] 3 #[t12]) fun t13=>bt .gtr 3 t13 (i6 0) fun t14=>K3 [t14] w7) (K3 [undef] w2)) (fun s4 _d5 w6=>
 zb t8 tr_ (s4.getD 0 undef) fun t15=>K t15 w6)
theorem Qe {t0 t1 : Value} {w : World} {K : VW} (h : vC t0 t1 w K) : zd prog QW #[t0,t1] w K:=
 okC false (.s (.r (rz 2 0 2)) (.s (.r (ra 6 0 148 (.grp 9 false (ri 5 6 36) [14] (rz 2 11 0)))) (.n))) func110 rfl (by kernel_rfl) (by kernel_rfl) h
def ZZ (t0 t1 : Value) (w : World) (K : VW) : Prop:=
 lo w 22 t1 fun t4=>ca jV #[t4,t0] w fun t6 w1=>
 K t6 w1
theorem Ji {t0 t1 : Value} {w : World} {K : VW} (h : ZZ t0 t1 w K) : zd prog x7 #[t0,t1] w K:=
 okC false (.s (.r (rz 1 0 0)) (.s (.r (rz 4 0 33)) (.n))) func113 rfl (by kernel_rfl) (by kernel_rfl) h
def Y6 (t0 t1 : Value) (w : World) (K : VW) : Prop:=
 pw w (Instr.alloc 205 true (.tuple #[])) fun t5 w1=>
 pw w1 (Instr.buildSlice 32 1 #[(0,t1)]) fun t11 w2=>
 zo [t11] w2 (fun s4 _d5 w6 K3=>
 pp (Builtin.len_ #[32] 3 #[(s4.getD 0 undef)]) fun t13=>bt .gtr 3 t13 (i6 0) fun t14=>zc t14 (xl w6 32 (s4.getD 0 undef) (i6 0) 3 fun t17=>pp (Instr.sliceAt 32 (s4.getD 0 undef) (some (i6 1)) none none) fun t19=>px 22 t0 t17 fun t22=>fl w6 t22 67 1 65 fun t24=>pp (Builtin.len_ #[65] 3 #[t24]) fun t25=>zo [t19,(i6 0)] w6 (fun s8 _d9 w10 K7=>
 bf .lss 3 (s8.getD 1 undef) t25 fun t27=>zc t27 (za (fun K11=>
 xl w10 65 t24 (s8.getD 1 undef) 156 fun t29=>pw w10 (Instr.alloc 156 true (.tuple #[])) fun t9 w15=>
 so w15 156 t9 t29 fun w16=>pf 156 t9 1 fun t30=>fl w16 t30 93 0 91 fun t32=>bt .neq 91 t32 (Value.int .u8 5) fun t33=>za (fun K17=>gIf t33 false (pf 156 t9 1 fun t35=>fl w16 t35 93 3 3 fun t37=>xl w16 205 t5 t37 4 fun t39=>K17 [t39] w16) (K17 [undef] w16)) (fun s18 _d19 w20=>
 zb t33 tr_ (s18.getD 0 undef) fun t40=>zc t40 (K11 [(s8.getD 0 undef)] w20) (pf 156 t9 1 fun t41=>fl w20 t41 93 3 3 fun t43=>px 205 t5 t43 fun t44=>so w20 4 t44 tr_ fun w21=>pf 156 t9 1 fun t46=>fl w21 t46 93 3 3 fun t48=>pw w21 (Instr.buildSlice 32 1 #[(0,t48)]) fun t49 w22=>
 pw w22 (Builtin.append_ #[32,32] 32 #[(s8.getD 0 undef),t49]) fun t50 w23=>
 K11 [t50] w23))) (fun s12 _d13 w14=>
 bt .add 3 (s8.getD 1 undef) (i6 1) fun t51=>K7 [(s12.getD 0 undef),t51] w14)) (K3 [(s8.getD 0 undef)] w10))) (xl w6 205 t5 t1 4 fun t54=>K t54 w6))
theorem aam {t0 t1 : Value} {w : World} {K : VW} (h : Y6 t0 t1 w K) : zd prog jV #[t0,t1] w K:=
 okC false (.s (.r (rz 1 0 0)) (.s (.r (rz 1 0 2)) (.s (.r (rz 3 0 8)) (.s (.b (.lp [6] (.s (.s (.r (rz 3 0 0)) (.c (.n) (.n))) (.b (.s (.r (rz 4 0 16)) (.s (.r (rz 3 0 0)) (.s (.r (rz 7 0 256)) (.b (.lp [6,26] (.s (.r (rz 1 0 0)) (.s (.c (.n) (.n)) (.j [6] (.b (.s (.r (rz 4 0 164)) (.s (.s (.r (ra 5 0 16 (.grp 34 false (ri 5 5 272) [39] (rz 1 10 0)))) (.c (.n) (.n))) (.s (.r (rz 5 0 528)) (.r (rz 7 0 2624)))))) (.r (rz 2 0 0)))))))))))))) (.s (.r (rz 4 0 16)) (.n)))))) func114 rfl (by kernel_rfl) (by kernel_rfl) h
def Z0 (t0 t1 : Value) (w : World) (K : VW) : Prop:=
 lo w 22 t1 fun t4=>pp (Instr.build 93 #[(0,(Value.int .u8 5)),(3,t0)]) fun t6=>ca jk #[t4,t6] w fun t7 w1=>
 bt .gtr 3 t7 (i6 16) fun t8=>K t8 w1
theorem Jj {t0 t1 : Value} {w : World} {K : VW} (h : Z0 t0 t1 w K) : zd prog x8 #[t0,t1] w K:=
 okC false (.s (.r (rz 1 0 0)) (.s (.r (rz 6 0 129)) (.n))) func115 rfl (by kernel_rfl) (by kernel_rfl) h
def ZE (t0 t1 : Value) (w : World) (K : VW) : Prop:=
 pw w (Instr.box 93 t1) fun t3 w1=>
 fl w1 t3 93 0 91 fun t9=>bt .neq 91 t9 (Value.int .u8 5) fun t10=>zc t10 (K (i6 1) w1) (fl w1 t3 93 3 3 fun t13=>px 22 t0 t13 fun t14=>fl w1 t14 67 1 65 fun t16=>pp (Builtin.len_ #[65] 3 #[t16]) fun t17=>zo [(i6 0),(i6 0)] w1 (fun s3 _d4 w5 K2=>
 bf .lss 3 (s3.getD 1 undef) t17 fun t19=>zc t19 (xl w5 65 t16 (s3.getD 1 undef) 156 fun t21=>pw w5 (Instr.alloc 156 true (.tuple #[])) fun t7 w6=>
 so w6 156 t7 t21 fun w7=>fl w7 t7 156 1 93 fun t25=>ca jk #[t0,t25] w7 fun t26 w8=>
 bf .add 3 (s3.getD 0 undef) t26 fun t27=>bt .gtr 3 t27 (i6 16) fun t29=>zc t29 (K (i6 17) w8) (bt .add 3 (s3.getD 1 undef) (i6 1) fun t30=>K2 [t27,t30] w8)) (K (s3.getD 0 undef) w5)))
theorem XO {t0 t1 : Value} {w : World} {K : VW} (h : ZE t0 t1 w K) : zd prog jk #[t0,t1] w K:=
 okC false (.s (.r (rz 2 0 2)) (.s (.s (.r (rz 3 0 4)) (.c (.s (.r (rz 1 0 0)) (.n)) (.n))) (.s (.r (rz 1 0 0)) (.s (.s (.r (rz 8 0 1040)) (.b (.lp [5,18] (.s (.r (rz 1 0 0)) (.s (.c (.n) (.n)) (.s (.b (.s (.r (rz 4 0 164)) (.s (.r (rz 7 0 576)) (.s (.r (rz 2 0 0)) (.c (.s (.r (rz 1 0 0)) (.n)) (.n)))))) (.r (rz 2 0 0)))))))) (.s (.r (rz 2 0 0)) (.n)))))) func116 rfl (by kernel_rfl) (by kernel_rfl) h
def QF (t0 t1 : Value) (w : World) (K : VW) : Prop:=
 zo [(i6 0)] w (fun s2 _d3 w4 K1=>
 bf .lss 3 (s2.getD 0 undef) t0 fun t8=>zc t8 (cv t1 #[(s2.getD 0 undef)] w4 fun t12 w5=>
 zc t12 (K (s2.getD 0 undef) w5) (bt .add 3 (s2.getD 0 undef) (i6 1) fun t14=>K1 [t14] w5)) (K t0 w4))
theorem ab9 {t0 t1 : Value} {w : World} {K : VW} (h : QF t0 t1 w K) : zd prog Zy #[t0,t1] w K:=
 okC false (.s (.r (rz 1 0 0)) (.s (.s (.r (rz 2 0 0)) (.b (.lp [7] (.s (.r (rz 1 0 0)) (.s (.c (.n) (.n)) (.s (.b (.s (.r (rz 2 0 0)) (.s (.r (rz 3 0 32)) (.c (.s (.r (rz 2 0 0)) (.n)) (.n))))) (.r (rz 2 0 0)))))))) (.s (.r (rz 2 0 0)) (.n)))) func117 rfl (by kernel_rfl) (by kernel_rfl) h
def QG (t0 t1 : Value) (w : World) (K : VW) : Prop:=
 pw w (Instr.box 93 t0) fun t2 w1=>
 pw w1 (Instr.box 93 t1) fun t3 w2=>
 lo w2 93 t2 fun t5=>ca kP #[t5] w2 fun t6 w3=>
 za (fun K4=>gIf t6 true (lo w3 93 t3 fun t8=>ca kP #[t8] w3 fun t9 w8=>
 K4 [t9] w8) (K4 [undef] w3)) (fun s5 _d6 w7=>
 zb t6 (s5.getD 0 undef) fa_ fun t10=>za (fun K9=>gIf t10 true (lo w7 93 t2 fun t12=>lo w7 93 t3 fun t13=>ca jl #[t12,t13,(Value.func (.func 150) #[] #[])] w7 fun t14 w13=>
 K9 [t14] w13) (K9 [undef] w7)) (fun s10 _d11 w12=>
 zb t10 (s10.getD 0 undef) fa_ fun t15=>K t15 w12))
theorem aca {t0 t1 : Value} {w : World} {K : VW} (h : QG t0 t1 w K) : zd prog xi #[t0,t1] w K:=
 okC false (.s (.r (rz 3 0 10)) (.s (.r (ra 3 0 9 (.grp 7 true (ri 2 3 9) [9] (ra 2 5 0 (.grp 11 true (ri 3 7 37) [14] (rz 2 10 0)))))) (.n))) func129 rfl (by kernel_rfl) (by kernel_rfl) h
def XP (t0 t1 : Value) (w : World) (K : VW) : Prop:=
 pw w (Instr.box 93 t1) fun t3 w1=>
 lo w1 93 t3 fun t10=>ca jc #[t0,t10] w1 fun t11 w2=>
 pp (Op.unary .not t11) fun t12=>za (fun K3=>gIf t12 false (fl w2 t3 93 0 91 fun t15=>bt .neq 91 t15 (Value.int .u8 5) fun t16=>K3 [t16] w2) (K3 [undef] w2)) (fun s4 _d5 w6=>
 zb t12 tr_ (s4.getD 0 undef) fun t17=>zc t17 (K (.tuple #[(Value.slice Option.none 0 0),(i6 2)]) w6) (fl w6 t3 93 3 3 fun t20=>px 22 t0 t20 fun t21=>fl w6 t21 67 1 65 fun t23=>pp (Builtin.len_ #[65] 3 #[t23]) fun t24=>zo [(Value.slice Option.none 0 0),(i6 0)] w6 (fun s8 _d9 w10 K7=>
 bf .lss 3 (s8.getD 1 undef) t24 fun t26=>zc t26 (xl w10 65 t23 (s8.getD 1 undef) 156 fun t28=>pw w10 (Instr.alloc 156 true (.tuple #[])) fun t8 w11=>
 so w11 156 t8 t28 fun w12=>fl w12 t8 156 1 93 fun t31=>ca Zb #[t31] w12 fun t32 w13=>
 pw w13 (Instr.buildSlice 39 1 #[(0,t32)]) fun t33 w14=>
 pw w14 (Builtin.append_ #[39,39] 39 #[(s8.getD 0 undef),t33]) fun t34 w15=>
 bt .add 3 (s8.getD 1 undef) (i6 1) fun t35=>K7 [t34,t35] w15) (K (.tuple #[(s8.getD 0 undef),(i6 0)]) w10))))
theorem aa4 {t0 t1 : Value} {w : World} {K : VW} (h : XP t0 t1 w K) : zd prog vL #[t0,t1] w K:=
 okC false (.s (.r (rz 3 0 2)) (.s (.s (.r (ra 5 0 36 (.grp 13 false (ri 3 5 4) [16] (rz 1 8 0)))) (.c (.s (.r (rz 2 0 0)) (.n)) (.n))) (.s (.r (rz 1 0 0)) (.s (.s (.r (rz 8 0 1040)) (.b (.lp [6,25] (.s (.r (rz 1 0 0)) (.s (.c (.n) (.n)) (.s (.b (.s (.r (rz 4 0 164)) (.r (rz 7 0 2704)))) (.r (rz 2 0 0)))))))) (.s (.r (rz 3 0 0)) (.n)))))) func131 rfl (by kernel_rfl) (by kernel_rfl) h
def QH (t0 t1 : Value) (w : World) (K : VW) : Prop:=
 pw w (Instr.box 93 t1) fun t3 w1=>
 lo w1 93 t3 fun t7=>ca jc #[t0,t7] w1 fun t8 w2=>
 pp (Op.unary .not t8) fun t9=>zc t9 (K (.tuple #[fa_,(i6 2)]) w2) (lo w2 93 t3 fun t11=>ca jm #[t0,t11] w2 fun t12 w3=>
 K (.tuple #[t12,(i6 0)]) w3)
theorem acb {t0 t1 : Value} {w : World} {K : VW} (h : QH t0 t1 w K) : zd prog Zz #[t0,t1] w K:=
 okC false (.s (.r (rz 3 0 2)) (.s (.s (.r (rz 4 0 36)) (.c (.s (.r (rz 2 0 0)) (.n)) (.n))) (.s (.r (rz 5 0 36)) (.n)))) func132 rfl (by kernel_rfl) (by kernel_rfl) h
def XQ (t0 : Value) (w : World) (K : VW) : Prop:=
 pw w (Instr.box 93 t0) fun t1 w1=>
 lo w1 93 t1 fun t3=>ca kP #[t3] w1 fun t4 w2=>
 pp (Op.unary .not t4) fun t5=>zc t5 (K fa_ w2) (fl w2 t1 93 0 91 fun t7=>za (fun K3=>
 bt .eql 91 t7 (Value.int .u8 1) fun t9=>zc t9 (K3 [t9] w2) (bt .eql 91 t7 (Value.int .u8 2) fun t10=>K3 [t10] w2)) (fun s4 _d5 w6=>
 zc (s4.getD 0 undef) (K tr_ w6) (bt .eql 91 t7 (Value.int .u8 4) fun t12=>zc t12 (fl w6 t1 93 1 4 fun t14=>pp (Op.unary .not t14) fun t15=>K t15 w6) (K fa_ w6))))
theorem aa5 {t0 : Value} {w : World} {K : VW} (h : XQ t0 w K) : zd prog qE #[t0] w K:=
 okC false (.s (.r (rz 2 0 2)) (.s (.s (.r (rz 3 0 9)) (.c (.s (.r (rz 1 0 0)) (.n)) (.n))) (.s (.s (.r (rz 2 0 4)) (.b (.j [8] (.s (.r (rz 2 0 0)) (.c (.n) (.r (rz 2 0 0)))) (.c (.s (.r (rz 1 0 0)) (.n)) (.s (.r (rz 2 0 0)) (.c (.s (.r (rz 4 0 4)) (.n)) (.n))))))) (.s (.r (rz 1 0 0)) (.n))))) func148 rfl (by kernel_rfl) (by kernel_rfl) h
def QJ (t0 t1 t2 : Value) (w : World) (K : VW) : Prop:=
 pw w (Instr.box 93 t0) fun t3 w1=>
 pw w1 (Instr.box 93 t1) fun t4 w2=>
 fl w2 t3 93 0 91 fun t8=>fl w2 t4 93 0 91 fun t10=>bf .neq 91 t8 t10 fun t11=>za (fun K3=>gIf t11 false (fl w2 t3 93 1 4 fun t14=>fl w2 t4 93 1 4 fun t16=>bf .neq 4 t14 t16 fun t17=>K3 [t17] w2) (K3 [undef] w2)) (fun s4 _d5 w6=>
 zb t11 tr_ (s4.getD 0 undef) fun t18=>za (fun K7=>gIf t18 false (fl w6 t3 93 3 3 fun t21=>fl w6 t4 93 3 3 fun t23=>bf .neq 3 t21 t23 fun t24=>K7 [t24] w6) (K7 [undef] w6)) (fun s8 _d9 w10=>
 zb t18 tr_ (s8.getD 0 undef) fun t25=>za (fun K11=>gIf t25 false (fl w10 t3 93 2 3 fun t29=>fl w10 t4 93 2 3 fun t31=>cv t2 #[t29,t31] w10 fun t32 w15=>
 pp (Op.unary .not t32) fun t33=>K11 [t33] w15) (K11 [undef] w10)) (fun s12 _d13 w14=>
 zb t25 tr_ (s12.getD 0 undef) fun t34=>zc t34 (K fa_ w14) (fl w14.drew t3 93 4 39 fun t36=>pp (Builtin.len_ #[39] 3 #[t36]) fun t37=>bt .eql 3 t37 (i6 0) fun t38=>za (fun K16=>gIf t38 false (fl w14.drew t3 93 4 39 fun t41=>xl w14.drew 39 t41 (i6 0) 93 fun t43=>fl w14.drew t4 93 4 39 fun t45=>xl w14.drew 39 t45 (i6 0) 93 fun t47=>ca jl #[t43,t47,t2] w14.drew fun t49 w20=>
 K16 [t49] w20) (K16 [undef] w14.drew)) (fun s17 _d18 w19=>
 zb t38 tr_ (s17.getD 0 undef) fun t50=>K t50 w19)))))
theorem acd {t0 t1 t2 : Value} {w : World} {K : VW} (h : QJ t0 t1 t2 w K) : zd prog jl #[t0,t1,t2] w K:=
 okC false (.s (.r (rz 3 0 10)) (.s (.s (.r (ra 6 0 68 (.grp 12 false (ri 5 6 68) [17] (ra 2 11 0 (.grp 19 false (ri 5 13 68) [24] (ra 2 18 0 (.grp 26 false (ri 7 20 2320) [33] (rz 1 27 0)))))))) (.c (.s (.r (rz 1 0 0)) (.n)) (.n))) (.s (.r (ra 5 0 4 (.grp 39 false (ri 10 5 541764) [49] (rz 2 15 0)))) (.n)))) func149 rfl (by kernel_rfl) (by kernel_rfl) h
def Y7 (_t0 _t1 : Value) (w : World) (K : VW) : Prop:=
 K tr_ w
theorem aan {t0 t1 : Value} {w : World} {K : VW} (h : Y7 t0 t1 w K) : zd prog Y1 #[t0,t1] w K:=
 okC false (.s (.r (rz 1 0 0)) (.s (.r (rz 1 0 0)) (.n))) func150 rfl (by kernel_rfl) (by kernel_rfl) h
def ZF (t0 t1 : Value) (w : World) (K : VW) : Prop:=
 pw w (Instr.box 22 t0) fun t2 w1=>
 pw w1 (Instr.box 93 t1) fun t3 w2=>
 fl w2 t3 93 0 91 fun t6=>bt .eql 91 t6 (Value.int .u8 3) fun t8=>zc t8 (K tr_ w2) (bt .eql 91 t6 (Value.int .u8 5) fun t10=>zc t10 (lo w2 22 t2 fun t11=>fl w2 t3 93 3 3 fun t13=>px 22 t11 t13 fun t14=>fl w2 t14 67 1 65 fun t16=>pp (Instr.makeFunc (.func 161) #[] #[t2]) fun t17=>ca zL #[t16,t17] w2 fun t18 w3=>
 K t18 w3) (K fa_ w2))
theorem XR {t0 t1 : Value} {w : World} {K : VW} (h : ZF t0 t1 w K) : zd prog jm #[t0,t1] w K:=
 okC false (.s (.r (rz 3 0 10)) (.s (.s (.r (rz 2 0 4)) (.b (.s (.r (rz 2 0 0)) (.c (.s (.r (rz 1 0 0)) (.n)) (.s (.r (rz 2 0 0)) (.c (.s (.r (rz 9 0 33809)) (.n)) (.n))))))) (.s (.r (rz 1 0 0)) (.n)))) func154 rfl (by kernel_rfl) (by kernel_rfl) h
def Y8 (t0 t1 : Value) (w : World) (K : VW) : Prop:=
 pw w (Instr.box 156 t0) fun t2 w1=>
 lo w1 22 t1 fun t4=>fl w1 t2 156 1 93 fun t6=>ca jm #[t4,t6] w1 fun t7 w2=>
 K t7 w2
theorem aao {t0 t1 : Value} {w : World} {K : VW} (h : Y8 t0 t1 w K) : zd prog aa1 #[t0,t1] w K:=
 okC false (.s (.r (rz 2 0 2)) (.s (.r (rz 5 0 145)) (.n))) func161 rfl (by kernel_rfl) (by kernel_rfl) h
end Go.Proofs.Tryz
end
section
namespace Go.Proofs.Tryz
open Go.Sh
set_option maxRecDepth 100000
def aa6 (t0 : Value) (w : World) (K : VW) : Prop:=
 pw w (Instr.box 93 t0) fun t1 w1=>
 lo w1 93 t1 fun t3=>ca xv #[t3,(i6 32),(i6 48)] w1 fun t4 w2=>
 K t4 w2
theorem afO {t0 : Value} {w : World} {K : VW} (h : aa6 t0 w K) : zd prog Z7 #[t0] w K:=
 okC false (.s (.r (rz 2 0 2)) (.s (.r (rz 3 0 9)) (.n))) func134 rfl (by kernel_rfl) (by kernel_rfl) h
def Yu (t0 t1 t2 : Value) (w : World) (K : VW) : Prop:=
 pw w (Instr.box 93 t0) fun t3 w1=>
 bt .lss 3 t2 (i6 1) fun t8=>zc t8 (K fa_ w1) (fl w1 t3 93 0 91 fun t10=>za (fun K2=>
 bt .eql 91 t10 (Value.int .u8 1) fun t12=>zc t12 (K2 [t12] w1) (bt .eql 91 t10 (Value.int .u8 2) fun t13=>K2 [t13] w1)) (fun s3 _d4 w5=>
 zc (s3.getD 0 undef) (fl w5 t3 93 1 4 fun t15=>pp (Op.unary .not t15) fun t16=>za (fun K6=>gIf t16 true (fl w5 t3 93 2 3 fun t19=>bt .eql 3 t19 (i6 0) fun t20=>K6 [t20] w5) (K6 [undef] w5)) (fun s7 _d8 w9=>
 zb t16 (s7.getD 0 undef) fa_ fun t21=>za (fun K10=>gIf t21 true (fl w9 t3 93 3 3 fun t24=>bt .eql 3 t24 (i6 0) fun t25=>K10 [t25] w9) (K10 [undef] w9)) (fun s11 _d12 w13=>
 zb t21 (s11.getD 0 undef) fa_ fun t26=>za (fun K14=>gIf t26 true (fl w13 t3 93 4 39 fun t29=>pp (Builtin.len_ #[39] 3 #[t29]) fun t30=>bt .eql 3 t30 (i6 0) fun t31=>K14 [t31] w13) (K14 [undef] w13)) (fun s15 _d16 w17=>
 zb t26 (s15.getD 0 undef) fa_ fun t32=>K t32 w17)))) (bt .eql 91 t10 (Value.int .u8 5) fun t34=>zc t34 (fl w5 t3 93 1 4 fun t36=>pp (Op.unary .not t36) fun t37=>za (fun K18=>gIf t37 true (fl w5 t3 93 2 3 fun t40=>bt .eql 3 t40 (i6 0) fun t41=>K18 [t41] w5) (K18 [undef] w5)) (fun s19 _d20 w21=>
 zb t37 (s19.getD 0 undef) fa_ fun t42=>za (fun K22=>gIf t42 true (fl w21 t3 93 3 3 fun t45=>bt .geq 3 t45 (i6 0) fun t46=>K22 [t46] w21) (K22 [undef] w21)) (fun s23 _d24 w25=>
 zb t42 (s23.getD 0 undef) fa_ fun t47=>za (fun K26=>gIf t47 true (fl w25 t3 93 3 3 fun t50=>bf .lss 3 t50 t1 fun t52=>K26 [t52] w25) (K26 [undef] w25)) (fun s27 _d28 w29=>
 zb t47 (s27.getD 0 undef) fa_ fun t53=>za (fun K30=>gIf t53 true (fl w29 t3 93 4 39 fun t56=>pp (Builtin.len_ #[39] 3 #[t56]) fun t57=>bt .eql 3 t57 (i6 0) fun t58=>K30 [t58] w29) (K30 [undef] w29)) (fun s31 _d32 w33=>
 zb t53 (s31.getD 0 undef) fa_ fun t59=>K t59 w33))))) (bt .eql 91 t10 (Value.int .u8 3) fun t61=>zc t61 (fl w5 t3 93 1 4 fun t63=>pp (Op.unary .not t63) fun t64=>za (fun K34=>gIf t64 true (fl w5 t3 93 2 3 fun t67=>bt .eql 3 t67 (i6 0) fun t68=>K34 [t68] w5) (K34 [undef] w5)) (fun s35 _d36 w37=>
 zb t64 (s35.getD 0 undef) fa_ fun t69=>za (fun K38=>gIf t69 true (fl w37 t3 93 3 3 fun t72=>bt .eql 3 t72 (i6 0) fun t73=>K38 [t73] w37) (K38 [undef] w37)) (fun s39 _d40 w41=>
 zb t69 (s39.getD 0 undef) fa_ fun t74=>za (fun K42=>gIf t74 true (fl w41 t3 93 4 39 fun t77=>pp (Builtin.len_ #[39] 3 #[t77]) fun t78=>bt .eql 3 t78 (i6 1) fun t79=>K42 [t79] w41) (K42 [undef] w41)) (fun s43 _d44 w45=>
 zb t74 (s43.getD 0 undef) fa_ fun t80=>za (fun K46=>gIf t80 true (fl w45 t3 93 4 39 fun t83=>xl w45 39 t83 (i6 0) 93 fun t85=>bt .sub 3 t2 (i6 1) fun t88=>ca xv #[t85,t1,t88] w45 fun t89 w50=>
 K46 [t89] w50) (K46 [undef] w45)) (fun s47 _d48 w49=>
 zb t80 (s47.getD 0 undef) fa_ fun t90=>K t90 w49))))) (bt .eql 91 t10 (Value.int .u8 4) fun t92=>zc t92 (fl w5 t3 93 2 3 fun t94=>bt .geq 3 t94 (i6 (-1)) fun t95=>za (fun K51=>gIf t95 true (fl w5 t3 93 3 3 fun t98=>bt .eql 3 t98 (i6 0) fun t99=>K51 [t99] w5) (K51 [undef] w5)) (fun s52 _d53 w54=>
 zb t95 (s52.getD 0 undef) fa_ fun t100=>za (fun K55=>gIf t100 true (fl w54 t3 93 4 39 fun t103=>pp (Builtin.len_ #[39] 3 #[t103]) fun t104=>bt .eql 3 t104 (i6 1) fun t105=>K55 [t105] w54) (K55 [undef] w54)) (fun s56 _d57 w58=>
 zb t100 (s56.getD 0 undef) fa_ fun t106=>za (fun K59=>gIf t106 true (fl w58 t3 93 4 39 fun t109=>xl w58 39 t109 (i6 0) 93 fun t111=>bt .sub 3 t2 (i6 1) fun t114=>ca xv #[t111,t1,t114] w58 fun t115 w63=>
 K59 [t115] w63) (K59 [undef] w58)) (fun s60 _d61 w62=>
 zb t106 (s60.getD 0 undef) fa_ fun t116=>K t116 w62)))) (K fa_ w5))))))
theorem QK {t0 t1 t2 : Value} {w : World} {K : VW} (h : Yu t0 t1 t2 w K) : zd prog xv #[t0,t1,t2] w K:=
 okC false (.s (.r (rz 2 0 2)) (.s (.s (.r (rz 2 0 0)) (.c (.s (.r (rz 1 0 0)) (.n)) (.n))) (.s (.s (.r (rz 2 0 4)) (.b (.j [11] (.s (.r (rz 2 0 0)) (.c (.n) (.r (rz 2 0 0)))) (.c (.s (.r (ra 4 0 4 (.grp 17 true (ri 3 4 4) [20] (ra 2 7 0 (.grp 22 true (ri 3 9 4) [25] (ra 2 12 0 (.grp 27 true (ri 4 14 4) [31] (rz 2 18 0)))))))) (.n)) (.s (.r (rz 2 0 0)) (.c (.s (.r (ra 4 0 4 (.grp 38 true (ri 3 4 4) [41] (ra 2 7 0 (.grp 43 true (ri 3 9 4) [46] (ra 2 12 0 (.grp 48 true (ri 4 14 4) [52] (ra 2 18 0 (.grp 54 true (ri 4 20 4) [58] (rz 2 24 0)))))))))) (.n)) (.s (.r (rz 2 0 0)) (.c (.s (.r (ra 4 0 4 (.grp 65 true (ri 3 4 4) [68] (ra 2 7 0 (.grp 70 true (ri 3 9 4) [73] (ra 2 12 0 (.grp 75 true (ri 4 14 4) [79] (ra 2 18 0 (.grp 81 true (ri 8 20 32836) [89] (rz 2 28 0)))))))))) (.n)) (.s (.r (rz 2 0 0)) (.c (.s (.r (ra 4 0 4 (.grp 96 true (ri 3 4 4) [99] (ra 2 7 0 (.grp 101 true (ri 4 9 4) [105] (ra 2 13 0 (.grp 107 true (ri 8 15 32836) [115] (rz 2 23 0)))))))) (.n)) (.n))))))))))) (.s (.r (rz 1 0 0)) (.n))))) func155 rfl (by kernel_rfl) (by kernel_rfl) h
def Y9 (t0 : Value) (w : World) (K : VW) : Prop:=
 pw w (Instr.box 93 t0) fun t1 w1=>
 lo w1 93 t1 fun t4=>ca Z7 #[t4] w1 fun t5 w2=>
 pp (Op.unary .not t5) fun t6=>zc t6 (K (Value.slice Option.none 0 0) w2) (zo [(Value.slice Option.none 0 0)] w2 (fun s4 _d5 w6 K3=>
 fl w6 t1 93 0 91 fun t8=>bt .eql 91 t8 (Value.int .u8 4) fun t9=>za (fun K7=>gIf t9 false (fl w6 t1 93 0 91 fun t12=>bt .eql 91 t12 (Value.int .u8 3) fun t13=>K7 [t13] w6) (K7 [undef] w6)) (fun s8 _d9 w10=>
 zb t9 tr_ (s8.getD 0 undef) fun t14=>zc t14 (za (fun K11=>
 fl w10 t1 93 0 91 fun t16=>bt .eql 91 t16 (Value.int .u8 4) fun t17=>zc t17 (fl w10 t1 93 2 3 fun t20=>pw w10 (Instr.buildSlice 32 1 #[(0,t20)]) fun t21 w15=>
 pw w15 (Builtin.append_ #[32,32] 32 #[(s4.getD 0 undef),t21]) fun t22 w16=>
 K11 [t22] w16) (K11 [(s4.getD 0 undef)] w10)) (fun s12 _d13 w14=>
 fl w14 t1 93 4 39 fun t24=>xl w14 39 t24 (i6 0) 93 fun t26=>so w14 93 t1 t26 fun w17=>K3 [(s12.getD 0 undef)] w17)) (K (s4.getD 0 undef) w10))))
theorem aap {t0 : Value} {w : World} {K : VW} (h : Y9 t0 w K) : zd prog k7 #[t0] w K:=
 okC false (.s (.r (rz 2 0 2)) (.s (.s (.r (rz 3 0 9)) (.c (.s (.r (rz 1 0 0)) (.n)) (.n))) (.s (.r (rz 1 0 0)) (.s (.b (.lp [3] (.s (.s (.r (ra 4 0 4 (.grp 10 false (ri 3 4 4) [13] (rz 1 7 0)))) (.c (.n) (.n))) (.b (.j [3] (.s (.r (rz 3 0 4)) (.c (.r (rz 6 0 656)) (.n))) (.r (rz 5 0 580))))))) (.s (.r (rz 2 0 0)) (.n)))))) func94 rfl (by kernel_rfl) (by kernel_rfl) h
def XS (t0 t1 : Value) (w : World) (K : VW) : Prop:=
 pw w (Instr.box 93 t1) fun t3 w1=>
 lo w1 93 t3 fun t10=>ca Zd #[t0,t10] w1 fun t11 w2=>
 pp (Op.unary .not t11) fun t12=>za (fun K3=>gIf t12 false (fl w2 t3 93 0 91 fun t15=>bt .neq 91 t15 (Value.int .u8 5) fun t16=>K3 [t16] w2) (K3 [undef] w2)) (fun s4 _d5 w6=>
 zb t12 tr_ (s4.getD 0 undef) fun t17=>zc t17 (K (.tuple #[(Value.slice Option.none 0 0),(i6 2)]) w6) (fl w6 t3 93 3 3 fun t20=>px 22 t0 t20 fun t21=>fl w6 t21 67 1 65 fun t23=>zo [(Value.slice Option.none 0 0),(i6 0)] w6 (fun s8 _d9 w10 K7=>
 pp (Builtin.len_ #[65] 3 #[t23]) fun t26=>bf .lss 3 (s8.getD 1 undef) t26 fun t27=>zc t27 (px 65 t23 (s8.getD 1 undef) fun t33=>fl w10 t33 156 1 93 fun t35=>ca Ze #[t35] w10 fun t36 w11=>
 pw w11 (Instr.buildSlice 39 1 #[(0,t36)]) fun t37 w12=>
 pw w12 (Builtin.append_ #[39,39] 39 #[(s8.getD 0 undef),t37]) fun t38 w13=>
 bt .add 3 (s8.getD 1 undef) (i6 1) fun t29=>K7 [t38,t29] w13) (K (.tuple #[(s8.getD 0 undef),(i6 0)]) w10))))
theorem aa7 {t0 t1 : Value} {w : World} {K : VW} (h : XS t0 t1 w K) : zd prog vM #[t0,t1] w K:=
 okC false (.s (.r (rz 3 0 2)) (.s (.s (.r (ra 5 0 36 (.grp 13 false (ri 3 5 4) [16] (rz 1 8 0)))) (.c (.s (.r (rz 2 0 0)) (.n)) (.n))) (.s (.r (rz 1 0 0)) (.s (.r (rz 7 0 1040)) (.s (.s (.r (rz 1 0 0)) (.b (.lp [6,8] (.s (.s (.r (rz 4 0 0)) (.c (.n) (.n))) (.s (.b (.r (rz 10 0 173056))) (.r (rz 3 0 0))))))) (.s (.r (rz 3 0 0)) (.n))))))) func105 rfl (by kernel_rfl) (by kernel_rfl) h
def QL (t0 t1 : Value) (w : World) (K : VW) : Prop:=
 pw w (Instr.box 93 t1) fun t3 w1=>
 lo w1 93 t3 fun t7=>ca Zd #[t0,t7] w1 fun t8 w2=>
 pp (Op.unary .not t8) fun t9=>zc t9 (K (.tuple #[fa_,(i6 2)]) w2) (lo w2 93 t3 fun t11=>ca jn #[t0,t11] w2 fun t12 w3=>
 K (.tuple #[t12,(i6 0)]) w3)
theorem ace {t0 t1 : Value} {w : World} {K : VW} (h : QL t0 t1 w K) : zd prog ZB #[t0,t1] w K:=
 okC false (.s (.r (rz 3 0 2)) (.s (.s (.r (rz 4 0 36)) (.c (.s (.r (rz 2 0 0)) (.n)) (.n))) (.s (.r (rz 5 0 36)) (.n)))) func107 rfl (by kernel_rfl) (by kernel_rfl) h
def XT (t0 : Value) (w : World) (K : VW) : Prop:=
 pw w (Instr.box 93 t0) fun t1 w1=>
 lo w1 93 t1 fun t3=>ca Z7 #[t3] w1 fun t4 w2=>
 za (fun K3=>gIf t4 true (fl w2 t1 93 0 91 fun t7=>bt .eql 91 t7 (Value.int .u8 1) fun t8=>K3 [t8] w2) (K3 [undef] w2)) (fun s4 _d5 w6=>
 za (fun K7=>gIf (s4.getD 0 undef) false (fl w6 t1 93 0 91 fun t11=>bt .eql 91 t11 (Value.int .u8 2) fun t12=>K7 [t12] w6) (K7 [undef] w6)) (fun s8 _d9 w10=>
 za (fun K11=>gIf t4 true (zb (s4.getD 0 undef) tr_ (s8.getD 0 undef) fun t13=>K11 [t13] w10) (K11 [undef] w10)) (fun s12 _d13 w14=>
 za (fun K15=>gIf (s12.getD 0 undef) false (fl w14 t1 93 0 91 fun t16=>bt .eql 91 t16 (Value.int .u8 4) fun t17=>K15 [t17] w14) (K15 [undef] w14)) (fun s16 _d17 w18=>
 za (fun K19=>gIf (s16.getD 0 undef) true (fl w18 t1 93 1 4 fun t20=>pp (Op.unary .not t20) fun t21=>K19 [t21] w18) (K19 [undef] w18)) (fun s20 _d21 w22=>
 za (fun K23=>gIf (s12.getD 0 undef) false (zb (s16.getD 0 undef) (s20.getD 0 undef) fa_ fun t22=>K23 [t22] w22) (K23 [undef] w22)) (fun s24 _d25 w26=>
 za (fun K27=>gIf t4 true (zb (s12.getD 0 undef) tr_ (s24.getD 0 undef) fun t23=>K27 [t23] w26) (K27 [undef] w26)) (fun s28 _d29 w30=>
 zb t4 (s28.getD 0 undef) fa_ fun t24=>K t24 w30)))))))
theorem aa8 {t0 : Value} {w : World} {K : VW} (h : XT t0 w K) : zd prog qF #[t0] w K:=
 okC false (.s (.r (rz 2 0 2)) (.s (.r (ra 3 0 9 (.grp 5 true (ri 4 3 4) [9] (.grp 9 false (ri 3 7 4) [12] (.grp 5 true (ri 2 10 0) [14] (.grp 14 false (ri 4 12 4) [18] (.grp 18 true (ri 3 16 4) [21] (.grp 14 false (ri 1 19 0) [22] (.grp 5 true (ri 1 20 0) [23] (rz 2 21 0)))))))))) (.n))) func136 rfl (by kernel_rfl) (by kernel_rfl) h
def VR (t0 t1 : Value) (w : World) (K : VW) : Prop:=
 pw w (Instr.box 93 t1) fun t3 w1=>
 ca jX #[t0] w1 fun t9 w2=>
 pe t9 0 fun _t10=>pe t9 1 fun t11=>bt .eql 3 t11 (i6 0) fun t13=>za (fun K3=>gIf t13 true (lo w2 93 t3 fun t15=>pp (Builtin.len_ #[22] 3 #[t0]) fun t17=>ca xv #[t15,t17,(i6 48)] w2 fun t18 w7=>
 K3 [t18] w7) (K3 [undef] w2)) (fun s4 _d5 w6=>
 zb t13 (s4.getD 0 undef) fa_ fun t19=>K t19 w6)
theorem aeD {t0 t1 : Value} {w : World} {K : VW} (h : VR t0 t1 w K) : zd prog Zd #[t0,t1] w K:=
 okC false (.s (.r (rz 2 0 2)) (.s (.r (rz 7 0 8)) (.s (.r (ra 3 0 0 (.grp 14 true (ri 4 3 129) [18] (rz 2 7 0)))) (.n)))) func139 rfl (by kernel_rfl) (by kernel_rfl) h
def VS (t0 : Value) (w : World) (K : VW) : Prop:=
 pw w (Instr.box 93 t0) fun t1 w1=>
 pw w1 (Instr.alloc 93 true (.tuple #[])) fun t2 w2=>
 fl w2 t1 93 4 39 fun t6=>pf 93 t1 4 fun t7=>so w2 39 t7 (Value.slice Option.none 0 0) fun w3=>zo [(i6 0)] w3 (fun s5 _d6 w7 K4=>
 pp (Builtin.len_ #[39] 3 #[t6]) fun t10=>bf .lss 3 (s5.getD 0 undef) t10 fun t11=>zc t11 (fl w7.drew t1 93 4 39 fun t15=>xl w7.drew 39 t6 (s5.getD 0 undef) 93 fun t19=>ca Ze #[t19] w7.drew fun t20 w8=>
 Ext w7.drew w8∧
 pw w8 (Instr.buildSlice 39 1 #[(0,t20)]) fun t21 w9=>
 Ext w8 w9∧
 pw w9 (Builtin.append_ #[39,39] 39 #[t15,t21]) fun t22 w10=>
 pf 93 t1 4 fun t23=>so w10 39 t23 t22 fun w11=>bt .add 3 (s5.getD 0 undef) (i6 1) fun t13=>K4 [t13] w11) (lo w7 93 t1 fun t24=>so w7 93 t2 t24 fun w12=>pq w12 (zn 93 t2) fun r13=>K r13 w12))
theorem aeE {t0 : Value} {w : World} {K : VW} (h : VS t0 w K) : zd prog Ze #[t0] w K:=
 okC false (.s (.r (rz 2 0 10)) (.s (.r (rz 3 0 4)) (.s (.r (rz 2 0 8)) (.s (.s (.r (rz 1 0 0)) (.b (.lp [4] (.s (.s (.r (rz 4 0 0)) (.c (.n) (.n))) (.s (.b (.r (rz 11 0 2290692))) (.r (rz 3 0 0))))))) (.s (.r (rz 2 0 9)) (.n)))))) func140 rfl (by kernel_rfl) (by kernel_rfl) h
def ZG (t0 t1 : Value) (w : World) (K : VW) : Prop:=
 pw w (Instr.box 93 t1) fun t3 w1=>
 fl w1 t3 93 0 91 fun t8=>bt .neq 91 t8 (Value.int .u8 5) fun t9=>zc t9 (fl w1 t3 93 0 91 fun t11=>bt .eql 91 t11 (Value.int .u8 3) fun t12=>K t12 w1) (fl w1 t3 93 3 3 fun t15=>px 22 t0 t15 fun t16=>fl w1 t16 67 1 65 fun t18=>zo [(i6 0)] w1 (fun s3 _d4 w5 K2=>
 pp (Builtin.len_ #[65] 3 #[t18]) fun t21=>bf .lss 3 (s3.getD 0 undef) t21 fun t22=>zc t22 (px 65 t18 (s3.getD 0 undef) fun t28=>fl w5 t28 156 1 93 fun t30=>ca jn #[t0,t30] w5 fun t31 w6=>
 zc t31 (K tr_ w6) (bt .add 3 (s3.getD 0 undef) (i6 1) fun t24=>K2 [t24] w6)) (K fa_ w5)))
theorem XU {t0 t1 : Value} {w : World} {K : VW} (h : ZG t0 t1 w K) : zd prog jn #[t0,t1] w K:=
 okC false (.s (.r (rz 2 0 2)) (.s (.s (.r (rz 3 0 4)) (.c (.s (.r (rz 4 0 4)) (.n)) (.n))) (.s (.r (rz 7 0 1040)) (.s (.s (.r (rz 1 0 0)) (.b (.lp [6] (.s (.s (.r (rz 4 0 0)) (.c (.n) (.n))) (.s (.b (.s (.r (rz 7 0 9216)) (.c (.s (.r (rz 1 0 0)) (.n)) (.n)))) (.r (rz 3 0 0))))))) (.s (.r (rz 1 0 0)) (.n)))))) func141 rfl (by kernel_rfl) (by kernel_rfl) h
def Xa (t0 : Value) (w : World) (K : VW) : Prop:=
 pp (Builtin.len_ #[22] 3 #[t0]) fun t10=>bt .gtr 3 t10 (i6 32) fun t11=>zc t11 (K (.tuple #[(i6 32),(i6 2)]) w) (zo [(i6 0)] w (fun s2 _d3 w4 K1=>
 pp (Builtin.len_ #[22] 3 #[t0]) fun t14=>bf .lss 3 (s2.getD 0 undef) t14 fun t15=>zc t15 (px 22 t0 (s2.getD 0 undef) fun t20=>fl w4 t20 67 1 65 fun t22=>pp (Builtin.len_ #[65] 3 #[t22]) fun t24=>bt .lss 3 t24 (i6 1) fun t25=>za (fun K5=>gIf t25 false (pp (Builtin.len_ #[65] 3 #[t22]) fun t28=>bt .gtr 3 t28 (i6 8) fun t29=>K5 [t29] w4) (K5 [undef] w4)) (fun s6 _d7 w8=>
 zb t25 tr_ (s6.getD 0 undef) fun t30=>zc t30 (K (.tuple #[(s2.getD 0 undef),(i6 2)]) w8) (zo [(i6 0)] w8 (fun s10 _d11 w12 K9=>
 pp (Builtin.len_ #[65] 3 #[t22]) fun t34=>bf .lss 3 (s10.getD 0 undef) t34 fun t35=>zc t35 (px 65 t22 (s10.getD 0 undef) fun t40=>fl w12 t40 156 1 93 fun t42=>pp (Builtin.len_ #[22] 3 #[t0]) fun t44=>ca xv #[t42,t44,(i6 48)] w12 fun t45 w13=>
 pp (Op.unary .not t45) fun t46=>za (fun K14=>gIf t46 false (px 65 t22 (s10.getD 0 undef) fun t50=>fl w13 t50 156 1 93 fun t52=>ca jo #[t52] w13 fun t53 w18=>
 pp (Op.unary .not t53) fun t54=>K14 [t54] w18) (K14 [undef] w13)) (fun s15 _d16 w17=>
 zb t46 tr_ (s15.getD 0 undef) fun t55=>zc t55 (K (.tuple #[(s2.getD 0 undef),(i6 2)]) w17) (bt .add 3 (s10.getD 0 undef) (i6 1) fun t37=>K9 [t37] w17))) (bt .add 3 (s2.getD 0 undef) (i6 1) fun t17=>K1 [t17] w12))))) (zo [(i6 0)] w4 (fun s20 _d21 w22 K19=>
 pp (Builtin.len_ #[22] 3 #[t0]) fun t59=>bf .lss 3 (s20.getD 0 undef) t59 fun t60=>zc t60 (ca jY #[t0,(s20.getD 0 undef)] w22 fun t65 w23=>
 zc t65 (K (.tuple #[(s20.getD 0 undef),(i6 2)]) w23) (bt .add 3 (s20.getD 0 undef) (i6 1) fun t62=>K19 [t62] w23)) (zo [(i6 0)] w22 (fun s25 _d26 w27 K24=>
 pp (Builtin.len_ #[22] 3 #[t0]) fun t69=>bf .lss 3 (s25.getD 0 undef) t69 fun t70=>zc t70 (pp (Instr.build 93 #[(0,(Value.int .u8 5)),(3,(s25.getD 0 undef))]) fun t75=>ca jp #[t0,t75,(i6 16)] w27 fun t76 w28=>
 bt .gtr 3 t76 (i6 16) fun t77=>zc t77 (K (.tuple #[(s25.getD 0 undef),(i6 2)]) w28) (bt .add 3 (s25.getD 0 undef) (i6 1) fun t72=>K24 [t72] w28)) (K (.tuple #[(i6 0),(i6 0)]) w27)))))))
theorem aaq {t0 : Value} {w : World} {K : VW} (h : Xa t0 w K) : zd prog jX #[t0] w K:=
 okC false (.s (.r (rz 2 0 0)) (.s (.s (.r (rz 3 0 0)) (.c (.s (.r (rz 2 0 0)) (.n)) (.n))) (.s (.s (.r (rz 1 0 0)) (.b (.lp [4] (.s (.s (.r (rz 4 0 0)) (.c (.n) (.n))) (.s (.b (.s (.r (rz 6 0 256)) (.s (.s (.r (ra 4 0 0 (.grp 26 false (ri 3 4 0) [29] (rz 1 7 0)))) (.c (.s (.r (rz 3 0 0)) (.n)) (.n))) (.s (.r (rz 1 0 0)) (.b (.lp [6] (.s (.s (.r (rz 4 0 0)) (.c (.n) (.n))) (.s (.b (.s (.r (ra 10 0 33024 (.grp 47 false (ri 7 10 2304) [54] (rz 1 17 0)))) (.c (.s (.r (rz 3 0 0)) (.n)) (.n)))) (.r (rz 3 0 0)))))))))) (.r (rz 3 0 0))))))) (.s (.s (.r (rz 1 0 0)) (.b (.lp [7] (.s (.s (.r (rz 4 0 0)) (.c (.n) (.n))) (.s (.b (.s (.r (rz 3 0 32)) (.c (.s (.r (rz 3 0 0)) (.n)) (.n)))) (.r (rz 3 0 0))))))) (.s (.s (.r (rz 1 0 0)) (.b (.lp [8] (.s (.s (.r (rz 4 0 0)) (.c (.n) (.n))) (.s (.b (.s (.r (rz 5 0 128)) (.c (.s (.r (rz 3 0 0)) (.n)) (.n)))) (.r (rz 3 0 0))))))) (.s (.r (rz 2 0 0)) (.n))))))) func158 rfl (by kernel_rfl) (by kernel_rfl) h
def QM (t0 : Value) (w : World) (K : VW) : Prop:=
 pw w (Instr.box 93 t0) fun t1 w1=>
 fl w1 t1 93 0 91 fun t4=>bt .neq 91 t4 (Value.int .u8 4) fun t5=>za (fun K2=>gIf t5 true (fl w1 t1 93 0 91 fun t8=>bt .neq 91 t8 (Value.int .u8 3) fun t9=>K2 [t9] w1) (K2 [undef] w1)) (fun s3 _d4 w5=>
 za (fun K6=>gIf (s3.getD 0 undef) false (fl w5 t1 93 4 39 fun t12=>xl w5 39 t12 (i6 0) 93 fun t14=>ca jo #[t14] w5 fun t15 w10=>
 K6 [t15] w10) (K6 [undef] w5)) (fun s7 _d8 w9=>
 za (fun K11=>gIf t5 true (zb (s3.getD 0 undef) tr_ (s7.getD 0 undef) fun t16=>K11 [t16] w9) (K11 [undef] w9)) (fun s12 _d13 w14=>
 zb t5 (s12.getD 0 undef) fa_ fun t17=>K t17 w14)))
theorem acf {t0 : Value} {w : World} {K : VW} (h : QM t0 w K) : zd prog jo #[t0] w K:=
 okC false (.s (.r (rz 2 0 2)) (.s (.r (ra 4 0 4 (.grp 6 true (ri 4 4 4) [10] (.grp 10 false (ri 5 8 580) [15] (.grp 6 true (ri 1 13 0) [16] (rz 2 14 0)))))) (.n))) func162 rfl (by kernel_rfl) (by kernel_rfl) h
def Xb (t0 t1 : Value) (w : World) (K : VW) : Prop:=
 pp (Builtin.len_ #[22] 3 #[t0]) fun t12=>pw w (Instr.makeSlice 52 t12 t12) fun t13 w1=>
 pw w1 (Instr.buildSlice 32 1 #[(0,t1)]) fun t16 w2=>
 pw w2 (Builtin.append_ #[32,32] 32 #[(Value.slice Option.none 0 0),t16]) fun t17 w3=>
 zo [t17,(i6 0)] w3 (fun s5 _d6 w7 K4=>
 pp (Builtin.len_ #[32] 3 #[(s5.getD 0 undef)]) fun t20=>bf .lss 3 (s5.getD 1 undef) t20 fun t21=>zc t21 (xl w7 32 (s5.getD 0 undef) (s5.getD 1 undef) 3 fun t28=>px 22 t0 t28 fun t29=>fl w7 t29 67 1 65 fun t31=>zo [(s5.getD 0 undef),(i6 0)] w7 (fun s9 _d10 w11 K8=>
 pp (Builtin.len_ #[65] 3 #[t31]) fun t34=>bf .lss 3 (s9.getD 1 undef) t34 fun t35=>zc t35 (za (fun K12=>
 px 65 t31 (s9.getD 1 undef) fun t40=>fl w11 t40 156 1 93 fun t42=>pw w11 (Instr.alloc 93 true (.tuple #[])) fun t10 w16=>
 so w16 93 t10 t42 fun w17=>fl w17 t10 93 0 91 fun t44=>bt .neq 91 t44 (Value.int .u8 5) fun t45=>zc t45 (K12 [(s9.getD 0 undef)] w17) (fl w17 t10 93 3 3 fun t47=>bf .eql 3 t47 t1 fun t49=>zc t49 (K tr_ w17) (fl w17 t10 93 3 3 fun t52=>xl w17 52 t13 t52 4 fun t54=>pp (Op.unary .not t54) fun t55=>zc t55 (fl w17 t10 93 3 3 fun t58=>px 52 t13 t58 fun t59=>so w17 4 t59 tr_ fun w18=>fl w18 t10 93 3 3 fun t62=>pw w18 (Instr.buildSlice 32 1 #[(0,t62)]) fun t63 w19=>
 pw w19 (Builtin.append_ #[32,32] 32 #[(s9.getD 0 undef),t63]) fun t64 w20=>
 K12 [t64] w20) (K12 [(s9.getD 0 undef)] w17)))) (fun s13 _d14 w15=>
 bt .add 3 (s9.getD 1 undef) (i6 1) fun t37=>K8 [(s13.getD 0 undef),t37] w15)) (bt .add 3 (s5.getD 1 undef) (i6 1) fun t23=>K4 [(s9.getD 0 undef),t23] w11))) (K fa_ w7))
theorem aar {t0 t1 : Value} {w : World} {K : VW} (h : Xb t0 t1 w K) : zd prog jY #[t0,t1] w K:=
 okC false (.s (.r (rz 1 0 0)) (.s (.r (rz 1 0 0)) (.s (.r (rz 4 0 32)) (.s (.r (rz 5 0 160)) (.s (.s (.r (rz 1 0 0)) (.b (.lp [5,7] (.s (.s (.r (rz 4 0 0)) (.c (.n) (.n))) (.s (.b (.s (.r (rz 9 0 16640)) (.s (.r (rz 1 0 0)) (.b (.lp [5,9] (.s (.s (.r (rz 4 0 0)) (.c (.n) (.n))) (.j [5] (.b (.s (.r (rz 7 0 10496)) (.s (.s (.r (rz 3 0 4)) (.c (.n) (.n))) (.s (.s (.r (rz 4 0 4)) (.c (.s (.r (rz 1 0 0)) (.n)) (.n))) (.s (.r (rz 6 0 272)) (.c (.s (.r (rz 5 0 528)) (.r (rz 6 0 656))) (.n))))))) (.r (rz 3 0 0))))))))) (.r (rz 3 0 0))))))) (.s (.r (rz 1 0 0)) (.n))))))) func163 rfl (by kernel_rfl) (by kernel_rfl) h
def ZH (t0 t1 t2 : Value) (w : World) (K : VW) : Prop:=
 pw w (Instr.box 93 t1) fun t4 w1=>
 fl w1 t4 93 0 91 fun t11=>bt .neq 91 t11 (Value.int .u8 5) fun t12=>zc t12 (K (i6 1) w1) (fl w1 t4 93 3 3 fun t15=>px 22 t0 t15 fun t16=>fl w1 t16 67 1 65 fun t18=>zo [(i6 0),(i6 0)] w1 (fun s3 _d4 w5 K2=>
 pp (Builtin.len_ #[65] 3 #[t18]) fun t21=>bf .lss 3 (s3.getD 1 undef) t21 fun t22=>za (fun K6=>gIf t22 true (bf .leq 3 (s3.getD 0 undef) t2 fun t26=>K6 [t26] w5) (K6 [undef] w5)) (fun s7 _d8 w9=>
 zb t22 (s7.getD 0 undef) fa_ fun t27=>zc t27 (px 65 t18 (s3.getD 1 undef) fun t34=>fl w9 t34 156 1 93 fun t36=>bf .sub 3 t2 (s3.getD 0 undef) fun t39=>ca jp #[t0,t36,t39] w9 fun t40 w10=>
 bf .add 3 (s3.getD 0 undef) t40 fun t41=>bt .add 3 (s3.getD 1 undef) (i6 1) fun t29=>K2 [t41,t29] w10) (K (s3.getD 0 undef) w9))))
theorem XV {t0 t1 t2 : Value} {w : World} {K : VW} (h : ZH t0 t1 t2 w K) : zd prog jp #[t0,t1,t2] w K:=
 okC false (.s (.r (rz 2 0 2)) (.s (.s (.r (rz 3 0 4)) (.c (.s (.r (rz 1 0 0)) (.n)) (.n))) (.s (.r (rz 1 0 0)) (.s (.r (rz 7 0 1040)) (.s (.s (.r (rz 1 0 0)) (.b (.lp [7,9] (.s (.s (.r (ra 5 0 0 (.grp 23 true (ri 3 5 0) [26] (rz 1 8 0)))) (.c (.n) (.n))) (.s (.b (.r (rz 13 0 2101248))) (.r (rz 3 0 0))))))) (.s (.r (rz 2 0 0)) (.n))))))) func164 rfl (by kernel_rfl) (by kernel_rfl) h
end Go.Proofs.Tryz
end
section
namespace Go.Proofs.Tryz
open Go.Sh
set_option maxRecDepth 100000
end Go.Proofs.Tryz
end
section
namespace Go.Proofs
open Go.Sh
set_option maxRecDepth 100000
inductive TyD where
 |mk (k : Int) (m : Bool) (re st : Int) (of : List TyD)
namespace TyD
def k : TyD→Int|mk k _ _ _ _=>k
def m : TyD→Bool|mk _ m _ _ _=>m
def re : TyD→Int|mk _ _ re _ _=>re
def st : TyD→Int|mk _ _ _ st _=>st
def of : TyD→List TyD|mk _ _ _ _ of=>of
mutual
def dat : TyD→Dat
 |mk k m re st of=>.agg [.int .u8 k,.bool m,.int .i64 re,.int .i64 st,.sl 5 (dats of)]
def dats : List TyD→List Dat
 |[]=>[]
 |t::l=>dat t::dats l
end
theorem dats_map : ∀ l : List TyD,dats l=l.map dat
 |[]=>rfl
 |t::l=>by rw [dats,dats_map l];rfl
mutual
def ht : TyD→Nat
 |mk _ _ _ _ of=>hts of+1
def hts : List TyD→Nat
 |[]=>0
 |t::l=>max (ht t) (hts l)
end
theorem ajJ : ∀ {l : List TyD} {t : TyD},t ∈ l→ht t≤hts l
 |x::l,t,h=>by
  rcases List.mem_cons.1 h with rfl|h
  ·exact Nat.le_max_left _ _
  ·exact Nat.le_trans (ajJ h) (Nat.le_max_right _ _)
theorem ht_of {t u : TyD} (h : u ∈ t.of) : ht u<ht t:=by
 cases t with|mk k m re st of=>exact Nat.lt_succ_of_le (ajJ h)
end TyD
def TyG (r : Gh) (v : Value) (t : TyD) : Prop:=
 ∃ p cap,v = .agg #[.int .u8 t.k,.bool t.m,.int .i64 t.re,.int .i64 t.st,.slice p t.of.length cap]∧(p=none→cap=0)∧t.of.length≤cap∧RepS r 5 p 0 (TyD.dats t.of)
theorem TyG.up {r s : Gh} {v : Value} {t : TyD} (h : TyG r v t) [l : Le r s] : TyG s v t:=by
 obtain ⟨p,cap,h1,h2,h3,h4⟩:=h;exact ⟨p,cap,h1,h2,h3,h4.up⟩
theorem TyG.of_rep {r : Gh} {c : List Value} {t : TyD} (h : Rep r t.dat c) : TyG r (.agg c.toArray) t:=by
 cases t with
 |mk k m re st of=>
  obtain ⟨a1,b1,rfl,h1,a2,b2,rfl,h2,a3,b3,rfl,h3,a4,b4,rfl,h4,a5,b5,rfl,h5,h6⟩:=h
  obtain rfl : a1=_:=h1
  obtain rfl : a2=_:=h2
  obtain rfl : a3=_:=h3
  obtain rfl : a4=_:=h4
  obtain rfl : b5 = []:=h6
  obtain ⟨p,cap,rfl,q1,q2,q3⟩:=h5
  rw [TyD.dats_map,List.length_map] at q2
  refine ⟨p,cap,?_,q1,q2,q3⟩
  rw [TyD.dats_map,List.length_map];rfl
theorem TyG.rep {r : Gh} {v : Value} {t : TyD} (h : TyG r v t) : ∃ c,v = .agg c.toArray∧c.length=5∧Rep r t.dat c:=by
 obtain ⟨p,cap,rfl,h2,h3,h4⟩:=h
 refine ⟨_,rfl,rfl,?_⟩
 cases t with
 |mk k m re st of=>
  refine ⟨[_],_,rfl,rfl,[_],_,rfl,rfl,[_],_,rfl,rfl,[_],_,rfl,rfl,[_],[],rfl,⟨p,cap,?_,h2,?_,h4⟩,rfl⟩
  ·rw [TyD.dats_map,List.length_map];rfl
  ·rw [TyD.dats_map,List.length_map];exact h3
theorem jK {X : Nat→Prop} {w0 w : World} {r q : Gh} {L : List Asr} (S : StX X w0 r w L) {p : Option Addr} {of : List TyD} (h : RepS q 5 p 0 (TyD.dats of)) [l : Le q r] {i : Nat} (hi : i<of.length) :
  ∃ (b off : Nat) (c : List Value),p=some ⟨b,off,none⟩∧c.length=5∧(∀ j v,c[j]? = some v→w.cell? ⟨b,off+i*5+j,none⟩=some v)∧TyG q (.agg c.toArray) of[i]:=by
 rw [TyD.dats_map] at h
 obtain ⟨b,off,c,h1,h2,h3,h4⟩:=RepS.at S h (i:=i) (by simpa using hi) (by decide)
 rw [List.getElem_map] at h4
 exact ⟨b,off,c,h1,h2,h3,TyG.of_rep h4⟩
end Go.Proofs
end
section
namespace Go.Proofs
open Go.Sh
set_option maxRecDepth 100000
def zz (structs : Int) : Nat→TyD→Bool
 |0,_=>false
 |n+1,t=>
  let inn:=decide (t.of.length=1)&&(match t.of with|u::_=>zz structs n u|[]=>false)
  let bare:=!t.m&&decide (t.re=0)
  if t.k=1∨t.k=2 then bare&&decide (t.st=0)&&decide (t.of.length=0)
  else if t.k=5 then bare&&decide (t.of.length=0)&&decide (0≤t.st)&&decide (t.st<structs)
  else if t.k=3 then bare&&decide (t.st=0)&&inn
  else if t.k=4 then decide (-1≤t.re)&&decide (t.st=0)&&inn
  else false
def inB (structs : Int) (n : Nat) (t : TyD) : Bool:=match t.of with|u::_=>zz structs n u|[]=>false
theorem aeF {structs : Int} {n : Nat} : ∀ {t : TyD} {h : 0<t.of.length},inB structs n t=zz structs n t.of[0]
 |.mk _ _ _ _ (_::_),_=>rfl
 |.mk _ _ _ _ [],h=>absurd h (Nat.not_lt_zero _)
theorem kB (n : Nat) : ((n : Int)=0)↔n=0:=by omega
theorem jL (n : Nat) : ((n : Int)=1)↔n=1:=by omega
theorem Yv : ∀ (n : Nat) {t : TyD} {w : World} {r : Gh} {v : Value} {structs : Int} {K : Value→World→Prop},n≤1000→Holds r w→TyG r v t→
  (∀ w',Ext w w'→K (.bool (zz structs n t)) w')→zd Tryz.prog Tryz.kg #[v,.int .i64 structs,.int .i64 (n : Int)] w K:=by
 intro n
 induction n with
 |zero=>
  intro t w r v structs K _ hr hv h
  refine Tryz.QE ?_
  unfold Tryz.Yt
  have S:=St.start hr
  refine S.box fun b2 w1 S=>?_
  refine gG_ ?_
  exact h _ S.ext
 |succ n ih=>
  intro t w r v structs K hn hr hv h
  refine Tryz.QE ?_
  unfold Tryz.Yt
  obtain ⟨p,cap,rfl,_,_,hof⟩:=hv
  have S:=St.start hr
  refine S.box fun b2 w1 S=>?_
  refine gG_ ?_
  refine zs (c:=inB structs n t) (fun hb K2 hK2=>?_) fun w5 e5=>?_
  ·have hlen : t.of.length=1:=by simpa [jL] using hb
   refine gG_ ?_
   obtain ⟨b,off,c,rfl,hc,hcell,ht⟩:=jK S hof (i:=0) (by omega)
   refine gG_ ?_
   refine zq (n:=5) hc (by simpa using hcell) ?_
   refine gG_ ?_
   rw [show ((n+1 : Nat) : Int) - 1=(n : Int) by omega]
   refine ih (by omega) S.holds ht fun w6 e6=>?_
   rw [← aeF]
   exact hK2 _ e6
  have S:=S.go e5
  refine gG_ ?_
  refine yv (fun K2 hK2=>by refine gG_ ?_;exact hK2) ?_
  refine gG_ ?_
  intro K11 hK11
  refine gG_ ?_
  refine kA (c:=decide (t.k=2)) (hK11 _ _ fun _=>?_) fun _ hk=>?_
  rotate_left
  ·refine gG_ ?_;exact hk
  simp only [List.getD_cons_zero]
  have hu : zz structs (n+1) t=(if t.k=1∨t.k=2 then (!t.m&&decide (t.re=0))&&decide (t.st=0)&&decide (t.of.length=0)
   else if t.k=5 then (!t.m&&decide (t.re=0))&&decide (t.of.length=0)&&decide (0≤t.st)&&decide (t.st<structs)
   else if t.k=3 then (!t.m&&decide (t.re=0))&&decide (t.st=0)&&(decide (t.of.length=1)&&inB structs n t)
   else if t.k=4 then decide (-1≤t.re)&&decide (t.st=0)&&(decide (t.of.length=1)&&inB structs n t)
   else false):=rfl
  rw [hu] at h
  refine c_b (fun h12=>?_) (fun h12=>?_)
  ·have h12 : t.k=1∨t.k=2:=by simpa using h12
   rw [if_pos h12] at h
   refine yv (fun K2 hK2=>by refine gG_ ?_;exact hK2) ?_
   refine yv (fun K2 hK2=>by refine gG_ ?_;exact hK2) ?_
   rw [decide_eq_decide.2 (kB t.of.length)]
   exact h _ S.ext
  have h12 : ¬ (t.k=1∨t.k=2):=by simpa using h12
  rw [if_neg h12] at h
  refine gG_ ?_
  refine zk (fun h5=>?_) (fun h5=>?_)
  ·rw [if_pos h5] at h
   refine yv (fun K2 hK2=>by refine gG_ ?_;exact hK2) ?_
   refine yv (fun K2 hK2=>by refine gG_ ?_;exact hK2) ?_
   refine yv (fun K2 hK2=>by refine gG_ ?_;exact hK2) ?_
   rw [decide_eq_decide.2 (kB t.of.length)]
   exact h _ S.ext
  rw [if_neg h5] at h
  refine gG_ ?_
  refine zk (fun h3=>?_) (fun h3=>?_)
  ·rw [if_pos h3] at h
   refine yv (fun K2 hK2=>by refine gG_ ?_;exact hK2) ?_
   refine yv (fun K2 hK2=>hK2) ?_
   rw [decide_eq_decide.2 (jL t.of.length)]
   exact h _ S.ext
  rw [if_neg h3] at h
  refine gG_ ?_
  refine zk (fun h4=>?_) (fun h4=>?_)
  ·rw [if_pos h4] at h
   refine gG_ ?_
   refine yv (fun K2 hK2=>by refine gG_ ?_;exact hK2) ?_
   refine yv (fun K2 hK2=>hK2) ?_
   rw [decide_eq_decide.2 (jL t.of.length)]
   exact h _ S.ext
  rw [if_neg h4] at h
  exact h _ S.ext
theorem xp (structs : Int) (n : Nat) (t : TyD) : zz structs (n+1) t=(if t.k=1∨t.k=2 then (!t.m&&decide (t.re=0))&&decide (t.st=0)&&decide (t.of.length=0)
   else if t.k=5 then (!t.m&&decide (t.re=0))&&decide (t.of.length=0)&&decide (0≤t.st)&&decide (t.st<structs)
   else if t.k=3 then (!t.m&&decide (t.re=0))&&decide (t.st=0)&&(decide (t.of.length=1)&&inB structs n t)
   else if t.k=4 then decide (-1≤t.re)&&decide (t.st=0)&&(decide (t.of.length=1)&&inB structs n t)
   else false):=rfl
theorem Yw : ∀ (n : Nat) {t : TyD} {w : World} {r : Gh} {v : Value} {structs : Int} {K : Value→World→Prop},n≤1000→Holds r w→TyG r v t→
  (∀ w',Ext w w'→K (.bool (zz structs n t)) w')→zd Tryz.prog Tryz.xv #[v,.int .i64 structs,.int .i64 (n : Int)] w K:=by
 intro n
 induction n with
 |zero=>
  intro t w r v structs K _ hr hv h
  refine Tryz.QK ?_
  unfold Tryz.Yu
  have S:=St.start hr
  refine S.box fun b2 w1 S=>?_
  refine gG_ ?_
  exact h _ S.ext
 |succ n ih=>
  intro t w r v structs K hn hr hv h
  refine Tryz.QK ?_
  unfold Tryz.Yu
  obtain ⟨p,cap,rfl,_,_,hof⟩:=hv
  have S:=St.start hr
  refine S.box fun b2 w1 S=>?_
  refine gG_ ?_
  intro K11 hK11
  refine gG_ ?_
  refine kA (c:=decide (t.k=2)) (hK11 _ _ fun _=>?_) fun _ hk=>?_
  rotate_left
  ·refine gG_ ?_;exact hk
  simp only [List.getD_cons_zero]
  rw [xp] at h
  refine c_b (fun h12=>?_) (fun h12=>?_)
  ·have h12 : t.k=1∨t.k=2:=by simpa using h12
   rw [if_pos h12] at h
   refine gG_ ?_
   refine yv (fun K2 hK2=>by refine gG_ ?_;exact hK2) ?_
   refine yv (fun K2 hK2=>by refine gG_ ?_;exact hK2) ?_
   refine yv (fun K2 hK2=>by refine gG_ ?_;exact hK2) ?_
   rw [decide_eq_decide.2 (kB t.of.length)]
   exact h _ S.ext
  have h12 : ¬ (t.k=1∨t.k=2):=by simpa using h12
  rw [if_neg h12] at h
  refine gG_ ?_
  refine zk (fun h5=>?_) (fun h5=>?_)
  ·rw [if_pos h5] at h
   refine gG_ ?_
   refine yv (fun K2 hK2=>by refine gG_ ?_;exact hK2) ?_
   refine yv (fun K2 hK2=>by refine gG_ ?_;exact hK2) ?_
   refine yv (fun K2 hK2=>by refine gG_ ?_;exact hK2) ?_
   refine yv (fun K2 hK2=>by refine gG_ ?_;exact hK2) ?_
   rw [decide_eq_decide.2 (kB t.of.length)]
   have:=h _ S.ext
   simpa only [Bool.and_comm,Bool.and_left_comm,Bool.and_assoc] using this
  rw [if_neg h5] at h
  refine gG_ ?_
  refine zk (fun h3=>?_) (fun h3=>?_)
  ·rw [if_pos h3] at h
   refine gG_ ?_
   refine yv (fun K2 hK2=>by refine gG_ ?_;exact hK2) ?_
   refine yv (fun K2 hK2=>by refine gG_ ?_;exact hK2) ?_
   refine yv (fun K2 hK2=>by refine gG_ ?_;exact hK2) ?_
   refine zs (c:=inB structs n t) (fun hb K2 hK2=>?_) fun w5 e5=>?_
   ·have hlen : t.of.length=1:=by simp only [Bool.and_eq_true,decide_eq_true_eq] at hb;omega
    refine gG_ ?_
    obtain ⟨b,off,c,rfl,hc,hcell,ht⟩:=jK S hof (i:=0) (by omega)
    refine gG_ ?_
    refine zq (n:=5) hc (by simpa using hcell) ?_
    refine gG_ ?_
    rw [show ((n+1 : Nat) : Int) - 1=(n : Int) by omega]
    refine ih (by omega) S.holds ht fun w6 e6=>?_
    rw [← aeF]
    exact hK2 _ e6
   have S:=S.go e5
   rw [decide_eq_decide.2 (jL t.of.length)]
   have:=h _ S.ext
   simpa only [Bool.and_assoc] using this
  rw [if_neg h3] at h
  refine gG_ ?_
  refine zk (fun h4=>?_) (fun h4=>?_)
  ·rw [if_pos h4] at h
   refine gG_ ?_
   refine yv (fun K2 hK2=>by refine gG_ ?_;exact hK2) ?_
   refine yv (fun K2 hK2=>by refine gG_ ?_;exact hK2) ?_
   refine zs (c:=inB structs n t) (fun hb K2 hK2=>?_) fun w5 e5=>?_
   ·have hlen : t.of.length=1:=by simp only [Bool.and_eq_true,decide_eq_true_eq] at hb;omega
    refine gG_ ?_
    obtain ⟨b,off,c,rfl,hc,hcell,ht⟩:=jK S hof (i:=0) (by omega)
    refine gG_ ?_
    refine zq (n:=5) hc (by simpa using hcell) ?_
    refine gG_ ?_
    rw [show ((n+1 : Nat) : Int) - 1=(n : Int) by omega]
    refine ih (by omega) S.holds ht fun w6 e6=>?_
    rw [← aeF]
    exact hK2 _ e6
   have S:=S.go e5
   rw [decide_eq_decide.2 (jL t.of.length)]
   have:=h _ S.ext
   simpa only [Bool.and_assoc] using this
  rw [if_neg h4] at h
  exact h _ S.ext
def isB (t : TyD) : Bool:=zz 32 48 t
theorem Zf {t : TyD} {w : World} {r : Gh} {v : Value} {K : Value→World→Prop} (hr : Holds r w) (hv : TyG r v t) (h : ∀ w',Ext w w'→K (.bool (isB t)) w') : zd Tryz.prog Tryz.kP #[v] w K:=by
 refine Tryz.aeA ?_
 unfold Tryz.VO
 have hv0:=hv
 obtain ⟨p,cap,rfl,_⟩:=hv
 have S:=St.start hr
 refine S.box fun b2 w1 S=>?_
 refine gG_ ?_
 exact Yv 48 (by decide) S.holds hv0 fun w2 e2=>h _ (S.go e2).ext
theorem aa9 {t : TyD} {w : World} {r : Gh} {v : Value} {K : Value→World→Prop} (hr : Holds r w) (hv : TyG r v t) (h : ∀ w',Ext w w'→K (.bool (isB t)) w') : zd Tryz.prog Tryz.Z7 #[v] w K:=by
 refine Tryz.afO ?_
 unfold Tryz.aa6
 have hv0:=hv
 obtain ⟨p,cap,rfl,_⟩:=hv
 have S:=St.start hr
 refine S.box fun b2 w1 S=>?_
 refine gG_ ?_
 exact Yw 48 (by decide) S.holds hv0 fun w2 e2=>h _ (S.go e2).ext
end Go.Proofs
end
section
namespace Go.Proofs
open Go.Sh
set_option maxRecDepth 100000
theorem ym {s : Int} {n : Nat} {t : TyD} (h : zz s (n+1) t=true) : (t.of = []∧(t.k=1∨t.k=2∨t.k=5))∨∃ u,t.of = [u]∧zz s n u=true∧(t.k=3∨t.k=4):=by
 rw [xp] at h
 have one : ∀ {b : Bool},(b&&(decide (t.of.length=1)&&inB s n t))=true→∃ u,t.of = [u]∧zz s n u=true:=by
  intro b hb
  simp only [Bool.and_eq_true,decide_eq_true_eq] at hb
  obtain ⟨_,hl,hi⟩:=hb
  cases t with
  |mk k m re st of=>
   cases of with
   |nil=>cases hl
   |cons u l=>
    cases l with
    |nil=>exact ⟨u,rfl,hi⟩
    |cons x l=>cases hl
 split at h
 ·rename_i hk
  simp only [Bool.and_eq_true,decide_eq_true_eq] at h
  exact .inl ⟨List.eq_nil_of_length_eq_zero h.2,hk.elim .inl fun h=>.inr (.inl h)⟩
 split at h
 ·rename_i hk
  simp only [Bool.and_eq_true,decide_eq_true_eq] at h
  exact .inl ⟨List.eq_nil_of_length_eq_zero h.1.1.2,.inr (.inr hk)⟩
 split at h
 ·rename_i hk
  obtain ⟨u,h1,h2⟩:=one h
  exact .inr ⟨u,h1,h2,.inl hk⟩
 split at h
 ·rename_i hk
  obtain ⟨u,h1,h2⟩:=one h
  exact .inr ⟨u,h1,h2,.inr hk⟩
 ·cases h
def xR (f : Int→Int→Bool) : Nat→TyD→TyD→Bool
 |0,_,_=>false
 |n+1,a,b=>!(decide (a.k≠b.k) || !(a.m == b.m)||decide (a.st≠b.st) || !f a.re b.re)&&(decide (a.of.length=0)||(match a.of,b.of with|u::_,x::_=>xR f n u x|_,_=>false))
theorem aba {f : Int→Int→Bool} {n : Nat} {a b : TyD} (h : a.of = []) : xR f (n+1) a b = !(decide (a.k≠b.k) || !(a.m == b.m)||decide (a.st≠b.st) || !f a.re b.re):=by
 rw [xR,h];simp
theorem abb {f : Int→Int→Bool} {n : Nat} {a b u x : TyD} (h : a.of = [u]) (h2 : b.of = [x]) : xR f (n+1) a b=(!(decide (a.k≠b.k) || !(a.m == b.m)||decide (a.st≠b.st) || !f a.re b.re)&&xR f n u x):=by
 rw [xR,h,h2];simp
theorem Jk {f : Int→Int→Bool} {n : Nat} {a b : TyD} (h : (decide (a.k≠b.k) || !(a.m == b.m)||decide (a.st≠b.st) || !f a.re b.re)=true) : xR f (n+1) a b=false:=by
 rw [xR,h];simp
theorem adr {f : Int→Int→Bool} {fv : Value} (hf : ∀ (x y : Int) (w : World) (K : Value→World→Prop),K (.bool (f x y)) w→zH Tryz.prog fv #[.int .i64 x,.int .i64 y] w K) {s : Int} :
  ∀ (n : Nat) {a b : TyD} {w : World} {r : Gh} {va vb : Value} {K : Value→World→Prop},Holds r w→TyG r va a→TyG r vb b→zz s n a=true→zz s n b=true→
  (∀ w',Ext w w'→K (.bool (xR f n a b)) w')→zd Tryz.prog Tryz.jl #[va,vb,fv] w K:=by
 intro n
 induction n with
 |zero=>intro a b w r va vb K _ _ _ h;cases h
 |succ n ih=>
  intro a b w r va vb K hr hva hvb ha hb h
  refine Tryz.acd ?_
  unfold Tryz.QJ
  obtain ⟨p,cap,rfl,_,_,hofa⟩:=hva
  obtain ⟨q,cap',rfl,_,_,hofb⟩:=hvb
  have S:=St.start hr
  refine S.box fun b3 w1 S=>?_
  refine S.box fun b4 w2 S=>?_
  refine gG_ ?_
  refine ad6 (fun K2 hK2=>by refine gG_ ?_;exact hK2) ?_
  refine ad6 (fun K2 hK2=>by refine gG_ ?_;exact hK2) ?_
  refine ad6 (c:=!f a.re b.re) (fun K2 hK2=>?_) ?_
  ·refine gG_ ?_
   refine hf _ _ _ _ ?_
   refine gG_ ?_
   exact hK2
  refine c_b (fun hne=>?_) (fun heq=>?_)
  ·rw [Jk hne] at h
   exact h _ S.ext
  have S:=S.go (Ext.drew _)
  refine gG_ ?_
  have hk : a.k=b.k:=by
   simp only [Bool.or_eq_false_iff,decide_eq_false_iff_not,Classical.not_not] at heq
   exact heq.1.1.1
  rcases ym ha with ⟨hof,hka⟩|⟨u,hof,hu,hka⟩
  ·rw [aba hof,heq] at h
   refine akL (fun _=>?_) (fun hn=>absurd (by rw [hof];rfl) hn)
   exact h _ S.ext
  ·rcases ym hb with ⟨_,hkb⟩|⟨x,hofx,hx,hkb⟩
   ·exfalso;omega
   rw [abb hof hofx,heq] at h
   have hla : 0<a.of.length:=by rw [hof];exact Nat.one_pos
   have hlb : 0<b.of.length:=by rw [hofx];exact Nat.one_pos
   refine akL (fun hn=>by omega) (fun _=>?_)
   intro K2 hK2
   obtain ⟨ba,oa,ca,rfl,hca,hcella,hta⟩:=jK S hofa hla
   obtain ⟨bb,ob,cb,rfl,hcb,hcellb,htb⟩:=jK S hofb hlb
   have hau : a.of[0]=u:=by simp [hof]
   have hbx : b.of[0]=x:=by simp [hofx]
   rw [hau] at hta;rw [hbx] at htb
   refine gG_ ?_
   refine zq (n:=5) hca (by simpa using hcella) ?_
   refine gG_ ?_
   refine zq (n:=5) hcb (by simpa using hcellb) ?_
   refine gG_ ?_
   refine ih S.holds hta htb hu hx fun w5 e5=>?_
   refine hK2 _ _ ?_
   simpa using h _ (S.go e5).ext
def zO (f : Int→Int→Bool) (a b : TyD) : Bool:=(isB a&&isB b)&&xR f 48 a b
def yg (_ _ : Int) : Bool:=true
theorem aj0 (x y : Int) (w : World) (K : Value→World→Prop) (hk : K (.bool (yg x y)) w) : zH Tryz.prog (.func (.func Tryz.Y1) #[] #[]) #[.int .i64 x,.int .i64 y] w K:=by
 refine kI (by kernel_rfl) ?_
 refine Tryz.aan (t0:=.int .i64 x) (t1:=.int .i64 y) ?_
 unfold Tryz.Y7
 exact hk
theorem kK {a b : TyD} {w : World} {r : Gh} {va vb : Value} {K : Value→World→Prop} (hr : Holds r w) (ha : TyG r va a) (hb : TyG r vb b)
  (h : ∀ w',Ext w w'→K (.bool (zO yg a b)) w') : zd Tryz.prog Tryz.xi #[va,vb] w K:=by
 refine Tryz.aca ?_
 unfold Tryz.QG
 have ha0:=ha;have hb0:=hb
 obtain ⟨p,cap,rfl,_⟩:=ha
 obtain ⟨q,cap',rfl,_⟩:=hb
 have S:=St.start hr
 refine S.box fun b2 w1 S=>?_
 refine S.box fun b3 w2 S=>?_
 refine gG_ ?_
 refine Zf S.holds ha0 fun w3 e3=>?_
 have S:=S.go e3
 refine zs (c:=isB b) (fun _ K2 hK2=>?_) fun w4 e4=>?_
 ·refine gG_ ?_
  exact Zf S.holds hb0 fun w4 e4=>hK2 _ e4
 have S:=S.go e4
 refine zs (c:=xR yg 48 a b) (fun hab K2 hK2=>?_) fun w5 e5=>h _ (S.go e5).ext
 simp only [Bool.and_eq_true] at hab
 refine gG_ ?_
 refine adr (f:=yg) (s:=32) aj0 48 S.holds ha0 hb0 hab.1 hab.2 fun w5 e5=>?_
 exact hK2 _ e5
end Go.Proofs
end
section
namespace Go.Proofs
open Go.Sh
set_option maxRecDepth 100000
namespace TyD
mutual
def chain : TyD→List TyD
 |mk k m re st of=>mk k m re st of::chains of
def chains : List TyD→List TyD
 |[]=>[]
 |t::_=>chain t
end
theorem chain_eq : ∀ t : TyD,t.chain=t::chains t.of
 |mk _ _ _ _ _=>rfl
def regsL (l : List TyD) : List Int:=(l.filter fun u=>decide (u.k=4)).map re
def regs (t : TyD) : List Int:=regsL t.chain
theorem regs_eq (t : TyD) : t.regs=(if t.k=4 then [t.re] else [])++regsL (chains t.of):=by
 rw [regs,chain_eq,regsL,List.filter_cons]
 by_cases h : t.k=4
 ·simp only [h,decide_true,if_true];rfl
 ·simp only [h,decide_false,if_false];rfl
theorem chains_eq {l : List TyD} (h : 0<l.length) : chains l=chain l[0]:=by
 cases l with
 |nil=>cases h
 |cons t l=>rfl
end TyD
def ints (l : List Int) : List Value:=l.map (.int .i64)
theorem jx (l : List Int) : (ints l).length=l.length:=List.length_map ..
def NdG (r : Gh) (b off : Nat) (t : TyD) : Prop:=∃ c : List Value,c.length=5∧(∀ j v,c[j]? = some v→Ob r fun w=>w.cell? ⟨b,off+j,none⟩=some v)∧TyG r (.agg c.toArray) t
theorem NdG.of {r : Gh} {p : Option Addr} {of : List TyD} (h : RepS r 5 p 0 (TyD.dats of)) {i : Nat} (hi : i<of.length) : ∃ b off,p=some ⟨b,off,none⟩∧NdG r b (off+i*5) of[i]:=by
 rw [TyD.dats_map] at h
 obtain ⟨c,h1,h2,h3⟩:=h.get (i:=i) (List.getElem?_eq_getElem (by simpa using hi))
 obtain ⟨b,off,rfl,_⟩:=h2 0 c[0] (List.getElem?_eq_getElem (by omega))
 rw [List.getElem_map] at h3
 refine ⟨b,off,rfl,c,h1,fun j v hj=>?_,TyG.of_rep h3⟩
 obtain ⟨b',off',hp,ho⟩:=h2 j v hj
 cases hp
 rwa [Nat.zero_add] at ho
theorem Vu {X : Nat→Prop} {w0 w : World} {r q : Gh} {L : List Asr} {bl b off : Nat} {v : Value} {n : Nat} {xs : List Value} {t : TyD} {K : Value→World→Prop}
  (S : StX X w0 r w (.cell bl [v] 32 :: .row v 3 1 n xs::L)) (hn : NdG q b off t) [Le q r] (hl : n<1000000000)
  (h : ∀ v' w',StX X w0 r w' (.cell bl [v'] 32 :: .row v' 3 1 (n+1) (xs ++ [.int .i64 t.re])::L)→K (.tuple #[]) w') :
  zd Tryz.prog Tryz.qV #[.pointer (some ⟨b,off,none⟩),.pointer (some ⟨bl,0,none⟩)] w K:=by
 refine Tryz.Jg ?_
 unfold Tryz.ZX
 obtain ⟨c,hc,hcell,p,cap,hv,_,_,hof⟩:=hn
 cases hv
 have S:=S.go (Ext.drew _)
 refine gG_ ?_
 refine zg (S.at (hcell 2 _ rfl)) ?_
 refine S.litU (e:=3) (cs:=[.int .i64 t.re]) (by kernel_rfl) fun b3 w3 S=>?_
 refine S.ap (Sl.blk (S.blk b3)) (fun v4 w4 S=>?_) (by omega)
 refine S.st (h1:=S.row1 v4) fun w5 S=>?_
 exact h _ _ S.tl
theorem Vv : ∀ (k : Nat) {t : TyD} {X : Nat→Prop} {w0 w : World} {r q : Gh} {L : List Asr} {bl b off : Nat} {v : Value} {n : Nat} {xs : List Value} {K : Value→World→Prop} [Le q r],t.ht≤k→
  StX X w0 r w (.cell bl [v] 32 :: .row v 3 1 n xs::L)→NdG q b off t→n+k<1000000000→
  (∀ v' w',StX X w0 r w' (.cell bl [v'] 32 :: .row v' 3 1 (n+t.regs.length) (xs++ints t.regs)::L)→K (.tuple #[]) w')→
  zd Tryz.prog Tryz.jU #[.pointer (some ⟨b,off,none⟩),.func (.func Tryz.qV) #[] #[.pointer (some ⟨bl,0,none⟩)]] w K:=by
 intro k
 induction k with
 |zero=>intro t X w0 w r q L bl b off v n xs K _ ht;exfalso;cases t with|mk k m re st of=>exact absurd ht (Nat.not_succ_le_zero _)
 |succ k ih=>
  intro t X w0 w r q L bl b off v n xs K _ ht S hn hk h
  refine Tryz.adq ?_
  unfold Tryz.Jf
  have hn0:=hn
  obtain ⟨c,hc,hcell,p,cap,hv,_,_,hof⟩:=hn
  cases hv
  refine zp (fun _ w'=>∃ v',StX X w0 r w' (.cell bl [v'] 32 :: .row v' 3 1 (n+(if t.k=4 then 1 else 0)) (xs++(if t.k=4 then [.int .i64 t.re] else []))::L)) (fun K2 hK2=>?_) ?_
  ·refine gG_ ?_
   refine zg (S.at (hcell 0 _ rfl)) ?_
   refine gG_ ?_
   refine zk (fun h4=>?_) (fun h4=>hK2 _ _ ⟨v,by simpa [h4] using S⟩)
   refine kI (by kernel_rfl) ?_
   show zd _ _ #[_,_] _ _
   refine Vu S hn0 (by omega) fun v' w' S=>hK2 _ _ ⟨v',by simpa [h4] using S⟩
  ·rintro s w' ⟨v',S⟩ d
   refine gG_ ?_
   refine zg (S.at (hcell 4 _ rfl)) ?_
   refine gG_ ?_
   refine zk (fun hlen=>?_) (fun hlen=>?_)
   ·have hlen : 0<t.of.length:=by omega
    obtain ⟨b2,off2,rfl,hn2⟩:=NdG.of hof hlen
    refine gG_ ?_
    refine zg (S.at (hcell 4 _ rfl)) ?_
    refine gG_ ?_
    have hh:=TyD.ht_of (List.getElem_mem hlen)
    refine ih (t:=t.of[0]) (by omega) S hn2 (by split<;>omega) fun v3 w3 S=>h v3 w3 ?_
    have h1 : t.regs=(if t.k=4 then [t.re] else [])++t.of[0].regs:=by rw [TyD.regs_eq,TyD.chains_eq hlen];rfl
    rw [h1]
    have e1 : n+(if t.k=4 then 1 else 0)+t.of[0].regs.length=n+((if t.k=4 then [t.re] else [])++t.of[0].regs).length:=by split<;>simp<;>omega
    have e2 : xs++(if t.k=4 then [.int .i64 t.re] else [])++ints t.of[0].regs=xs++ints ((if t.k=4 then [t.re] else [])++t.of[0].regs):=by split<;>simp [ints]
    rwa [e1,e2] at S
   ·have hz : t.of = []:=List.eq_nil_of_length_eq_zero (by omega)
    have h1 : t.regs=(if t.k=4 then [t.re] else []):=by rw [TyD.regs_eq,hz];simp [TyD.chains,TyD.regsL]
    refine h v' _ ?_
    rw [h1]
    have e1 : (if t.k=4 then [t.re] else []).length=(if t.k=4 then 1 else 0):=by split<;>rfl
    have e2 : ints (if t.k=4 then [t.re] else [])=(if t.k=4 then [.int .i64 t.re] else []):=by split<;>rfl
    rwa [e1,e2]
end Go.Proofs
end
section
namespace Go.Proofs
open Go.Sh
set_option maxRecDepth 100000
theorem aiM {b : Nat} {v : Value} {t : TyD} {r : Gh} {T : TypeId} (h : TyG r v t) : NdG (r.or (Go.Sh.one b v.cells.toList T)) b 0 t:=by
 obtain ⟨c,rfl,hc,hr⟩:=h.rep
 refine ⟨c,hc,fun j x hj w hw=>?_,(TyG.of_rep hr).up⟩
 have B:=zG (b:=b) (c:=(Value.agg c.toArray).cells.toList) (T:=T) w (hw.le (h:=inferInstance))
 show w.cell? ⟨b,0+j,none⟩=some x
 rw [Nat.zero_add,B.cell]
 exact hj
theorem acR : ∀ (n : Nat) {t : TyD},t.ht≤n→t.chain.length≤n:=by
 intro n
 induction n with
 |zero=>intro t h;cases t with|mk k m re st of=>exact absurd h (Nat.not_succ_le_zero _)
 |succ n ih=>
  intro t h
  rw [TyD.chain_eq,List.length_cons]
  cases hof : t.of with
  |nil=>exact Nat.succ_le_succ (Nat.zero_le _)
  |cons u l=>
   have : u.ht<t.ht:=TyD.ht_of (by rw [hof];exact List.mem_cons_self ..)
   exact Nat.succ_le_succ (ih (t:=u) (by omega))
theorem aiN (t : TyD) : t.regs.length≤t.ht:=by
 rw [TyD.regs,TyD.regsL,List.length_map]
 exact Nat.le_trans (List.length_filter_le _ _) (acR _ (Nat.le_refl _))
theorem Vi : ∀ {n : Nat} {s : Int} {t : TyD},zz s n t=true→t.ht≤n
 |0,_,_,h=>by cases h
 |n+1,s,t,h=>by
  cases t with
  |mk k m re st of=>
   rcases ym h with ⟨hof,_⟩|⟨u,hof,hu,_⟩
   ·cases hof;exact Nat.succ_le_succ (Nat.zero_le _)
   ·cases hof
    refine Nat.succ_le_succ ?_
    show max u.ht 0≤n
    rw [Nat.max_zero];exact Vi hu
theorem ahI {t : TyD} (h : isB t=true) : t.ht≤48:=Vi h
theorem acS {s : Int} {n : Nat} {t : TyD} (h : zz s (n+1) t=true) : (t.k≠4∧t.k≠3∧t.of = []∧t.regs = [])∨∃ u,t.of = [u]∧zz s n u=true∧(t.k=3∨t.k=4)∧t.regs=(if t.k=4 then [t.re] else [])++u.regs:=by
 rcases ym h with ⟨hof,hk⟩|⟨u,hof,hu,hk⟩
 ·have h4 : t.k≠4:=by omega
  refine .inl ⟨h4,by omega,hof,?_⟩
  rw [TyD.regs_eq,hof,if_neg h4];rfl
 ·refine .inr ⟨u,hof,hu,hk,?_⟩
  rw [TyD.regs_eq,hof];rfl
theorem Xc {t : TyD} {w : World} {r : Gh} {v : Value} {K : Value→World→Prop} (hr : Holds r w) (hv : TyG r v t) (ht : t.ht≤1000000)
  (h : ∀ v' w',Ext w w'→w'.ownsRow w.heap.size 3 1 v' t.regs.length (ints t.regs)→K v' w') : zd Tryz.prog Tryz.k0 #[v] w K:=by
 refine Tryz.aak ?_
 unfold Tryz.Y4
 have S:=St.start hr
 refine S.box fun b1 w1 S=>?_
 have S:=S.frz
 refine S.al fun b3 w3 S=>?_
 refine gG_ ?_
 have S:=(S.ownNil 3 1).swap
 refine Vv t.ht (Nat.le_refl _) S (aiM (T:=93) hv) (by omega) fun v' w' S=>?_
 refine S.ld ?_
 rw [Nat.zero_add,List.nil_append] at S
 exact h v' w' S.ext (S.give v')
def regsT (t : TyD) : List Int:=if isB t then t.regs else []
theorem Xd {t : TyD} {w : World} {r : Gh} {v : Value} {K : Value→World→Prop} (hr : Holds r w) (hv : TyG r v t)
  (h : ∀ v' w',Ext w w'→w'.ownsRow w.heap.size 3 1 v' (regsT t).length (ints (regsT t))→K v' w') : zd Tryz.prog Tryz.kZ #[v] w K:=by
 refine Tryz.aaj ?_
 unfold Tryz.Y3
 have hv0:=hv
 obtain ⟨p,cap,rfl,_⟩:=hv
 have S:=St.start hr
 refine S.box fun b1 w1 S=>?_
 refine gG_ ?_
 refine Zf S.holds hv0 fun w2 e2=>?_
 have S:=S.go e2
 refine gG_ ?_
 refine c_b (fun hn=>?_) (fun hb=>?_)
 ·have hb : isB t=false:=by simpa using hn
  refine h _ _ S.ext ?_
  rw [regsT,hb]
  exact World.ownsRow_nil _ _ _ _
 have hb : isB t=true:=by simpa using hb
 refine gG_ ?_
 have e02:=S.ext
 refine Xc S.holds hv0 (by have:=ahI hb;omega) fun v3 w3 e3 ho=>?_
 have S:=S.take e3 ho
 refine h _ _ S.ext ?_
 rw [regsT,hb]
 exact S.give v3
theorem Xe {t : TyD} {w : World} {r : Gh} {v : Value} {K : Value→World→Prop} (hr : Holds r w) (hv : TyG r v t)
  (h : ∀ v' w',Ext w w'→w'.ownsRow w.heap.size 3 1 v' (regsT t).length (ints (regsT t))→K v' w') : zd Tryz.prog Tryz.k7 #[v] w K:=by
 refine Tryz.aap ?_
 unfold Tryz.Y9
 have hv0:=hv
 obtain ⟨p,cap,rfl,_⟩:=hv
 have S:=St.start hr
 refine S.box fun b1 w1 S=>?_
 refine gG_ ?_
 refine aa9 S.holds hv0 fun w2 e2=>?_
 have S:=S.go e2
 refine gG_ ?_
 refine c_b (fun hn=>?_) (fun hb=>?_)
 ·have hb : isB t=false:=by simpa using hn
  refine h _ _ S.ext ?_
  rw [regsT,hb]
  exact World.ownsRow_nil _ _ _ _
 have hb : isB t=true:=by simpa using hb
 have hreg : regsT t=t.regs:=by rw [regsT,hb];rfl
 rw [hreg] at h
 have hlen:=Nat.le_trans (aiN t) (ahI hb)
 obtain ⟨c1,hc1,hc15,hrep⟩:=hv0.rep
 rw [show (Value.agg #[.int .u8 t.k,.bool t.m,.int .i64 t.re,.int .i64 t.st,.slice p t.of.length cap]).cells.toList=c1 by rw [hc1];rfl] at S
 refine zi (ι:=TyD × Value × List Int × List Value × Nat) (fun i=>[i.2.1])
  (fun i w'=>zz 32 i.2.2.2.2 i.1=true∧t.regs=i.2.2.1++i.1.regs∧i.2.2.2.1.length=5∧TyG r (.agg i.2.2.2.1.toArray) i.1∧St w r w' [.row i.2.1 3 1 i.2.2.1.length (ints i.2.2.1),.cell b1 i.2.2.2.1 93])
  (fun i=>i.2.2.2.2) (t,.slice none 0 0,[],c1,48) rfl ⟨hb,rfl,hc15,hc1 ▸ hv0,S.ownNil 3 1⟩ ?_
 clear S
 rintro ⟨u,v4,ds,c,n⟩ d w4 ⟨hu,hds,hc,hty,S⟩ K6 hK6
 simp only at hu hds hc hty S ⊢
 obtain ⟨n,rfl⟩ : ∃ m,n=m+1:=by cases n with|zero=>cases hu|succ n=>exact ⟨n,rfl⟩
 obtain ⟨p,cap,hcv,_,_,hof⟩:=hty
 have hcv : c = [.int .u8 u.k,.bool u.m,.int .i64 u.re,.int .i64 u.st,.slice p u.of.length cap]:=by
  have:=Value.agg.inj hcv;exact List.toArray_inj this
 subst hcv
 refine gG_ ?_
 refine ad6 (fun K2 hK2=>by refine gG_ ?_;exact hK2) ?_
 refine c_b (fun hk=>?_) (fun hk=>?_)
 ·rcases acS hu with ⟨h4,h3,_⟩|⟨x,hofx,hx,hk34,hrg⟩
  ·exfalso;simp [h4,h3] at hk
  rw [hrg,← List.append_assoc] at hds
  have hl : 0<u.of.length:=by rw [hofx];exact Nat.one_pos
  have hux : u.of[0]=x:=by simp [hofx]
  refine zp (fun s w'=>∃ v',s = [v']∧St w r w' [.row v' 3 1 (ds++(if u.k=4 then [u.re] else [])).length (ints (ds++(if u.k=4 then [u.re] else []))),.cell b1 [.int .u8 u.k,.bool u.m,.int .i64 u.re,.int .i64 u.st,.slice p u.of.length cap] 93]) (fun K2 hK2=>?_) ?_
  ·refine gG_ ?_
   refine zk (fun h4=>?_) (fun h4=>hK2 _ _ ⟨v4,rfl,by simpa [h4] using S⟩)
   have hlen2 : ds.length≤48:=by
    have:=congrArg List.length hds
    simp only [List.length_append] at this
    omega
   refine gG_ ?_
   refine S.lit (e:=3) (cs:=[.int .i64 u.re]) (by kernel_rfl) fun b3 w3 S=>?_
   refine S.ap (Sl.blk (S.blk b3)) (fun v5 w5 S=>?_) (by omega)
   refine hK2 _ _ ⟨v5,rfl,?_⟩
   simpa [h4,ints] using S.tl
  ·rintro s w7 ⟨v5,rfl,S⟩ d7
   refine gG_ ?_
   obtain ⟨ba,oa,ca,rfl,hca,hcella,hta⟩:=jK S hof hl
   rw [hux] at hta
   refine gG_ ?_
   refine zq (n:=5) hca (by simpa using hcella) ?_
   have h1 : ∀ y ∈ ca.toArray.toList,y.oneCell'=true:=by
    obtain ⟨p9,cap9,hv9,_⟩:=hta
    rw [Value.agg.inj hv9];simp [Value.oneCell']
   refine S.stB (hc:=by simpa using hca) (h1:=h1) fun w8 S=>?_
   exact hK6 (x,v5,ds++(if u.k=4 then [u.re] else []),ca,n) _ ⟨hx,hds,hca,hta,S⟩ (Nat.lt_succ_self _)
 ·rcases acS hu with ⟨h4,h3,hofx,hrg⟩|⟨x,hofx,hx,hk34,hrg⟩
  ·rw [hrg,List.append_nil] at hds
   refine h _ _ S.ext ?_
   rw [hds]
   exact S.give v4
  ·exfalso;rcases hk34 with h|h<;>simp [h] at hk
end Go.Proofs
end
section
namespace Go.Proofs
open Go.Sh
set_option maxRecDepth 100000
def qH (l : List (Int × Int)) : List Value:=l.flatMap fun p=>[.int .i64 p.1,.int .i64 p.2]
theorem aeG (a b : List (Int × Int)) : qH (a++b)=qH a++qH b:=List.flatMap_append ..
theorem ahJ (l : List (Int × Int)) : (qH l).length=l.length*2:=by
 induction l with
 |nil=>rfl
 |cons p l ih=>simp only [qH,List.flatMap_cons,List.length_append] at *;simp [ih];omega
end Go.Proofs
end
section
namespace Go.Proofs
open Go.Sh
set_option maxRecDepth 100000
theorem VT (a b : List Int) : ints (a++b)=ints a++ints b:=List.map_append ..
theorem Yx {r : Gh} {c : List Value} {t : TyD} (h : TyG r (.agg c.toArray) t) : ∃ p cap,c = [.int .u8 t.k,.bool t.m,.int .i64 t.re,.int .i64 t.st,.slice p t.of.length cap]∧RepS r 5 p 0 (TyD.dats t.of):=by
 obtain ⟨p,cap,hv,_,_,hof⟩:=h
 exact ⟨p,cap,List.toArray_inj (Value.agg.inj hv),hof⟩
theorem agf {r : Gh} {c : List Value} {t : TyD} (h : TyG r (.agg c.toArray) t) : ∀ y ∈ c.toArray.toList,y.oneCell'=true:=by
 obtain ⟨p,cap,rfl,_⟩:=Yx h
 simp [Value.oneCell']
end Go.Proofs
end
section
namespace Go.Proofs
open Go.Sh
set_option maxRecDepth 100000
end Go.Proofs
end
section
namespace Go.Proofs
open Go.Sh
set_option maxRecDepth 100000
end Go.Proofs
end
section
namespace Go.Proofs
open Go.Sh
set_option maxRecDepth 100000
def xK (t : TyD) : Bool:=isB t&&((decide (t.k=1)||decide (t.k=2))||(decide (t.k=4) && !t.m))
theorem XW {t : TyD} {w : World} {r : Gh} {v : Value} {K : Value→World→Prop} (hr : Holds r w) (hv : TyG r v t)
  (h : ∀ w',Ext w w'→K (.bool (xK t)) w') : zd Tryz.prog Tryz.qE #[v] w K:=by
 refine Tryz.aa5 ?_
 unfold Tryz.XQ
 have hv0:=hv
 obtain ⟨p,cap,rfl,_⟩:=hv
 have S:=St.start hr
 refine S.box fun b1 w1 S=>?_
 refine gG_ ?_
 refine Zf S.holds hv0 fun w2 e2=>?_
 have S:=S.go e2
 refine gG_ ?_
 refine c_b (fun hn=>?_) (fun hb=>?_)
 ·have hb : isB t=false:=by simpa using hn
  rw [xK,hb] at h;exact h _ S.ext
 have hb : isB t=true:=by simpa using hb
 rw [xK,hb,Bool.true_and] at h
 refine gG_ ?_
 intro K11 hK11
 refine gG_ ?_
 refine kA (c:=decide (t.k=2)) (hK11 _ _ fun _=>?_) fun _ hk=>?_
 rotate_left
 ·refine gG_ ?_;exact hk
 simp only [List.getD_cons_zero]
 refine c_b (fun h12=>?_) (fun h12=>?_)
 ·rw [h12,Bool.true_or] at h;exact h _ S.ext
 rw [h12,Bool.false_or] at h
 refine gG_ ?_
 refine zk (fun h4=>?_) (fun h4=>?_)
 ·rw [show decide (t.k=4)=true from decide_eq_true h4,Bool.true_and] at h
  refine gG_ ?_
  exact h _ S.ext
 ·rw [show decide (t.k=4)=false from decide_eq_false h4,Bool.false_and] at h
  exact h _ S.ext
end Go.Proofs
end
section
namespace Go.Proofs
open Go.Sh
set_option maxRecDepth 100000
end Go.Proofs
end
section
namespace Go.Sh
open Go.RowKit
set_option linter.unusedSimpArgs false
set_option linter.unusedVariables false
section
variable {P : Program} {t s : TypeId} {c : Bool} {k : IntKind} {m a b : Int}
end
end Go.Sh
end
section
namespace Go.Sh
open Go.RowKit
theorem g_TT {A B : Prop} (a : A) : gIf (.bool true) true A B:=a
theorem g_FF {A B : Prop} (a : A) : gIf (.bool false) false A B:=a
theorem g_TF {A B : Prop} (b : B) : gIf (.bool true) false A B:=b
theorem g_FT {A B : Prop} (b : B) : gIf (.bool false) true A B:=b
section
variable {w : World} {A : (List Value→World→Prop)→Prop} {Z : Value→World→Prop} {b c : Bool}
theorem ahK (R : World→Prop) (h0 : b=true→R w) (hA : b=false→∀ K : List Value→World→Prop,(∀ w',R w'→K [.bool c] w')→A K) (hZ : ∀ w',R w'→Z (.bool (b||c)) w') :
  za (fun K=>gIf (.bool b) false (A K) (K [undef] w)) fun s _ w'=>zb (.bool b) (.bool true) (s.getD 0 undef) fun t=>Z t w':=by
 intro K hK
 cases b with
 |true=>exact hK _ _ fun _=>⟨true,rfl,by simpa using hZ w (h0 rfl)⟩
 |false=>exact hA rfl K fun w' e=>hK _ _ fun _=>⟨false,rfl,by simpa using hZ w' e⟩
end
theorem g_UU {want : Bool} {A B : Prop} (b : B) : gIf undef want A B:=b
section
variable {P : Program} {w : World} {t e : TypeId} {size n m : Nat} {v : Value} {xs news : List Value}
theorem Que.of_row {base : Nat} (h : w.ownsRow base e size v n xs) : Que w e size v n xs:=by
 refine ⟨h.1,?_⟩
 rcases qD h with ⟨rfl,rfl,rfl⟩|⟨g,cap,c,rfl,hb,B,h1,h2,h3,h4⟩
 ·exact .inl ⟨rfl,rfl⟩
 ·exact .inr ⟨g,0,cap,c,rfl,B,h1,h2,by omega,by rw [List.drop_zero];exact h4⟩
theorem Que.shape (h : Que w e size v n xs) : ∃ p cap,v = .slice p n cap∧(p=none→cap=0)∧n≤cap∧xs.length=n*size∧Sl w p xs:=by
 obtain ⟨hl,⟨rfl,rfl⟩|⟨g,off,cap,c,rfl,B,h1,h2,h3,h4⟩⟩:=h
 ·have hx : xs = []:=by simpa using hl
  subst hx
  exact ⟨none,0,rfl,fun _=>rfl,Nat.le_refl _,hl,Sl.nil _ _⟩
 ·refine ⟨_,cap,rfl,by simp,h1,hl,fun i v hv=>⟨g,off,rfl,?_⟩⟩
  rw [B.cell]
  rw [← h4,List.getElem?_take] at hv
  split at hv
  ·rwa [List.getElem?_drop] at hv
  ·cases hv
theorem ahL {K : Value→World→Prop} {ty : TypeId} {bytes : Nat} {a : Addr} {c : Nat}
  (hT : apT P t=some (e,size,bytes)) (hown : Que w e size v n xs) (hs : Sl w (some a) news) (hl : news.length=m*size) (h1 : ∀ u ∈ news,u.oneCell'=true)
  (hb : (n+m)*bytes≤140737488355328)
  (h : ∀ v' w',Que w' e size v' (n+m) (xs++news)→ExtBut (fun k=>v.ownBlock=some k) w w'→(v'.ownBlock=v.ownBlock∨v'.ownBlock=some w.heap.size)→K v' w') :
  opW P w (Builtin.append_ #[t,t] ty #[v,.slice (some a) m c]) K:=by
 rcases hown with ⟨hxl,⟨rfl,rfl⟩|⟨g,off,cap,cur,rfl,B,h2,h3,h4,h5⟩⟩
 ·have hx : xs = []:=by simpa using hxl
  subst hx
  exact aer hT (World.ownsRow_nil w 0 e size) hs hl (by simp) h1 hb (Nat.zero_le _) fun v' w' h6 h7 h8 _=>h v' w' (.of_row h6) h7 h8
 unfold apT at hT
 cases hu : P.underlying t with
 |none=>rw [hu] at hT;cases hT
 |some d=>
  rw [hu] at hT
  cases d<;>first|(cases hT;done)|skip
  rename_i e'
  simp only [Option.bind_eq_some_iff] at hT
  obtain ⟨i,hi,hT⟩:=hT
  cases hz : i.zero with
  |none=>rw [hz] at hT;cases hT
  |some z=>
   rw [hz] at hT
   simp only at hT
   split at hT
   ·rename_i hc
    obtain ⟨hzs,hsz,hbp⟩:=hc
    simp only [Option.some.injEq,Prod.mk.injEq] at hT
    obtain ⟨rfl,rfl,rfl⟩:=hT
    have hnews : ∀ j u,news[j]? = some u→w.cell? (a.add j)=some u:=fun j u hj=>by obtain ⟨b,off,hp,hc⟩:=hs j u hj;cases hp;rw [kz];exact hc
    have hlen : (xs++news).length=(n+m)*i.size:=by rw [List.length_append,hxl,hl,Nat.add_mul]
    by_cases hroom : n+m≤cap
    ·have hmul : (n+m)*i.size≤cap*i.size:=Nat.mul_le_mul_right _ hroom
     have hfit : off+n*i.size+news.length≤cur.length:=by rw [hl];rw [Nat.add_mul] at hmul;omega
     have hf:=run_firstCells_some (P:=P) w i.size m a m c news hl hnews
     have hst:=run_storeCells_at P g (off+n*i.size) e' news 0 cur.toArray w B (by simpa using hfit) h1
     simp only [Nat.add_zero] at hst
     obtain ⟨f1,f2,f3⟩:=Q7 B (cur.take (off+n*i.size)++news++cur.drop (off+n*i.size+news.length))
     refine ⟨_,_,by simp [Builtin.append_,run_underlying hu,sizeOf,typeInfo,hi,Builtin.lenOf,hroom,hf,Addr.add_lit,hst],h _ _ ⟨hlen,.inr ⟨g,off,cap,_,rfl,f3,hroom,h3,?_,?_⟩⟩ (f1.mono fun k _ hk=>by cases hk;rfl) (.inl rfl)⟩
     ·simp only [List.length_append,List.length_take,List.length_drop];omega
     ·rw [← hlen,List.append_assoc,List.drop_append_of_le_length (by rw [List.length_take];omega),List.drop_take,show off+n*i.size - off=n*i.size by omega,h5,← List.append_assoc,List.take_left']
      rfl
    ·have h63 : n+m≤maxLen:=by
      have : (n+m)*1≤(n+m)*i.bytes:=Nat.mul_le_mul_left _ hbp
      simp only [maxLen];omega
     obtain ⟨v',w',hr,ho,hg⟩:=run_append_arg_grows (P:=P) w t ty e' i z i.size i.bytes hu hi hz rfl rfl hzs hsz ⟨g,off,none⟩ n cap xs hxl (fun j u hj=>by
      rw [kz,B.cell]
      rw [← h5,List.getElem?_take] at hj
      split at hj
      ·rwa [List.getElem?_drop] at hj
      ·cases hj) a m c news hl hnews (by omega) h63 hb
     refine ⟨v',w',hr,h v' w' (.of_row ho) ⟨hg.os,hg.tape,hg.output,hg.size,fun k hk _=>hg.block k hk (by simp)⟩ ?_⟩
     have hr2:=run_append_grow (P:=P) w t ty e' i z hu hi hz ⟨g,off,none⟩ n cap xs hxl (fun j u hj=>by
      rw [kz,B.cell]
      rw [← h5,List.getElem?_take] at hj
      split at hj
      ·rwa [List.getElem?_drop] at hj
      ·cases hj) a m c news hl hnews (by omega) (by simp only [maxLen] at h63;omega) (growslice_fits (by omega) hb)
     rw [hr] at hr2
     injection hr2 with e1 e2
     rw [e1];exact .inr rfl
   ·cases hT
theorem Que.drop {g off cap i : Nat} (h : Que w e size (.slice (some ⟨g,off,none⟩) n cap) n xs) (hi : i≤n) :
  Que w e size (.slice (if cap=i then some ⟨g,off,none⟩ else (some (⟨g,off,none⟩ : Addr)).map (·.add (i*size))) (n - i) (cap - i)) (n - i) (xs.drop (i*size)):=by
 obtain ⟨hl,⟨h0,_⟩|⟨g',off',cap',c,hv,B,h1,h2,h3,h4⟩⟩:=h
 ·cases h0
 cases hv
 refine ⟨by rw [List.length_drop,hl,Nat.sub_mul],.inr ?_⟩
 by_cases hc : cap=i
 ·rw [if_pos hc]
  have : n - i=0:=by omega
  refine ⟨g,off,cap - i,c,rfl,B,by omega,by omega,?_,?_⟩
  ·have : (cap - i)*size=0:=by rw [show cap - i=0 by omega,Nat.zero_mul]
   omega
  ·rw [this,Nat.zero_mul,List.take_zero,eq_comm,List.drop_eq_nil_iff,hl]
   exact Nat.mul_le_mul_right _ (by omega)
 ·rw [if_neg hc]
  refine ⟨g,off+i*size,cap - i,c,by simp only [Option.map_some,kz],B,by omega,by omega,?_,?_⟩
  ·have : i*size≤cap*size:=Nat.mul_le_mul_right _ (by omega)
   rw [Nat.sub_mul];omega
  ·rw [← h4,List.drop_take,List.drop_drop,Nat.sub_mul]
end
theorem alA {P : Program} {w : World} {f : FuncId} {K : Value→World→Prop} {x0 : Value} (he : xk P f=true) (h : zd P f #[x0] w K) : zH P (.func (.func f) #[] #[]) #[x0] w K:=kI he h
theorem Qf {P : Program} {w : World} {f : FuncId} {K : Value→World→Prop} {x0 c0 : Value} (he : xk P f=true) (h : zd P f #[x0,c0] w K) : zH P (.func (.func f) #[] #[c0]) #[x0] w K:=kI he h
theorem abc {P : Program} {w : World} {f : FuncId} {K : Value→World→Prop} {x0 c0 c1 : Value} (he : xk P f=true) (h : zd P f #[x0,c0,c1] w K) : zH P (.func (.func f) #[] #[c0,c1]) #[x0] w K:=kI he h
theorem alB {P : Program} {w : World} {f : FuncId} {K : Value→World→Prop} {x0 x1 : Value} (he : xk P f=true) (h : zd P f #[x0,x1] w K) : zH P (.func (.func f) #[] #[]) #[x0,x1] w K:=kI he h
theorem alC {P : Program} {w : World} {f : FuncId} {K : Value→World→Prop} {x0 x1 c0 : Value} (he : xk P f=true) (h : zd P f #[x0,x1,c0] w K) : zH P (.func (.func f) #[] #[c0]) #[x0,x1] w K:=kI he h
theorem ajK {P : Program} {w : World} {f : FuncId} {K : Value→World→Prop} {x0 x1 c0 c1 : Value} (he : xk P f=true) (h : zd P f #[x0,x1,c0,c1] w K) : zH P (.func (.func f) #[] #[c0,c1]) #[x0,x1] w K:=kI he h
class Qg (v : Value) (L : List Asr) (e : outParam TypeId) (sz n : outParam Nat) (xs : outParam (List Value)) (f : outParam (Asr→List Asr)) : Prop where
 h : ∃ p q,L=p ++ .que v e sz n xs::q∧∀ y,f y=p++y::q
instance {v : Value} {e : TypeId} {sz n : Nat} {xs : List Value} {L : List Asr} : Qg v (.que v e sz n xs::L) e sz n xs fun y=>y::L:=⟨[],L,rfl,fun _=>rfl⟩
instance (priority:=low) {v : Value} {e : TypeId} {sz n : Nat} {xs : List Value} {x : Asr} {L : List Asr} {f : Asr→List Asr} [h : Qg v L e sz n xs f] : Qg v (x::L) e sz n xs fun y=>x::f y:=⟨by
 obtain ⟨p,q,h1,h2⟩:=h.h
 exact ⟨x::p,q,by rw [h1];rfl,fun c'=>by rw [h2];rfl⟩⟩
section
variable {P : Program} {X : Nat→Prop} {w0 w : World} {r : Gh} {L : List Asr} {t e : TypeId} {sz n m : Nat} {v : Value} {xs news : List Value} {g : Asr→List Asr}
theorem StX.que (S : StX X w0 r w L) (v : Value) [h : Qg v L e sz n xs g] : Que w e sz v n xs:=by
 obtain ⟨pp,qq,h2,h3⟩:=h.h
 exact S.has (.que v e sz n xs) (by rw [h2];simp)
theorem StX.queS (S : StX X w0 r w L) (v : Value) [h : Qg v L e sz n xs g] : ∃ p cap,v = .slice p n cap∧(p=none→cap=0)∧n≤cap∧xs.length=n*sz∧Sl w p xs:=
 (S.que v (h:=h)).shape
theorem StX.toQue (S : StX X w0 r w L) (v : Value) [h : kY v L e sz n xs g] : StX X w0 r w (g (.que v e sz n xs)):=by
 obtain ⟨pp,qq,h2,h3⟩:=h.h
 have hr:=S.has (.row v e sz n xs) (by rw [h2];simp)
 rw [h3]
 rw [h2] at S
 exact S.turn (x:=.row v e sz n xs) (y:=.que v e sz n xs) (ExtBut.refl _ _) (Que.of_row hr) fun k hk=>.inl hk
theorem StX.apQ (S : StX X w0 r w L) {ty : TypeId} {by' cap : Nat} {a : Addr} [h : Qg v L e sz n xs g] [z : ApT P t e sz by'] {K : Value→World→Prop}
  (hs : Sl w (some a) news) (k : ∀ v' w',StX X w0 r w' (g (.que v' e sz (n+m) (xs++news)))→K v' w')
  (hb : (n+m)*by'≤140737488355328) (hl : news.length=m*sz:=by simp) (h1 : ∀ u ∈ news,u.oneCell'=true:=by simp [Value.oneCell']) : opW P w (Builtin.append_ #[t,t] ty #[v,.slice (some a) m cap]) K:=by
 obtain ⟨pp,qq,h2,h3⟩:=h.h
 have hr:=S.has (.que v e sz n xs) (by rw [h2];simp)
 refine ahL z.h hr hs hl h1 hb fun v' w' h4 h5 h6=>k v' w' ?_
 rw [h3]
 rw [h2] at S
 refine S.turn (x:=.que v e sz n xs) (y:=.que v' e sz (n+m) (xs++news)) h5 h4 fun j hj=>?_
 rw [Asr.dom] at hj
 rcases h6 with h6|h6
 ·rw [h6] at hj;exact .inl hj
 ·rw [h6] at hj;cases hj;exact .inr (Nat.le_refl _)
theorem StX.loQ (S : StX X w0 r w L) {e' : TypeId} {kd : IntKind} {i : Int} [h : Qg v L e sz n xs g] [z : SlT P t e' sz] {K : Value→Prop}
  (h0 : 0≤i) (hi : i≤n) (hn : 0<n) (k : ∀ v',StX X w0 r w (g (.que v' e sz (n - i.toNat) (xs.drop (i.toNat*sz))))→K v') : opP P (Instr.sliceAt t v (some (.int kd i)) none none) K:=by
 obtain ⟨pp,qq,h2,h3⟩:=h.h
 have hr:=S.has (.que v e sz n xs) (by rw [h2];simp)
 have hr0:=hr
 rcases hr.2 with ⟨rfl,h4⟩|⟨gb,off,cap,c,rfl,_⟩
 ·omega
 refine acP z.h h0 hi (k _ ?_)
 rw [h3]
 rw [h2] at S
 refine S.turn (x:=.que (.slice (some ⟨gb,off,none⟩) n cap) e sz n xs) (y:=.que _ e sz _ _) (ExtBut.refl _ _) (Que.drop hr0 (by omega)) fun j hj=>.inl ?_
 simp only [Asr.dom] at hj ⊢
 split at hj
 ·exact hj
 ·simp only [Option.map_some,kz] at hj;exact hj
end
theorem StX.mkS {P : Program} {X : Nat→Prop} {w0 w : World} {r : Gh} {L : List Asr} {t e : TypeId} {bytes : Nat} {kl : IntKind} {n : Int} {z : Value} (S : StX X w0 r w L) [hT : ApT P t e 1 bytes] [hz : ZrT P e [z]] {K : Value→World→Prop} (h0 : 0≤n) (hb : (bytes : Int)*n≤281474976710656)
  (h : ∀ b w',StX X w0 r w' (.cell b (List.replicate n.toNat z) e::L)→K (.slice (some ⟨b,0,none⟩) n.toNat n.toNat) w') : opW P w (Instr.makeSlice t (.int kl n) (.int kl n)) K:=
 aes hT.h hz.h h0 hb fun b w' hb e _ B=>h b w' (S.add e (by omega) B)
class ZI (b : Nat) (L : List Asr) (c : outParam (List Value)) (T : outParam TypeId) (M : outParam (List Asr)) : Prop where
 h : L.Perm (.cell b c T::M)
instance {b : Nat} {c : List Value} {T : TypeId} {L : List Asr} : ZI b (.cell b c T::L) c T L:=⟨.refl _⟩
instance (priority:=low) {b : Nat} {c : List Value} {T : TypeId} {x : Asr} {L M : List Asr} [h : ZI b L c T M] : ZI b (x::L) c T (x::M):=⟨(h.h.cons x).trans (.swap _ _ _)⟩
theorem StX.permO {X : Nat→Prop} {w0 w : World} {r : Gh} {L M : List Asr} (S : StX X w0 r w L) (h : M.Perm L) : StX X w0 r w M:=
 ⟨S.x,S.holds,fun x hx=>S.has x (h.subset hx),fun x hx=>S.mine x (h.subset hx),h.symm.pairwise S.apart fun hab k hb ha=>hab k ha hb⟩
theorem StX.frzAt {X : Nat→Prop} {w0 w : World} {r : Gh} {L M : List Asr} (S : StX X w0 r w L) (b : Nat) {c : List Value} {T : TypeId} [h : ZI b L c T M] : StX X w0 (r.or (Go.Sh.one b c T)) w M:=
 (S.permO h.h.symm).frz
theorem StX.drop {X : Nat→Prop} {w0 w : World} {r : Gh} {L M : List Asr} (S : StX X w0 r w L) (b : Nat) {c : List Value} {T : TypeId} [h : ZI b L c T M] : StX X w0 r w M:=
 (S.permO h.h.symm).tl
end Go.Sh
end
section
namespace Go.Sh
open Go.RowKit
set_option linter.unusedSimpArgs false
set_option linter.unusedVariables false
theorem zf {w : World} {A : (List Value→World→Prop)→Prop} {Z : Value→World→Prop} {b c : Bool} (hA : b=true→∀ K : List Value→World→Prop,K [.bool c] w→A K) (hZ : Z (.bool (b&&c)) w) :
  za (fun K=>gIf (.bool b) true (A K) (K [undef] w)) fun s _ w'=>zb (.bool b) (s.getD 0 undef) (.bool false) fun t=>Z t w':=by
 intro K hK
 cases b with
 |true=>exact hA rfl K (hK _ _ fun _=>⟨true,rfl,by simpa using hZ⟩)
 |false=>exact hK _ _ fun _=>⟨false,rfl,by simpa using hZ⟩
theorem zj {w : World} {A : (List Value→World→Prop)→Prop} {Z : Value→World→Prop} {b c : Bool} (hA : b=false→∀ K : List Value→World→Prop,K [.bool c] w→A K) (hZ : Z (.bool (b||c)) w) :
  za (fun K=>gIf (.bool b) false (A K) (K [undef] w)) fun s _ w'=>zb (.bool b) (.bool true) (s.getD 0 undef) fun t=>Z t w':=by
 intro K hK
 cases b with
 |true=>exact hK _ _ fun _=>⟨true,rfl,by simpa using hZ⟩
 |false=>exact hA rfl K (hK _ _ fun _=>⟨false,rfl,by simpa using hZ⟩)
section
variable {P : Program} {w : World} {t : TypeId} {c : Bool} {K : Value→Prop}
end
end Go.Sh
namespace Go.Sh
section
variable {P : Program} {w : World} {f : FuncId} {K : Value→World→Prop} {Kp : List PanicEntry→World→Prop}
end
end Go.Sh
end
section
namespace Go.Proofs
open Go.Sh
set_option maxRecDepth 100000
section
variable {X : Nat→Prop} {w0 w : World} {r : Gh} {L : List Asr} {rb : Nat} {s p : List UInt8} {a : Nat} {K : Value→World→Prop} {Kp : List PanicEntry→World→Prop}
end
end Go.Proofs
end
section
namespace Go.Proofs
open Go.Sh
set_option maxRecDepth 100000
section
variable {X : Nat→Prop} {w0 w : World} {r : Gh} {L : List Asr} {rb : Nat} {s : List UInt8} {a : Nat} {K : Value→World→Prop} {Kp : List PanicEntry→World→Prop}
end
end Go.Proofs
end
section
namespace Go.Proofs
open Go.Sh
set_option linter.unusedVariables false
set_option linter.unusedSimpArgs false
namespace Gr
variable {α β : Type}
end Gr
end Go.Proofs
end
section
namespace Go.Proofs
open Go.Sh
set_option maxRecDepth 100000
inductive acg : Gh→Value→TyD→Prop
 |nil {sn : Gh} {v : Value} {k re st : Int} {m : Bool} : acg sn v (.mk k m re st [])
 |one {sn : Gh} {b : Nat} {c : List Value} {k re st : Int} {m : Bool} {u : TyD} (no : ∀ o,¬ sn b o) (hc : c.length=5) (ht : TyG sn (.agg c.toArray) u) (h : acg sn (.agg c.toArray) u) :
  acg (sn.or (Go.Sh.one b c 93)) (.agg #[.int .u8 k,.bool m,.int .i64 re,.int .i64 st,.slice (some ⟨b,0,none⟩) 1 1]) (.mk k m re st [u])
theorem ahM {r : Gh} {v : Value} {u : TyD} {b : Nat} {k re st : Int} {m : Bool} (h : TyG r v u) :
  TyG (r.or (Go.Sh.one b v.cells.toList 93)) (.agg #[.int .u8 k,.bool m,.int .i64 re,.int .i64 st,.slice (some ⟨b,0,none⟩) 1 1]) (.mk k m re st [u]):=by
 obtain ⟨c,rfl,hc,hr⟩:=h.rep
 refine ⟨_,1,rfl,by simp,Nat.le_refl _,?_⟩
 refine ⟨⟨c,hc,fun j x hj=>⟨b,0,rfl,fun w hw=>?_⟩,hr.up⟩,trivial⟩
 have B:=zG (b:=b) (c:=(Value.agg c.toArray).cells.toList) (T:=93) w (hw.le (h:=inferInstance))
 show w.cell? ⟨b,0+0*5+j,none⟩=some x
 rw [show 0+0*5+j=j by omega,B.cell]
 exact hj
theorem xe {r : Gh} {k re st : Int} {m : Bool} : TyG r (.agg #[.int .u8 k,.bool m,.int .i64 re,.int .i64 st,.slice none 0 0]) (.mk k m re st []):=
 ⟨none,0,rfl,fun _=>rfl,Nat.le_refl _,trivial⟩
section
variable {X : Nat→Prop} {w0 w : World} {r : Gh} {L : List Asr} {rb : Nat} {s p : List UInt8} {a : Nat} {K : Value→World→Prop} {Kp : List PanicEntry→World→Prop}
end
end Go.Proofs
end
section
namespace Go.Proofs
open Go.Sh
set_option maxRecDepth 100000
set_option linter.unusedSimpArgs false
theorem aj1 {w : World} {A : (List Value→World→Prop)→Prop} {Z : Value→World→Prop} {b c : Bool} (R : World→Prop) (h0 : R w) (hA : b=true→∀ K : List Value→World→Prop,(∀ w',R w'→K [.bool c] w')→A K) (hZ : ∀ w',R w'→Z (.bool (b&&c)) w') :
  za (fun K=>gIf (.bool b) true (A K) (K [undef] w)) fun s _ w'=>zb (.bool b) (s.getD 0 undef) (.bool false) fun t=>Z t w':=by
 intro K hK
 cases b with
 |true=>exact hA rfl K fun w' e=>hK _ _ fun _=>⟨true,rfl,by simpa using hZ w' e⟩
 |false=>exact hK _ _ fun _=>⟨false,rfl,by simpa using hZ w h0⟩
section
variable {X : Nat→Prop} {w0 w : World} {r : Gh} {L : List Asr} {rb : Nat} {s p : List UInt8} {a : Nat} {K : Value→World→Prop} {Kp : List PanicEntry→World→Prop}
end
end Go.Proofs
end
section
namespace Go.Proofs
open Go.Sh
set_option maxRecDepth 100000
set_option linter.unusedSimpArgs false
end Go.Proofs
end
section
namespace Go.Proofs
open Go.Sh
set_option maxRecDepth 100000
set_option linter.unusedSimpArgs false
def yc : TyD:=.mk 0 false 0 0 []
end Go.Proofs
end
section
namespace Go.Proofs
open Go.Sh
set_option maxRecDepth 100000
set_option linter.unusedSimpArgs false
section
variable {X : Nat→Prop} {w0 w : World} {r : Gh} {L : List Asr} {rb : Nat} {s p : List UInt8} {a : Nat} {st : Bool} {K : Value→World→Prop}
end
end Go.Proofs
end
section
namespace Go.Proofs
open Go.Sh
set_option maxRecDepth 100000
set_option linter.unusedSimpArgs false
section
variable {X : Nat→Prop} {w0 w : World} {r : Gh} {L : List Asr} {rb : Nat} {s p : List UInt8} {a : Nat} {st : Bool} {K : Value→World→Prop}
end
end Go.Proofs
end
section
namespace Go.Proofs
open Go.Sh
set_option maxRecDepth 100000
set_option linter.unusedSimpArgs false
theorem _root_.Go.Sh.StX.perm {X : Nat→Prop} {w0 w : World} {r : Gh} {L M : List Asr} (S : StX X w0 r w L) (hp : L.Perm M) : StX X w0 r w M:=
 ⟨S.x,S.holds,fun z hz=>S.has z (hp.mem_iff.2 hz),fun z hz=>S.mine z (hp.mem_iff.2 hz),(List.Perm.pairwise_iff (fun h k h1 h2=>h k h2 h1) hp).1 S.apart⟩
section
variable {X : Nat→Prop} {w0 w : World} {r : Gh} {L : List Asr} {rb : Nat} {s p : List UInt8} {a : Nat} {K : Value→World→Prop}
end
end Go.Proofs
end
section
namespace Go.Proofs
open Go.Sh
set_option maxRecDepth 100000
set_option linter.unusedSimpArgs false
set_option linter.unusedVariables false
end Go.Proofs
end
section
namespace Go.Proofs
open Go.Sh
set_option maxRecDepth 100000
set_option linter.unusedSimpArgs false
set_option linter.unusedVariables false
end Go.Proofs
end
section
namespace Go.Proofs
open Go.Sh
set_option maxRecDepth 100000
set_option linter.unusedSimpArgs false
set_option linter.unusedVariables false
inductive ChnL : List Value→TyD→List Asr→Prop
 |nil {k re st : Int} {m : Bool} : ChnL [.int .u8 k,.bool m,.int .i64 re,.int .i64 st,.slice none 0 0] (.mk k m re st []) []
 |one {b : Nat} {c : List Value} {k re st : Int} {m : Bool} {u : TyD} {L : List Asr} (h : ChnL c u L) :
  ChnL [.int .u8 k,.bool m,.int .i64 re,.int .i64 st,.slice (some ⟨b,0,none⟩) 1 1] (.mk k m re st [u]) (.cell b c 93::L)
theorem ChnL.len {c : List Value} {t : TyD} {L : List Asr} (h : ChnL c t L) : c.length=5:=by cases h<;>rfl
theorem ChnL.ones {c : List Value} {t : TyD} {L : List Asr} (h : ChnL c t L) : ∀ u ∈ c,u.oneCell'=true:=by
 cases h<;>simp [Value.oneCell']
section
variable {X : Nat→Prop} {w0 w : World} {r : Gh} {L : List Asr}
theorem afP {s : Int} : ∀ (n : Nat) {t : TyD} {w : World} {r : Gh} {L : List Asr} {v : Value} {K : Value→World→Prop},n≤1000→zz s n t=true→StX X w0 r w L→TyG r v t→
  (∀ c N w',ChnL c t N→StX X w0 r w' (N++L)→K (.agg c.toArray) w')→zd Tryz.prog Tryz.Zb #[v] w K:=by
 intro n
 induction n with
 |zero=>intro t w r L v K _ h;cases h
 |succ n ih=>
  intro t w r L v K hn hl S hv h
  refine Tryz.aeB ?_
  unfold Tryz.VP
  obtain ⟨p,cap,rfl,_,_,hof⟩:=hv
  refine S.box fun b1 w1 S=>?_
  have S : StX X w0 r w1 (.cell b1 [.int .u8 t.k,.bool t.m,.int .i64 t.re,.int .i64 t.st,.slice p t.of.length cap] 93::L):=S
  refine S.al fun b2 w2 S=>?_
  refine zp (fun _ w'=>∃ q m N,ChnL [.int .u8 t.k,.bool t.m,.int .i64 t.re,.int .i64 t.st,.slice q m m] t N∧StX X w0 r w' (N++(.cell b2 [.int .u8 0,.bool false,.int .i64 0,.int .i64 0,.slice none 0 0] 93 :: .cell b1 [.int .u8 t.k,.bool t.m,.int .i64 t.re,.int .i64 t.st,.slice q m m] 93::L))) (fun K2 hK2=>?_) ?_
  ·have he : t = .mk t.k t.m t.re t.st t.of:=by cases t;rfl
   refine gG_ ?_
   rcases ym hl with ⟨ho,_⟩|⟨u,ho,hu,_⟩
   ·refine c_f (by rw [ho];rfl) ?_
    refine gG_ ?_
    refine S.st fun w3 S=>?_
    refine hK2 [] _ ⟨none,0,[],?_,S⟩
    have : ChnL [.int .u8 t.k,.bool t.m,.int .i64 t.re,.int .i64 t.st,.slice none 0 0] (.mk t.k t.m t.re t.st []) []:=.nil
    rw [ho] at he
    rw [← he] at this
    exact this
   ·have hlen : t.of.length=1:=by rw [ho];rfl
    obtain ⟨ba,oa,rfl,c,hc,hcell,ht⟩:=NdG.of hof (i:=0) (by omega)
    have ht : TyG r (.agg c.toArray) u:=by simpa [ho] using ht
    refine c_t (by rw [hlen];rfl) ?_
    refine gG_ ?_
    refine zq (n:=5) hc (fun j v hj=>by simpa using S.at (hcell j v hj)) ?_
    refine ih (by omega) hu S ht fun c' N w3 hch S=>?_
    refine S.lit (e:=93) (cs:=c') (by
     cases hch<;>kernel_rfl) fun b9 w4 S=>?_
    have S : StX X w0 r w4 (.cell b1 [.int .u8 t.k,.bool t.m,.int .i64 t.re,.int .i64 t.st,.slice (some ⟨ba,oa,none⟩) t.of.length cap] 93::(.cell b9 c' 93::N++(.cell b2 [.int .u8 0,.bool false,.int .i64 0,.int .i64 0,.slice none 0 0] 93::L))):=S.perm (by
     refine (List.Perm.cons _ ?_).trans (.swap _ _ _)
     refine (List.perm_append_comm_assoc N [_] _).trans ?_
     refine (List.Perm.append_left [_] ((List.perm_append_comm_assoc N [_] _))).trans ?_
     refine (List.Perm.swap _ _ _).trans ?_
     refine List.Perm.cons _ ?_
     exact (List.perm_append_comm_assoc [_] N L))
    refine gG_ ?_
    refine S.st fun w5 S=>?_
    have hch' : ChnL [.int .u8 t.k,.bool t.m,.int .i64 t.re,.int .i64 t.st,.slice (some ⟨b9,0,none⟩) 1 1] (.mk t.k t.m t.re t.st [u]) (.cell b9 c' 93::N):=.one hch
    rw [ho] at he
    rw [← he] at hch'
    refine hK2 [] _ ⟨_,_,_,hch',S.perm ?_⟩
    have:=List.perm_middle (a:=Asr.cell b1 [.int .u8 t.k,.bool t.m,.int .i64 t.re,.int .i64 t.st,.slice (some ⟨b9,0,none⟩) 1 1] 93) (l₁:=.cell b9 c' 93::N ++ [.cell b2 [.int .u8 0,.bool false,.int .i64 0,.int .i64 0,.slice none 0 0] 93]) (l₂:=L)
    simpa using this.symm
  rintro _ w6 ⟨q,m,N,hch,S⟩ d6
  have S : StX X w0 r w6 (.cell b2 [.int .u8 0,.bool false,.int .i64 0,.int .i64 0,.slice none 0 0] 93 :: .cell b1 [.int .u8 t.k,.bool t.m,.int .i64 t.re,.int .i64 t.st,.slice q m m] 93::(N++L)):=S.perm (by
   refine (List.perm_append_comm_assoc N [_] _).trans ?_
   exact List.Perm.cons _ (List.perm_append_comm_assoc N [_] _))
  refine gG_ ?_
  refine S.stB fun w7 S=>?_
  refine gG_ ?_
  exact h _ N _ hch S.tl.tl
end
end Go.Proofs
end
section
namespace Go.Proofs
open Go.Sh
set_option maxRecDepth 100000
set_option linter.unusedSimpArgs false
set_option linter.unusedVariables false
theorem aas {t : TyD} (h : t.of = []) : t.regs=if t.k=4 then [t.re] else []:=by
 rw [TyD.regs_eq,h];simp [TyD.chains,TyD.regsL]
theorem aat {t u : TyD} (h : t.of = [u]) : t.regs=(if t.k=4 then [t.re] else [])++u.regs:=by
 rw [TyD.regs_eq,h];rfl
theorem Xf {t : TyD} (h : isB t=true) : t.regs.length≤48:=by
 have h1:=acR 48 (Vi h)
 rw [TyD.regs,TyD.regsL,List.length_map]
 exact Nat.le_trans (List.length_filter_le _ _) h1
end Go.Proofs
end
