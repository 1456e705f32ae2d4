/-
  Layer 1, law: BitsBack.
-/
import Derived.Test.YtgbfpnnimnjbdaaDoorGa
import Derived.Test.YtgbfpnnimnjbdaaDoorBs
namespace Go.Proofs
open Go.Sh Go.BM
set_option maxRecDepth 100000

theorem Mut.noBook {s : Gh} {v : Value} {W : Int} {ws : List (BitVec 64)} (h : Mut s v W ws) : NoBook s := by
  obtain ⟨p, cap, _, _, _, ⟨_, rfl⟩ | ⟨g, c, _, rfl, _⟩⟩ := h
  · exact inferInstance
  · exact inferInstance

theorem c_law01_BitsBack {w : World} {v : Value} {W width : Int} {ws : List (BitVec 64)} {s : ByteArray} {K : Value → World → Prop} (hT : Tab w) (hr : RowV w v W ws)
    (h : ∀ w', Ext w w' → K (.bool true) w') : oCall Tryd.prog Tryd.n_law01_BitsBack #[v, .int .i64 width, .string s] w K := by
  refine Tryd.ok_law01_BitsBack ?_
  unfold Tryd.F_law01_BitsBack
  have hr' := hr.all; have hT := hT.all
  have h0 : 0 < w.heap.size := cell_lt (hT w (all_holds w) 0 (by decide))
  obtain ⟨p, cap, rfl, _⟩ := hr
  have S := St.start (all_holds w)
  have low0 : Low w.heap.size (all w) := S.low
  refine S.boxN fun b3 w1 _ S => ?_
  refine S.alN fun b6 w2 _ S => ?_
  (repeat (first | refine s_p ?_ | refine s_c (by omega) ?_ | refine S.ld ?_ | refine S.ldB ?_ | refine S.ce ?_ | refine S.ceB ?_ | refine s_q ?_ | refine s_qc (by omega) ?_ | rw [List.getD_cons_zero] | rw [List.getD_cons_succ]))
  refine c_if (fun hbig => ?_) (fun hsm => ?_)
  · refine c_law01_awake (S.at hT) fun w3 e3 => ⟨NC.of_ext e3, ?_⟩
    have S := S.go e3
    refine S.stN' fun w4 S w5 sh => ?_
    have S := S.shut sh
    (repeat (first | refine s_p ?_ | refine s_c (by omega) ?_ | refine S.ld ?_ | refine S.ldB ?_ | refine S.ce ?_ | refine S.ceB ?_ | refine s_q ?_ | refine s_qc (by omega) ?_ | rw [List.getD_cons_zero] | rw [List.getD_cons_succ]))
    exact h _ S.ext
  have hs : s.size < 9223372036854775807 := by omega
  (repeat (first | refine s_p ?_ | refine s_c (by omega) ?_ | refine S.ld ?_ | refine S.ldB ?_ | refine S.ce ?_ | refine S.ceB ?_ | refine s_q ?_ | refine s_qc (by omega) ?_ | rw [List.getD_cons_zero] | rw [List.getD_cons_succ]))
  refine c_bits_BytesO (S.at hT) (S.at hr') fun w7 e7 => ⟨NC.of_ext e7, ?_⟩
  have S := S.go e7
  (repeat (first | refine s_p ?_ | refine s_c (by omega) ?_ | refine S.ld ?_ | refine S.ldB ?_ | refine S.ce ?_ | refine S.ceB ?_ | refine s_q ?_ | refine s_qc (by omega) ?_ | rw [List.getD_cons_zero] | rw [List.getD_cons_succ]))
  refine j_intro (fun _ w' => ∃ q, NoBook q ∧ St w ((all w).or q) w' [.cell b6 [.bool false] 4, .cell b3 [.int .i64 W, .slice p ws.length cap] 24]) ?_ ?_
  · intro K8 hK8
    (repeat (first | refine s_p ?_ | refine s_c (by omega) ?_ | refine S.ld ?_ | refine S.ldB ?_ | refine S.ce ?_ | refine S.ceB ?_ | refine s_q ?_ | refine s_qc (by omega) ?_ | rw [List.getD_cons_zero] | rw [List.getD_cons_succ]))
    refine c_bits_May (S.at hr') fun w12 e12 => ⟨NC.of_ext e12, ?_⟩
    have S := S.go e12
    refine c_b (fun hm => ?_) (fun hm => ?_)
    · have hm := mayB_iff.1 hm
      rw [bytesO_may hm]
      have hO : readO W (strOf (bytesOf W ws)) = ⟨W, ws, 0, 0⟩ := readO_inr ⟨hm.1, hm.2.1⟩ (read_bytes hm)
      (repeat (first | refine s_p ?_ | refine s_c (by omega) ?_ | refine S.ld ?_ | refine S.ldB ?_ | refine S.ce ?_ | refine S.ceB ?_ | refine s_q ?_ | refine s_qc (by omega) ?_ | rw [List.getD_cons_zero] | rw [List.getD_cons_succ]))
      refine c_bits_ReadO (by rw [strOf_size, bytesOf_length]; have := hm.2.1; omega) fun va w13 e13 hfa => ⟨NC.of_ext e13, ?_⟩
      rw [hO] at hfa ⊢
      obtain ⟨sa, na, ma⟩ := hfa.gh
      obtain ⟨pa, capa, rfl⟩ := ma.shape
      obtain ⟨S, da, ua⟩ := S.tell e13 na
      (repeat (first | refine s_p ?_ | refine s_c (by omega) ?_ | refine S.ld ?_ | refine S.ldB ?_ | refine S.ce ?_ | refine S.ceB ?_ | refine s_q ?_ | refine s_qc (by omega) ?_ | rw [List.getD_cons_zero] | rw [List.getD_cons_succ]))
      refine S.alN fun b9 w14 _ S => ?_
      refine S.alN fun b11 w15 _ S => ?_
      refine S.stBN fun w16 S => ?_
      refine S.stN' fun w17 S => ?_
      (repeat (first | refine s_p ?_ | refine s_c (by omega) ?_ | refine S.ld ?_ | refine S.ldB ?_ | refine S.ce ?_ | refine S.ceB ?_ | refine s_q ?_ | refine s_qc (by omega) ?_ | rw [List.getD_cons_zero] | rw [List.getD_cons_succ]))
      refine j_or (fun hn => absurd rfl hn) (fun _ => ?_)
      intro K2 hK2; (repeat (first | refine s_p ?_ | refine s_c (by omega) ?_ | refine S.ld ?_ | refine S.ldB ?_ | refine S.ce ?_ | refine S.ceB ?_ | refine s_q ?_ | refine s_qc (by omega) ?_ | rw [List.getD_cons_zero] | rw [List.getD_cons_succ]))
      refine c_law01_same (S.at ma.row) (S.at hr') (by have := may_length hm; show ws.length < 9223372036854775807; omega) fun w18 e18 => ⟨NC.of_ext e18, ?_⟩
      rw [decide_eq_true ⟨rfl, rfl, rfl, rfl⟩]
      have S := S.go e18
      (repeat (first | refine s_p ?_ | refine s_c (by omega) ?_ | refine S.ld ?_ | refine S.ldB ?_ | refine S.ce ?_ | refine S.ceB ?_ | refine s_q ?_ | refine s_qc (by omega) ?_ | rw [List.getD_cons_zero] | rw [List.getD_cons_succ]))
      refine hK2 _ _ ?_; clear hK2 K2
      refine c_F ?_
      refine S.alN fun b12 w26 _ S => ?_
      refine S.alN fun b13 w27 _ S => ?_
      refine S.stN' fun w28 S => ?_
      refine S.stN' fun w29 S => ?_
      (repeat (first | refine s_p ?_ | refine s_c (by omega) ?_ | refine S.ld ?_ | refine S.ldB ?_ | refine S.ce ?_ | refine S.ceB ?_ | refine s_q ?_ | refine s_qc (by omega) ?_ | rw [List.getD_cons_zero] | rw [List.getD_cons_succ]))
      refine c_bits_New (fun hn => absurd ⟨hm.1, hm.2.1⟩ hn) fun _ _ vn w30 e30 hfn => ⟨NC.of_ext e30, ?_⟩
      obtain ⟨sn, nn, mn⟩ := hfn.gh
      obtain ⟨pn, capn, rfl⟩ := mn.shape
      obtain ⟨S, dn, un⟩ := S.tell e30 nn
      (repeat (first | refine s_p ?_ | refine s_c (by omega) ?_ | refine S.ld ?_ | refine S.ldB ?_ | refine S.ce ?_ | refine S.ceB ?_ | refine s_q ?_ | refine s_qc (by omega) ?_ | rw [List.getD_cons_zero] | rw [List.getD_cons_succ]))
      refine S.alN fun b14 w31 _ S => ?_
      refine S.stBN fun w32 S => ?_
      (repeat (first | refine s_p ?_ | refine s_c (by omega) ?_ | refine S.ld ?_ | refine S.ldB ?_ | refine S.ce ?_ | refine S.ceB ?_ | refine s_q ?_ | refine s_qc (by omega) ?_ | rw [List.getD_cons_zero] | rw [List.getD_cons_succ]))
      refine c_bits_Each (S.at hT) (S.at hr') fun g w33 e33 hI => ⟨NC.of_ext e33, ?_⟩
      rw [eachL_may hm] at hI
      have S0 := S
      have S := S.go e33
      have low33 := S.low
      have nbn := mn.noBook
      have nba := ma.noBook
      have hlen0 : (zeros W).length = ws.length := by rw [zeros, List.length_replicate]; have := hm.2.2.1; have := hm.1; omega
      have hZ : May W (zeros W) := may_zeros hm.1 hm.2.1
      have hall : ∀ k, AllIn W (((bitsOf ws).take k).map Int.ofNat) := fun k j hj => by
        obtain ⟨m, hm1, rfl⟩ := List.mem_map.1 hj
        have hm2 := List.mem_of_mem_take hm1
        rw [bitsOf_may hm] at hm2
        have := List.mem_range.1 (List.mem_filter.1 hm2).1
        exact ⟨Int.natCast_nonneg m, by show (m : Int) < W; omega⟩
      refine r_all _ (doms _)
        (fun k W' => ∃ q pq capq ln, NoBook q ∧ St w ((((all w).or sa).or sn).or q) W' [.cell b14 [.int .i64 W, .slice pq ws.length capq] 24, .cell b13 [.int .i64 ln] 3, .cell b12 [.int .i64 (k : Int)] 3, .cell b11 [err 0] 27,
            .cell b9 [.int .i64 W, .slice pa ws.length capa] 24, .cell b6 [.bool false] 4, .cell b3 [.int .i64 W, .slice p ws.length cap] 24] ∧
          Ob (sn.or q) (fun w => RowV w (.agg #[.int .i64 W, .slice pq ws.length capq]) W (turnAll (fun x y => x ||| y) (zeros W) (((bitsOf ws).take k).map Int.ofNat))) ∧
          ∀ m, (bitsOf ws)[k]? = some m → ln < (m : Int))
        (doms_blk S) (hI.2 _ _ (fun b hb => ⟨.inl (S0.dlt hb), by have := S0.dge hb; omega⟩) (Ext.refl _)) ?_ ?_ ?_ ?_ ?_
      · intro x hx
        obtain ⟨k, _, rfl⟩ := List.mem_map.1 hx; rfl
      · rintro k W' W'' ⟨q, pq, capq, ln, nbq, S, hq, hln⟩ e
        exact ⟨q, pq, capq, ln, nbq, S.nl e (by have := S0.x.size; have := e33.size; omega), hq, hln⟩
      · refine ⟨nothing, pn, capn, -1, inferInstance, ?_, ?_, fun m _ => by omega⟩
        · have := S.less (q := (((all w).or sa).or sn).or nothing) (fun b o h => h.elim id (fun h => h.elim)) (List.Sublist.refl _)
          rw [hlen0] at this; exact this
        · rw [← hlen0]; exact mn.row.up
      · rintro k x W1 hx ⟨q, pq, capq, ln, nbq, S, hq, hln⟩ KR hKR
        refine ⟨Ext.refl _, fun w38 nl => ?_⟩
        have S := S.nl nl (by have := S0.x.size; have := e33.size; omega)
        have S1 := S
        have S := S.part
        rw [List.getElem?_map, Option.map_eq_some_iff] at hx
        obtain ⟨m, hm1, rfl⟩ := hx
        obtain ⟨hsort, hmW, hbit⟩ := bits_sorted hm hm1
        have hlt := hln m hm1
        have hk1032 : k < 1032 := by
          have h1 := (List.getElem?_eq_some_iff.1 hm1).1
          rw [bitsOf_may hm] at h1
          have h2 := List.length_filter_le (bit ws) (List.range W.toNat)
          rw [List.length_range] at h2
          have := hm.2.1; omega
        (repeat (first | refine s_p ?_ | refine s_c (by omega) ?_ | refine S.ld ?_ | refine S.ldB ?_ | refine S.ce ?_ | refine S.ceB ?_ | refine s_q ?_ | refine s_qc (by omega) ?_ | rw [List.getD_cons_zero] | rw [List.getD_cons_succ]))
        refine j_or (fun hn => by omega) (fun _ => ?_)
        intro K2 hK2; (repeat (first | refine s_p ?_ | refine s_c (by omega) ?_ | refine S.ld ?_ | refine S.ldB ?_ | refine S.ce ?_ | refine S.ceB ?_ | refine s_q ?_ | refine s_qc (by omega) ?_ | rw [List.getD_cons_zero] | rw [List.getD_cons_succ])); refine hK2 _ _ ?_; clear hK2 K2
        refine j_or (fun hn => by omega) (fun _ => ?_)
        intro K2 hK2; (repeat (first | refine s_p ?_ | refine s_c (by omega) ?_ | refine S.ld ?_ | refine S.ldB ?_ | refine S.ce ?_ | refine S.ceB ?_ | refine s_q ?_ | refine s_qc (by omega) ?_ | rw [List.getD_cons_zero] | rw [List.getD_cons_succ]))
        refine c_bits_Get (S.at hr') fun w47 e47 => ⟨NC.of_ext e47, ?_⟩
        have S := S.go e47
        rw [mayB_true hm, show getB W (m : Int) ws = true by simp [getB, hmW, hbit]]
        (repeat (first | refine s_p ?_ | refine s_c (by omega) ?_ | refine S.ld ?_ | refine S.ldB ?_ | refine S.ce ?_ | refine S.ceB ?_ | refine s_q ?_ | refine s_qc (by omega) ?_ | rw [List.getD_cons_zero] | rw [List.getD_cons_succ]))
        refine hK2 _ _ ?_; clear hK2 K2
        refine c_f (by rfl) ?_
        refine S.stN' fun w49 S => ?_
        (repeat (first | refine s_p ?_ | refine s_c (by omega) ?_ | refine S.ld ?_ | refine S.ldB ?_ | refine S.ce ?_ | refine S.ceB ?_ | refine s_q ?_ | refine s_qc (by omega) ?_ | rw [List.getD_cons_zero] | rw [List.getD_cons_succ]))
        refine S.stN' fun w50 S => ?_
        (repeat (first | refine s_p ?_ | refine s_c (by omega) ?_ | refine S.ld ?_ | refine S.ldB ?_ | refine S.ce ?_ | refine S.ceB ?_ | refine s_q ?_ | refine s_qc (by omega) ?_ | rw [List.getD_cons_zero] | rw [List.getD_cons_succ]))
        refine S.litN (e := 3) (cs := [.int .i64 m]) (by kernel_rfl) fun bl w51 S => ?_
        have hlk : (turnAll (fun x y => x ||| y) (zeros W) (((bitsOf ws).take k).map Int.ofNat)).length = ws.length := by rw [turnAll_length, hlen0]
        have hmk := may_turnAll (h := fun a b => a || b) or_bit (by simp) _ _ hZ (hall k)
        refine c_bits_Set (ls := [(m : Int)]) (S.at hq) (Sl.blk (S.blk bl)) (by simp) (fun hn => absurd ⟨hmk, fun j hj => by simp at hj; omega⟩ hn) fun _ _ vs w52 e52 hfs => ⟨NC.of_ext e52, ?_⟩
        obtain ⟨ss, ns, ms⟩ := hfs.gh
        obtain ⟨ps, caps, rfl⟩ := ms.shape
        obtain ⟨S, ds, us⟩ := S.tell e52 ns
        have nbs := ms.noBook
        (repeat (first | refine s_p ?_ | refine s_c (by omega) ?_ | refine S.ld ?_ | refine S.ldB ?_ | refine S.ce ?_ | refine S.ceB ?_ | refine s_q ?_ | refine s_qc (by omega) ?_ | rw [List.getD_cons_zero] | rw [List.getD_cons_succ]))
        refine S.stBN fun w53 S => ?_
        refine S.stN' fun w54 S => ?_
        (repeat (first | refine s_p ?_ | refine s_c (by omega) ?_ | refine S.ld ?_ | refine S.ldB ?_ | refine S.ce ?_ | refine S.ceB ?_ | refine s_q ?_ | refine s_qc (by omega) ?_ | rw [List.getD_cons_zero] | rw [List.getD_cons_succ]))
        refine c_if (fun hn => absurd rfl hn) (fun _ => ?_)
        have hsl : (turnAll (fun x y => x ||| y) (turnAll (fun x y => x ||| y) (zeros W) (((bitsOf ws).take k).map Int.ofNat)) [(m : Int)]) = turnAll (fun x y => x ||| y) (zeros W) (((bitsOf ws).take (k + 1)).map Int.ofNat) := by
          obtain ⟨hk1, hk2⟩ := List.getElem?_eq_some_iff.1 hm1
          rw [List.take_succ_eq_append_getElem hk1, List.map_append, hk2]
          simp [turnAll, List.foldl_append]
        rw [hsl] at ms S
        have hlk1 : (turnAll (fun x y => x ||| y) (zeros W) (((bitsOf ws).take (k + 1)).map Int.ofNat)).length = ws.length := by rw [turnAll_length, hlen0]
        rw [hlk1] at ms S
        have S := S.tl
        refine ⟨S.x, hKR _ ⟨q.or ss, ps, caps, m, inferInstance, ?_, ms.row.up, fun m2 hm2 => ?_⟩⟩
        · have := (S1.whole S fun _ h => h).less (q := ((((all w).or sa).or sn).or (q.or ss))) (fun b o h => by
            rcases h with h | h | h
            · exact .inl (.inl h)
            · exact .inl (.inr h)
            · exact .inr h) (List.Sublist.refl _)
          exact this
        · have := (bits_sorted hm hm2).1.resolve_left (by omega)
          rw [Nat.add_sub_cancel, List.getD_eq_getElem?_getD, hm1] at this
          simp at this; omega
      · rintro W1 ⟨q, pq, capq, ln, nbq, S, hq, hln⟩
        have S := S.go (Ext.drew _)
        (repeat (first | refine s_p ?_ | refine s_c (by omega) ?_ | refine S.ld ?_ | refine S.ldB ?_ | refine S.ce ?_ | refine S.ceB ?_ | refine s_q ?_ | refine s_qc (by omega) ?_ | rw [List.getD_cons_zero] | rw [List.getD_cons_succ]))
        refine c_bits_Count (S.at hr') fun w57 e57 => ⟨NC.of_ext e57, e57, ?_⟩
        rw [eachL_may hm]
        have S := S.go e57
        simp only [List.length_map] at S hq
        (repeat (first | refine s_p ?_ | refine s_c (by omega) ?_ | refine S.ld ?_ | refine S.ldB ?_ | refine S.ce ?_ | refine S.ceB ?_ | refine s_q ?_ | refine s_qc (by omega) ?_ | rw [List.getD_cons_zero] | rw [List.getD_cons_succ]))
        refine j_or (fun hn => absurd (by rw [List.length_map]) hn) (fun _ => ?_)
        intro K2 hK2; (repeat (first | refine s_p ?_ | refine s_c (by omega) ?_ | refine S.ld ?_ | refine S.ldB ?_ | refine S.ce ?_ | refine S.ceB ?_ | refine s_q ?_ | refine s_qc (by omega) ?_ | rw [List.getD_cons_zero] | rw [List.getD_cons_succ]))
        rw [List.take_length, show turnAll (fun x y => x ||| y) (zeros W) ((bitsOf ws).map Int.ofNat) = ws from bits_set hm] at hq
        refine c_law01_same (S.at hq) (S.at hr') (by have := may_length hm; omega) fun w62 e62 => ⟨NC.of_ext e62, ?_⟩
        rw [decide_eq_true ⟨rfl, rfl, rfl, rfl⟩]
        have S := S.go e62
        (repeat (first | refine s_p ?_ | refine s_c (by omega) ?_ | refine S.ld ?_ | refine S.ldB ?_ | refine S.ce ?_ | refine S.ceB ?_ | refine s_q ?_ | refine s_qc (by omega) ?_ | rw [List.getD_cons_zero] | rw [List.getD_cons_succ]))
        refine hK2 _ _ ?_; clear hK2 K2
        refine c_F ?_
        exact hK8 _ _ ⟨(sa.or sn).or q, inferInstance, (S.to ((all w).or ((sa.or sn).or q))).tl.tl.tl.tl.tl⟩
    · rw [bytesO_not (fun hn => by rw [mayB_true hn] at hm; cases hm)]
      (repeat (first | refine s_p ?_ | refine s_c (by omega) ?_ | refine S.ld ?_ | refine S.ldB ?_ | refine S.ce ?_ | refine S.ceB ?_ | refine s_q ?_ | refine s_qc (by omega) ?_ | rw [List.getD_cons_zero] | rw [List.getD_cons_succ]))
      refine c_if (fun hn => absurd rfl hn) (fun _ => ?_)
      exact hK8 _ _ ⟨nothing, inferInstance, S.less (q := (all w).or nothing) (fun b o h => h.elim id (fun h => h.elim)) (List.Sublist.refl _)⟩
  rintro _ w11 ⟨q, nbq, S⟩ _
  (repeat (first | refine s_p ?_ | refine s_c (by omega) ?_ | refine S.ld ?_ | refine S.ldB ?_ | refine S.ce ?_ | refine S.ceB ?_ | refine s_q ?_ | refine s_qc (by omega) ?_ | rw [List.getD_cons_zero] | rw [List.getD_cons_succ]))
  refine c_bits_ReadO hs fun va w72 e72 hfa => ⟨NC.of_ext e72, ?_⟩
  have hOl := readO_length width s
  have hback : (readO width s).e = 0 → May (readO width s).W (readO width s).ws ∧ strOf (bytesOf (readO width s).W (readO width s).ws) = s := by
    intro he
    by_cases hw : 0 ≤ width ∧ width ≤ 1032
    · cases hR : readR width s with
      | inl i => rw [readO_inl hw hR] at he; cases he
      | inr us => rw [readO_inr hw hR]; exact read_back hw.1 hw.2 hR
    · rw [readO_bad hw] at he; cases he
  have hat : (readO width s).at' ≤ s.size := by
    by_cases hw : 0 ≤ width ∧ width ≤ 1032
    · cases hR : readR width s with
      | inl i => rw [readO_inl hw hR]; exact read_at hR
      | inr us => rw [readO_inr hw hR]; exact Nat.zero_le _
    · rw [readO_bad hw]; exact Nat.zero_le _
  generalize readO width s = O at *
  obtain ⟨sa, na, ma⟩ := hfa.gh
  obtain ⟨pa, capa, rfl⟩ := ma.shape
  obtain ⟨S, da, ua⟩ := S.tell e72 na
  have nba := ma.noBook
  (repeat (first | refine s_p ?_ | refine s_c (by omega) ?_ | refine S.ld ?_ | refine S.ldB ?_ | refine S.ce ?_ | refine S.ceB ?_ | refine s_q ?_ | refine s_qc (by omega) ?_ | rw [List.getD_cons_zero] | rw [List.getD_cons_succ]))
  refine S.alN fun b17 w73 _ S => ?_
  refine S.stBN fun w74 S => ?_
  (repeat (first | refine s_p ?_ | refine s_c (by omega) ?_ | refine S.ld ?_ | refine S.ldB ?_ | refine S.ce ?_ | refine S.ceB ?_ | refine s_q ?_ | refine s_qc (by omega) ?_ | rw [List.getD_cons_zero] | rw [List.getD_cons_succ]))
  refine c_if (fun hne => ?_) (fun he => ?_)
  · (repeat (first | refine s_p ?_ | refine s_c (by omega) ?_ | refine S.ld ?_ | refine S.ldB ?_ | refine S.ce ?_ | refine S.ceB ?_ | refine s_q ?_ | refine s_qc (by omega) ?_ | rw [List.getD_cons_zero] | rw [List.getD_cons_succ]))
    refine j_and (fun hn => absurd (by omega) hn) (fun _ => ?_)
    intro K2 hK2; (repeat (first | refine s_p ?_ | refine s_c (by omega) ?_ | refine S.ld ?_ | refine S.ldB ?_ | refine S.ce ?_ | refine S.ceB ?_ | refine s_q ?_ | refine s_qc (by omega) ?_ | rw [List.getD_cons_zero] | rw [List.getD_cons_succ])); refine hK2 _ _ ?_; clear hK2 K2
    refine j_and (fun hn => absurd (by omega) hn) (fun _ => ?_)
    intro K2 hK2
    refine c_law01_awake (S.at hT) fun w83 e83 => ⟨NC.of_ext e83, ?_⟩
    have S := S.go e83
    refine hK2 _ _ ?_; clear hK2 K2
    refine S.stN' fun w84 S w85 sh => ?_
    have S := S.shut sh
    (repeat (first | refine s_p ?_ | refine s_c (by omega) ?_ | refine S.ld ?_ | refine S.ldB ?_ | refine S.ce ?_ | refine S.ceB ?_ | refine s_q ?_ | refine s_qc (by omega) ?_ | rw [List.getD_cons_zero] | rw [List.getD_cons_succ]))
    exact h _ S.ext
  · have he : O.e = 0 := Classical.not_not.1 he
    obtain ⟨hm, hstr⟩ := hback he
    (repeat (first | refine s_p ?_ | refine s_c (by omega) ?_ | refine S.ld ?_ | refine S.ldB ?_ | refine S.ce ?_ | refine S.ceB ?_ | refine s_q ?_ | refine s_qc (by omega) ?_ | rw [List.getD_cons_zero] | rw [List.getD_cons_succ]))
    refine c_bits_BytesO (S.at hT) (S.at ma.row) fun w87 e87 => ⟨NC.of_ext e87, ?_⟩
    rw [bytesO_may hm]
    have S := S.go e87
    (repeat (first | refine s_p ?_ | refine s_c (by omega) ?_ | refine S.ld ?_ | refine S.ldB ?_ | refine S.ce ?_ | refine S.ceB ?_ | refine s_q ?_ | refine s_qc (by omega) ?_ | rw [List.getD_cons_zero] | rw [List.getD_cons_succ]))
    refine j_and (fun hn => absurd rfl hn) (fun _ => ?_)
    intro K2 hK2
    refine p_eqlSame hstr ?_
    refine hK2 _ _ ?_; clear hK2 K2
    refine j_andB (fun hn => by cases hn) (fun _ => ?_)
    intro K2 hK2
    refine c_law01_awake (S.at hT) fun w96 e96 => ⟨NC.of_ext e96, ?_⟩
    have S := S.go e96
    refine hK2 _ _ ?_; clear hK2 K2
    refine S.stN' fun w97 S w98 sh => ?_
    have S := S.shut sh
    (repeat (first | refine s_p ?_ | refine s_c (by omega) ?_ | refine S.ld ?_ | refine S.ldB ?_ | refine S.ce ?_ | refine S.ceB ?_ | refine s_q ?_ | refine s_qc (by omega) ?_ | rw [List.getD_cons_zero] | rw [List.getD_cons_succ]))
    exact h _ S.ext
end Go.Proofs
