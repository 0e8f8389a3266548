/- Vectors: their bytes, read. -/
import Derived.Test.YtfifbjlmbdgmjaaVecEn
import Derived.Test.YtfifbjlmbdgmjaaVecE
namespace Go.Proofs.Ytfifbjlmbdgmjaa
open Go.RowKit
attribute [local go_sem] Oper.semAt_some

theorem Src.offVec {t t' : TypeId} {g b : Nat} {v : Value} {l : List UInt8} {W W' : World} {x : List Nat} {fr : Nat × Nat} (h : Src t g v l W) (hV : W.heap[b]? = some (.cells (vC x) t' fr)) (hg : g ≠ b) (ho : ∀ k, k ≠ b → W'.heap[k]? = W.heap[k]?) : Src t g v l W' := by
  obtain ⟨h1, A, c, h2, h3, h4, h5, h6⟩ := h
  refine ⟨(ho g hg).trans h1, A, c, h2, h3, h4, fun j u hj => ?_, h6⟩
  obtain ⟨ad, e, hc⟩ := h5 j u hj
  refine ⟨ad, e, (World.cell?_of_block (w := W) (w' := W') (ho _ fun e2 => ?_)).trans hc⟩
  rw [addr_add_block] at e2
  have hjl : j < l.length := by have := (List.getElem?_eq_some_iff.1 hj).1; rwa [u8v_length] at this
  rw [u8v_get l j hjl] at hj
  cases hj
  have hoff : (ad.add j).spot = none := by
    cases hs : (ad.add j).spot with
    | none => rfl
    | some s =>
      simp [World.cell?, hs, addr_add_block, e2, hV] at hc
  have hcell : W.cell? (ad.add j) = (vC x)[(ad.add j).off]? := by
    have : ad.add j = ⟨b, (ad.add j).off, none⟩ := by
      rw [← hoff, ← e2, ← addr_add_block ad j]
    rw [this, cell_of_row _ _ _ _ _ _ hV]
  rw [hcell] at hc
  have hlt := (Array.getElem?_eq_some_iff.1 hc).1
  rw [vC_size] at hlt
  rw [vC_get x _ hlt] at hc
  cases hc
theorem Kept.setRow {ex : Nat → Prop} {w W : World} {k : Nat} (h : Kept ex w W) (hk : w.heap.size ≤ k) (cs : Array Value) : Kept ex w (W.setRow k cs) :=
  ⟨h.os, h.tape, h.output, by simpa [World.setRow] using h.size, fun j hj he => (setRow_other W k j cs (by omega)).trans (h.block j hj he)⟩
theorem Kept.setAt {ex : Nat → Prop} {w W : World} {b k : Nat} (h : Kept ex w W) (hk : w.heap.size ≤ b) (v : Value) : Kept ex w (W.setCell ⟨b, k, none⟩ v) :=
  ⟨h.os, h.tape, h.output, by simpa using h.size, fun j hj he => (heap_setCell_other _ _ _ _ (show j ≠ b by omega)).trans (h.block j hj he)⟩
set_option maxRecDepth 100000 in
set_option maxHeartbeats 8000000 in
theorem decode_any (g : Nat) (l : List UInt8) (v : Value) (w : World) (hS : Src 67 g v l w) :
    Calls Try.prog 29 #[.pointer (some ⟨g, 0, none⟩)] w fun e w' => e = .returned (.tuple #[.agg (vC (decV l).1), .int .i64 ((decV l).2.1 : Int)]) ∧ ∃ v', v'.ownBlock = v.ownBlock ∧ SrcStep 67 g w v' (decV l).2.2 w' := by
  obtain ⟨Z, hz0, hZs, hZ1, HZ⟩ : ∃ Z : Array Value, (Try.prog.info? 24).bind (fun i => i.zero.map Value.cells) = some Z ∧ Z.size = 16 ∧ (∀ u ∈ Z.toList, u.oneCell' = true) ∧ Hid (vC z16 = Z) := ⟨vC z16, zero_vec, by rw [vC_size]; rfl, vC_one z16, rfl⟩
  have hsi : (Try.prog.info? 24).map (·.size) = some Z.size := by rw [hZs]; exact size_vec
  have bz := fun W => run_build_z (P := Try.prog) W 24 22 16 Z hz0 Try.underlying24 ⟨_, Try.sizeOf22 W⟩
  obtain ⟨w1, hw1⟩ : ∃ w1, w1 = w.alloc (.cells Z 24) := ⟨_, rfl⟩
  have hb1 : Below w.heap.size w w1 := by rw [hw1]; exact (Below.refl _ _).alloc (Nat.le_refl _) _
  have h1 : w1.heap[w.heap.size]? = some (.cells Z 24 (0, 0)) := by rw [hw1]; exact heap_alloc_new _ _
  have hS1 := hS.below hb1
  have hgw := hS.lt
  have hdec := decV.eq_1 l
  have hk1 : (readN l 16).2.1 ≠ 0 → (readN l 16).2.2 = 0 := fun h => readN_err (n := (readN l 16).1) rfl h
  have hle : (readN l 16).2.1 = 0 → (readN l 16).1 ≤ 16 := readN_le
  have hnum := srcnum_wide g 16 (by omega) l v w1 hS1
  generalize (readN l 16).1 = N at *
  generalize (readN l 16).2.1 = e0 at *
  generalize l.drop (readN l 16).2.2 = l1 at *
  clear hk1
  go_enter Try.func29, Try.ntmps29
  go_wp2_with (first
    | (with_reducible refine wpList_alloc_z rfl 24 rfl Z hz0 ?_)
    | fail)
  rw [← hw1]
  clear hw1
  refine hnum.mono ?_
  rintro e w2 ⟨rfl, v1, hv1, hs1⟩
  have h2 := (hs1.2.block _ (lt_get h1) (by omega)).trans h1
  have hk2 : Kept (fun k => k = g) w w2 := (Kept.of_below hb1).trans hs1.2
  clear hnum
  by_cases he0 : e0 = 0
  · subst he0
    rw [if_neg (by simp)] at hdec
    have hN := hle rfl
    have hk2g := hk2.size
    have hs2 := hs1.1
    clear hs1 hle
    obtain ⟨w3, hw3⟩ : ∃ w3, w3 = w2.alloc (.cells Z 24) := ⟨_, rfl⟩
    have hb3 : Below w2.heap.size w2 w3 := by rw [hw3]; exact (Below.refl _ _).alloc (Nat.le_refl _) _
    have h63 : w3.heap[w2.heap.size]? = some (.cells (vC (padV [])) 24 (0, 0)) := by rw [hw3, padV_nil, HZ.out]; exact heap_alloc_new _ _
    have h23 := (hb3.block _ (lt_get h2)).trans h2
    have hs3 := hs2.below hb3
    have hk3 := hk2.trans (Kept.of_below hb3)
    have hwlt : w.heap.size < w2.heap.size := lt_get h2
    have hwN : IntKind.i64.wrap (N : Int) = (N : Int) := IntWalk.i64_in _ (by omega)
    clear hs2 hk2 h2
    go_wp2_with (first
      | (with_reducible refine wpList_alloc_z rfl 24 rfl Z hz0 ?_)
      | fail)
    rw [← hw3]
    clear hw3 hb3
    go_loopw [21] (fun i wr => ∃ (k : Nat) (xs : List Nat) (r : List UInt8) (v' : Value), k ≤ N ∧ i = .int .i64 (k : Int) ∧ decI l1 k = (xs, 0, r) ∧ xs.length = k ∧ Src 67 g v' r wr ∧ v'.ownBlock = v.ownBlock ∧ wr.heap[w.heap.size]? = some (.cells Z 24 (0, 0)) ∧ wr.heap[w2.heap.size]? = some (.cells (vC (padV xs)) 24 (0, 0)) ∧ Kept (fun k => k = g) w wr) (fun i _ => N - (intOf i).toNat)
    case atStart => exact ⟨0, [], l1, v1, by omega, rfl, rfl, rfl, hs3, hv1, h23, h63, hk3⟩
    case round =>
      obtain ⟨k, xs, r, v', hk, rfl, hdk, hxl, hS', hv', hZ, hX, hK⟩ := hrel
      clear hs3 h23 h63 hk3 hv1
      by_cases hkN : k < N
      · have hnum := srcnum_wide g 4294967295 (by omega) r v' wr hS'
        have hdk1 := decI.eq_2 l1 k
        rw [hdk, if_neg (by simp)] at hdk1
        simp only at hdk1
        have hle := fun h => readN_le (l := r) (m := 4294967295) h
        generalize (readN r 4294967295).1 = n at *
        generalize (readN r 4294967295).2.1 = e1 at *
        generalize r.drop (readN r 4294967295).2.2 = r1 at *
        have hki : (k : Int) < (N : Int) := by omega
        by_cases he1 : e1 = 0
        · subst he1
          rw [if_neg (by simp)] at hdk1
          have hn := hle rfl
          have hwn : IntKind.u32.wrap (n : Int) = (n : Int) := IntWalk.u32_in _ (by omega)
          have hwk : IntKind.i64.wrap ((k : Int) + 1) = (k : Int) + 1 := IntWalk.i64_in _ (by omega)
          have hk16 : (k : Int) < 16 := by omega
          clear hle
          go_wp2_with fail
          refine hnum.mono ?_
          rintro e w4 ⟨rfl, v4, hv4, hs4⟩
          have hZ4 := (hs4.2.block _ (lt_get hZ) (by omega)).trans hZ
          have hX4 := (hs4.2.block _ (lt_get hX) (by omega)).trans hX
          have hK4 := hK.trans hs4.2
          have hpl : k < (padV xs).length := by rw [padV_length _ (by omega)]; omega
          have q : w4.cell? ⟨w2.heap.size, k, none⟩ = some (.int .u32 ((padV xs)[k] : Int)) := by rw [cell_of_row _ _ _ _ _ _ hX4, vC_get _ _ hpl]
          have qf := frozen_of_row _ _ k _ _ hX4
          have hset : (vC (padV xs)).setIfInBounds k (.int .u32 (n : Int)) = vC (padV (xs ++ [n])) := by rw [← vC_set, ← hxl, padV_set _ (by omega)]
          clear hnum
          go_wp2_with fail
          have hX5 := heap_setCell_same w4 w2.heap.size k _ _ (.int .u32 (n : Int)) hX4
          rw [hset] at hX5
          exact ⟨⟨k + 1, xs ++ [n], r1, v4, by omega, rfl, hdk1, by simp [hxl], hs4.1.offVec (b := w2.heap.size) hX4 (by omega) (fun j hj => heap_setCell_other _ _ _ _ hj), hv4.trans hv', (heap_setCell_other _ _ _ _ (show w.heap.size ≠ w2.heap.size by omega)).trans hZ4, hX5, hK4.setAt (by omega) _⟩, by simp [intOf]; omega⟩
        · rw [if_pos he1] at hdk1
          have hall : decI l1 N = (xs, e1, r1) := by rw [decI_stop (i := k + 1) (by rw [hdk1]; exact he1) N (by omega)]; exact hdk1
          rw [hall, if_pos he1] at hdec
          have HD := Lib.hid hdec
          have hne : ((e1 : Int) != 0) = true := by rw [bne_iff_ne]; omega
          clear hdec hall hdk1 hle hdk
          go_wp2_with fail
          refine hnum.mono ?_
          rintro e w4 ⟨rfl, v4, hv4, hs4⟩
          have hZ4 := (hs4.2.block _ (lt_get hZ) (by omega)).trans hZ
          have hK4 := hK.trans hs4.2
          clear hnum
          go_wp2_with (first
            | (with_reducible refine wpList_build_z rfl 24 rfl Z (bz _) ?_)
            | (with_reducible refine wpList_store_z rfl 24 (.tmp 2) (.tmp 31) rfl w.heap.size rfl Z rfl Z _ hZ4 rfl hsi hZ1 ?_)
            | fail)
          refine bodyPost_ret (results_cell_tmp rfl _ _ w.heap.size 24 Z (0, 0) _ rfl (setRow_heap _ w.heap.size Z Z _ _ hZ4) Try.underlying24 rfl hsi) rfl ?_
          rw [HD.out]
          exact ⟨by rw [HZ.out]; rfl, v4, hv4.trans hv', hs4.1.offVec (x := z16) (by rw [HZ.out]; exact hZ4) (by omega) (fun k hk => setRow_other _ _ _ _ hk), hK4.setRow (Nat.le_refl _) _⟩
      · obtain rfl : k = N := by omega
        rw [hdk, if_neg (by simp)] at hdec
        simp only at hdec
        have hki : ¬ (k : Int) < (k : Int) := by omega
        have hpl : (padV xs).length = 16 := padV_length _ (by omega)
        by_cases hbad : 0 < k ∧ (padV xs).getD (k - 1) 0 = 0
        · rw [if_pos hbad] at hdec
          obtain ⟨h0, hb0⟩ := hbad
          have HD := Lib.hid hdec
          have h0i : (0 : Int) < (k : Int) := by omega
          have hwk : IntKind.u64.wrap ((k : Int) - 1) = ((k - 1 : Nat) : Int) := by rw [IntWalk.u64_in _ (by omega)]; omega
          have hkl : k - 1 < (padV xs).length := by omega
          have q : wr.cell? ⟨w2.heap.size, k - 1, none⟩ = some (.int .u32 0) := by
            rw [cell_of_row _ _ _ _ _ _ hX, vC_get _ _ hkl]
            rw [List.getD_eq_getElem?_getD, List.getElem?_eq_getElem hkl] at hb0
            simp only [Option.getD_some] at hb0
            rw [hb0]; rfl
          have hk16 : ((k - 1 : Nat) : Int) < 16 := by omega
          clear hdec hdk hb0
          generalize hkk : k - 1 = k1 at *
          go_wp2_with (first
            | (with_reducible refine wpList_build_z rfl 24 rfl Z (bz _) ?_)
            | (with_reducible refine wpList_store_z rfl 24 (.tmp 2) (.tmp 47) rfl w.heap.size rfl Z rfl Z _ hZ rfl hsi hZ1 ?_)
            | fail)
          refine bodyPost_ret (results_cell_tmp rfl _ _ w.heap.size 24 Z (0, 0) _ rfl (setRow_heap _ w.heap.size Z Z _ _ hZ) Try.underlying24 rfl hsi) rfl ?_
          rw [HD.out]
          exact ⟨by rw [HZ.out]; rfl, v', hv', hS'.offVec (x := z16) (by rw [HZ.out]; exact hZ) (by omega) (fun k hk => setRow_other _ _ _ _ hk), hK.setRow (Nat.le_refl _) _⟩
        · rw [if_neg hbad] at hdec
          have HD := Lib.hid hdec
          have hcase : ¬ (0 : Int) < (k : Int) ∨ ∃ (k1 x : Nat), (0 : Int) < (k : Int) ∧ IntKind.u64.wrap ((k : Int) - 1) = (k1 : Int) ∧ wr.cell? ⟨w2.heap.size, k1, none⟩ = some (.int .u32 (x : Int)) ∧ ((x : Int) == 0) = false ∧ (k1 : Int) < 16 := by
            rcases Nat.eq_zero_or_pos k with h0 | h0
            · exact .inl (by omega)
            · have hkl : k - 1 < (padV xs).length := by omega
              have : (padV xs)[k - 1] ≠ 0 := fun e => hbad ⟨h0, by rw [List.getD_eq_getElem?_getD, List.getElem?_eq_getElem hkl]; exact e⟩
              exact .inr ⟨k - 1, (padV xs)[k - 1], by omega, by rw [IntWalk.u64_in _ (by omega)]; omega, by rw [cell_of_row _ _ _ _ _ _ hX, vC_get _ _ hkl], by rw [beq_eq_false_iff_ne]; omega, by omega⟩
          have zp := vec_size hpl
          have hzz : (vC (padV xs)).size = Z.size := by rw [vC_size, hpl, hZs]
          clear hdec hdk hbad
          rcases hcase with h0i | ⟨k1, x, h0i, hwk, q, hx, hk16⟩
          all_goals
            go_wp2_with (first
              | (with_reducible refine wpList_load_row rfl 24 (.tmp 6) rfl _ rfl 24 (vC (padV xs)) _ _ hX Try.underlying24 rfl zp ?_)
              | (with_reducible refine wpList_store_z rfl 24 (.tmp 2) (.tmp 48) rfl w.heap.size rfl (vC (padV xs)) rfl Z _ hZ hzz zp (vC_one _) ?_)
              | fail)
            refine bodyPost_ret (results_cell_tmp rfl _ _ w.heap.size 24 (vC (padV xs)) (0, 0) _ rfl (setRow_heap _ w.heap.size Z _ _ _ hZ) Try.underlying24 rfl zp) rfl ?_
            rw [HD.out]
            exact ⟨rfl, v', hv', hS'.offVec (x := z16) (by rw [HZ.out]; exact hZ) (by omega) (fun k hk => setRow_other _ _ _ _ hk), hK.setRow (Nat.le_refl _) _⟩
  · rw [if_pos he0] at hdec
    have HD := Lib.hid hdec
    have hne : ((e0 : Int) != 0) = true := by rw [bne_iff_ne]; omega
    clear hdec hle
    go_wp2_with (first
      | (with_reducible refine wpList_build_z rfl 24 rfl Z (bz _) ?_)
      | (with_reducible refine wpList_store_z rfl 24 (.tmp 2) (.tmp 17) rfl w.heap.size rfl Z rfl Z _ h2 rfl hsi hZ1 ?_)
      | fail)
    refine bodyPost_ret (results_cell_tmp rfl _ _ w.heap.size 24 Z (0, 0) _ rfl (setRow_heap _ w.heap.size Z Z _ _ h2) Try.underlying24 rfl hsi) rfl ?_
    rw [HD.out]
    exact ⟨by rw [HZ.out]; rfl, v1, hv1, hs1.1.offVec (x := z16) (by rw [HZ.out]; exact h2) (by omega) (fun k hk => setRow_other _ _ _ _ hk), hk2.setRow (Nat.le_refl _) _⟩
set_option maxRecDepth 100000 in
set_option maxHeartbeats 8000000 in
theorem rdecode_any (g : Nat) (l : List UInt8) (v : Value) (w : World) (hS : Src 55 g v l w) (hl : l.length ≤ 100000000) :
    Calls Try.prog 30 #[.pointer (some ⟨g, 0, none⟩)] w fun e w' => e = .returned (.tuple #[.agg (vC (decV l).1), .int .i64 ((decV l).2.1 : Int)]) ∧ ∃ v', v'.ownBlock = v.ownBlock ∧ SrcStep 55 g w v' (decV l).2.2 w' := by
  obtain ⟨Z, hz0, hZs, hZ1, HZ⟩ : ∃ Z : Array Value, (Try.prog.info? 24).bind (fun i => i.zero.map Value.cells) = some Z ∧ Z.size = 16 ∧ (∀ u ∈ Z.toList, u.oneCell' = true) ∧ Hid (vC z16 = Z) := ⟨vC z16, zero_vec, by rw [vC_size]; rfl, vC_one z16, rfl⟩
  have hsi : (Try.prog.info? 24).map (·.size) = some Z.size := by rw [hZs]; exact size_vec
  have bz := fun W => run_build_z (P := Try.prog) W 24 22 16 Z hz0 Try.underlying24 ⟨_, Try.sizeOf22 W⟩
  obtain ⟨w1, hw1⟩ : ∃ w1, w1 = w.alloc (.cells Z 24) := ⟨_, rfl⟩
  have hb1 : Below w.heap.size w w1 := by rw [hw1]; exact (Below.refl _ _).alloc (Nat.le_refl _) _
  have h1 : w1.heap[w.heap.size]? = some (.cells Z 24 (0, 0)) := by rw [hw1]; exact heap_alloc_new _ _
  have hS1 := hS.below hb1
  have hgw := hS.lt
  have hdec := decV.eq_1 l
  have hk1 : (readN l 16).2.1 ≠ 0 → (readN l 16).2.2 = 0 := fun h => readN_err (n := (readN l 16).1) rfl h
  have hle : (readN l 16).2.1 = 0 → (readN l 16).1 ≤ 16 := readN_le
  have hnum := rnum_any g 16 (by omega) l hl v w1 hS1
  have hl1 : (l.drop (readN l 16).2.2).length ≤ 100000000 := by rw [List.length_drop]; omega
  generalize (readN l 16).1 = N at *
  generalize (readN l 16).2.1 = e0 at *
  generalize l.drop (readN l 16).2.2 = l1 at *
  clear hk1
  go_enter Try.func30, Try.ntmps30
  go_wp2_with (first
    | (with_reducible refine wpList_alloc_z rfl 24 rfl Z hz0 ?_)
    | fail)
  rw [← hw1]
  clear hw1
  refine hnum.mono ?_
  rintro e w2 ⟨rfl, v1, hv1, hs1⟩
  have h2 := (hs1.2.block _ (lt_get h1) (by omega)).trans h1
  have hk2 : Kept (fun k => k = g) w w2 := (Kept.of_below hb1).trans hs1.2
  clear hnum
  by_cases he0 : e0 = 0
  · subst he0
    rw [if_neg (by simp)] at hdec
    have hN := hle rfl
    have hk2g := hk2.size
    have hs2 := hs1.1
    clear hs1 hle
    obtain ⟨w3, hw3⟩ : ∃ w3, w3 = (w2.alloc (.cells Z 24)).setRow w2.heap.size Z := ⟨_, rfl⟩
    have hb3 : Below w2.heap.size w2 w3 := by rw [hw3]; exact below_setRow ((Below.refl _ _).alloc (Nat.le_refl _) _) (Nat.le_refl _) _
    have h63 : w3.heap[w2.heap.size]? = some (.cells (vC (padV [])) 24 (0, 0)) := by rw [hw3, padV_nil, HZ.out]; exact setRow_heap _ _ _ _ _ _ (heap_alloc_new _ _)
    have h23 := (hb3.block _ (lt_get h2)).trans h2
    have hs3 := hs2.below hb3
    have hk3 := hk2.trans (Kept.of_below hb3)
    have hwlt : w.heap.size < w2.heap.size := lt_get h2
    have hwN : IntKind.i64.wrap (N : Int) = (N : Int) := IntWalk.i64_in _ (by omega)
    clear hs2 hk2 h2
    go_wp2_with (first
      | (with_reducible refine wpList_build_z rfl 24 rfl Z (bz _) ?_)
      | (with_reducible refine wpList_alloc_z rfl 24 rfl Z hz0 ?_)
      | (with_reducible refine wpList_store_z rfl 24 (.tmp 6) (.tmp 19) rfl w2.heap.size rfl Z rfl Z _ (heap_alloc_new _ _) rfl hsi hZ1 ?_)
      | fail)
    rw [← hw3]
    clear hw3 hb3
    go_loopw [7] (fun i wr => ∃ (k : Nat) (xs : List Nat) (r : List UInt8) (v' : Value), k ≤ N ∧ i = .int .i64 (k : Int) ∧ decI l1 k = (xs, 0, r) ∧ xs.length = k ∧ r.length ≤ 100000000 ∧ Src 55 g v' r wr ∧ v'.ownBlock = v.ownBlock ∧ wr.heap[w.heap.size]? = some (.cells Z 24 (0, 0)) ∧ wr.heap[w2.heap.size]? = some (.cells (vC (padV xs)) 24 (0, 0)) ∧ Kept (fun k => k = g) w wr) (fun i _ => N - (intOf i).toNat)
    case atStart => exact ⟨0, [], l1, v1, by omega, rfl, rfl, rfl, hl1, hs3, hv1, h23, h63, hk3⟩
    case round =>
      obtain ⟨k, xs, r, v', hk, rfl, hdk, hxl, hrl, hS', hv', hZ, hX, hK⟩ := hrel
      clear hs3 h23 h63 hk3 hv1
      by_cases hkN : k < N
      · have hnum := rnum_any g 4294967295 (by omega) r hrl v' wr hS'
        have hr1 : (r.drop (readN r 4294967295).2.2).length ≤ 100000000 := by rw [List.length_drop]; omega
        have hdk1 := decI.eq_2 l1 k
        rw [hdk, if_neg (by simp)] at hdk1
        simp only at hdk1
        have hle := fun h => readN_le (l := r) (m := 4294967295) h
        generalize (readN r 4294967295).1 = n at *
        generalize (readN r 4294967295).2.1 = e1 at *
        generalize r.drop (readN r 4294967295).2.2 = r1 at *
        have hki : (k : Int) < (N : Int) := by omega
        by_cases he1 : e1 = 0
        · subst he1
          rw [if_neg (by simp)] at hdk1
          have hn := hle rfl
          have hwn : IntKind.u32.wrap (n : Int) = (n : Int) := IntWalk.u32_in _ (by omega)
          have hwk : IntKind.i64.wrap ((k : Int) + 1) = (k : Int) + 1 := IntWalk.i64_in _ (by omega)
          have hk16 : (k : Int) < 16 := by omega
          clear hle
          go_wp2_with fail
          refine hnum.mono ?_
          rintro e w4 ⟨rfl, v4, hv4, hs4⟩
          have hZ4 := (hs4.2.block _ (lt_get hZ) (by omega)).trans hZ
          have hX4 := (hs4.2.block _ (lt_get hX) (by omega)).trans hX
          have hK4 := hK.trans hs4.2
          have hpl : k < (padV xs).length := by rw [padV_length _ (by omega)]; omega
          have q : w4.cell? ⟨w2.heap.size, k, none⟩ = some (.int .u32 ((padV xs)[k] : Int)) := by rw [cell_of_row _ _ _ _ _ _ hX4, vC_get _ _ hpl]
          have qf := frozen_of_row _ _ k _ _ hX4
          have hset : (vC (padV xs)).setIfInBounds k (.int .u32 (n : Int)) = vC (padV (xs ++ [n])) := by rw [← vC_set, ← hxl, padV_set _ (by omega)]
          clear hnum
          go_wp2_with fail
          have hX5 := heap_setCell_same w4 w2.heap.size k _ _ (.int .u32 (n : Int)) hX4
          rw [hset] at hX5
          exact ⟨⟨k + 1, xs ++ [n], r1, v4, by omega, rfl, hdk1, by simp [hxl], hr1, hs4.1.offVec (b := w2.heap.size) hX4 (by omega) (fun j hj => heap_setCell_other _ _ _ _ hj), hv4.trans hv', (heap_setCell_other _ _ _ _ (show w.heap.size ≠ w2.heap.size by omega)).trans hZ4, hX5, hK4.setAt (by omega) _⟩, by simp [intOf]; omega⟩
        · rw [if_pos he1] at hdk1
          have hall : decI l1 N = (xs, e1, r1) := by rw [decI_stop (i := k + 1) (by rw [hdk1]; exact he1) N (by omega)]; exact hdk1
          rw [hall, if_pos he1] at hdec
          have HD := Lib.hid hdec
          have hne : ((e1 : Int) != 0) = true := by rw [bne_iff_ne]; omega
          clear hdec hall hdk1 hle hdk
          go_wp2_with fail
          refine hnum.mono ?_
          rintro e w4 ⟨rfl, v4, hv4, hs4⟩
          have hZ4 := (hs4.2.block _ (lt_get hZ) (by omega)).trans hZ
          have hK4 := hK.trans hs4.2
          clear hnum
          go_wp2_with (first
            | (with_reducible refine wpList_build_z rfl 24 rfl Z (bz _) ?_)
            | (with_reducible refine wpList_store_z rfl 24 (.tmp 2) (.tmp 33) rfl w.heap.size rfl Z rfl Z _ hZ4 rfl hsi hZ1 ?_)
            | fail)
          refine bodyPost_ret (results_cell_tmp rfl _ _ w.heap.size 24 Z (0, 0) _ rfl (setRow_heap _ w.heap.size Z Z _ _ hZ4) Try.underlying24 rfl hsi) rfl ?_
          rw [HD.out]
          exact ⟨by rw [HZ.out]; rfl, v4, hv4.trans hv', hs4.1.offVec (x := z16) (by rw [HZ.out]; exact hZ4) (by omega) (fun k hk => setRow_other _ _ _ _ hk), hK4.setRow (Nat.le_refl _) _⟩
      · obtain rfl : k = N := by omega
        rw [hdk, if_neg (by simp)] at hdec
        simp only at hdec
        have hki : ¬ (k : Int) < (k : Int) := by omega
        have hpl : (padV xs).length = 16 := padV_length _ (by omega)
        by_cases hbad : 0 < k ∧ (padV xs).getD (k - 1) 0 = 0
        · rw [if_pos hbad] at hdec
          obtain ⟨h0, hb0⟩ := hbad
          have HD := Lib.hid hdec
          have h0i : (0 : Int) < (k : Int) := by omega
          have hwk : IntKind.u64.wrap ((k : Int) - 1) = ((k - 1 : Nat) : Int) := by rw [IntWalk.u64_in _ (by omega)]; omega
          have hkl : k - 1 < (padV xs).length := by omega
          have q : wr.cell? ⟨w2.heap.size, k - 1, none⟩ = some (.int .u32 0) := by
            rw [cell_of_row _ _ _ _ _ _ hX, vC_get _ _ hkl]
            rw [List.getD_eq_getElem?_getD, List.getElem?_eq_getElem hkl] at hb0
            simp only [Option.getD_some] at hb0
            rw [hb0]; rfl
          have hk16 : ((k - 1 : Nat) : Int) < 16 := by omega
          clear hdec hdk hb0
          generalize hkk : k - 1 = k1 at *
          go_wp2_with (first
            | (with_reducible refine wpList_build_z rfl 24 rfl Z (bz _) ?_)
            | (with_reducible refine wpList_store_z rfl 24 (.tmp 2) (.tmp 48) rfl w.heap.size rfl Z rfl Z _ hZ rfl hsi hZ1 ?_)
            | fail)
          refine bodyPost_ret (results_cell_tmp rfl _ _ w.heap.size 24 Z (0, 0) _ rfl (setRow_heap _ w.heap.size Z Z _ _ hZ) Try.underlying24 rfl hsi) rfl ?_
          rw [HD.out]
          exact ⟨by rw [HZ.out]; rfl, v', hv', hS'.offVec (x := z16) (by rw [HZ.out]; exact hZ) (by omega) (fun k hk => setRow_other _ _ _ _ hk), hK.setRow (Nat.le_refl _) _⟩
        · rw [if_neg hbad] at hdec
          have HD := Lib.hid hdec
          have hcase : ¬ (0 : Int) < (k : Int) ∨ ∃ (k1 x : Nat), (0 : Int) < (k : Int) ∧ IntKind.u64.wrap ((k : Int) - 1) = (k1 : Int) ∧ wr.cell? ⟨w2.heap.size, k1, none⟩ = some (.int .u32 (x : Int)) ∧ ((x : Int) == 0) = false ∧ (k1 : Int) < 16 := by
            rcases Nat.eq_zero_or_pos k with h0 | h0
            · exact .inl (by omega)
            · have hkl : k - 1 < (padV xs).length := by omega
              have : (padV xs)[k - 1] ≠ 0 := fun e => hbad ⟨h0, by rw [List.getD_eq_getElem?_getD, List.getElem?_eq_getElem hkl]; exact e⟩
              exact .inr ⟨k - 1, (padV xs)[k - 1], by omega, by rw [IntWalk.u64_in _ (by omega)]; omega, by rw [cell_of_row _ _ _ _ _ _ hX, vC_get _ _ hkl], by rw [beq_eq_false_iff_ne]; omega, by omega⟩
          have zp := vec_size hpl
          have hzz : (vC (padV xs)).size = Z.size := by rw [vC_size, hpl, hZs]
          clear hdec hdk hbad
          rcases hcase with h0i | ⟨k1, x, h0i, hwk, q, hx, hk16⟩
          all_goals
            go_wp2_with (first
              | (with_reducible refine wpList_load_row rfl 24 (.tmp 6) rfl _ rfl 24 (vC (padV xs)) _ _ hX Try.underlying24 rfl zp ?_)
              | (with_reducible refine wpList_store_z rfl 24 (.tmp 2) (.tmp 49) rfl w.heap.size rfl (vC (padV xs)) rfl Z _ hZ hzz zp (vC_one _) ?_)
              | fail)
            refine bodyPost_ret (results_cell_tmp rfl _ _ w.heap.size 24 (vC (padV xs)) (0, 0) _ rfl (setRow_heap _ w.heap.size Z _ _ _ hZ) Try.underlying24 rfl zp) rfl ?_
            rw [HD.out]
            exact ⟨rfl, v', hv', hS'.offVec (x := z16) (by rw [HZ.out]; exact hZ) (by omega) (fun k hk => setRow_other _ _ _ _ hk), hK.setRow (Nat.le_refl _) _⟩
  · rw [if_pos he0] at hdec
    have HD := Lib.hid hdec
    have hne : ((e0 : Int) != 0) = true := by rw [bne_iff_ne]; omega
    clear hdec hle
    go_wp2_with (first
      | (with_reducible refine wpList_build_z rfl 24 rfl Z (bz _) ?_)
      | (with_reducible refine wpList_store_z rfl 24 (.tmp 2) (.tmp 17) rfl w.heap.size rfl Z rfl Z _ h2 rfl hsi hZ1 ?_)
      | fail)
    refine bodyPost_ret (results_cell_tmp rfl _ _ w.heap.size 24 Z (0, 0) _ rfl (setRow_heap _ w.heap.size Z Z _ _ h2) Try.underlying24 rfl hsi) rfl ?_
    rw [HD.out]
    exact ⟨by rw [HZ.out]; rfl, v1, hv1, hs1.1.offVec (x := z16) (by rw [HZ.out]; exact h2) (by omega) (fun k hk => setRow_other _ _ _ _ hk), hk2.setRow (Nat.le_refl _) _⟩
end Go.Proofs.Ytfifbjlmbdgmjaa
