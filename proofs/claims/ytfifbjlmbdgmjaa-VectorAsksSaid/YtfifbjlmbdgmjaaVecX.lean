/- Vectors: the reference's Merge and Meet. -/
import Derived.Test.YtfifbjlmbdgmjaaVecE
namespace Go.Proofs.Ytfifbjlmbdgmjaa
open Go.RowKit

theorem zw_zero (v : List Nat) (h : v.length = 16) : List.zipWith max z16 v = v := List.ext_getElem (by simp [z16, h]) fun k h1 h2 => by rw [List.getElem_zipWith]; simp only [z16, List.getElem_replicate]; omega
theorem fold_next_max (L : List (List Nat)) (h : ∀ v ∈ L, v.length = 16) (k : Nat) (hk : k < L.length) : List.zipWith max (foldK max L k) (L.getD k []) = foldK max L (k + 1) := by
  have hv : (L.getD k []).length = 16 := by
    rw [List.getD_eq_getElem?_getD, List.getElem?_eq_getElem hk]
    exact h _ (List.getElem_mem _)
  rw [foldK_step]
  by_cases h0 : k = 0
  · subst h0
    rw [if_pos rfl, zw_self max Nat.max_self, show foldK max L 0 = z16 from rfl, zw_zero _ hv]
  · rw [if_neg h0]
theorem fold_next_min (L : List (List Nat)) (k : Nat) (h0 : k ≠ 0) : List.zipWith min (foldK min L k) (L.getD k []) = foldK min L (k + 1) := by
  rw [foldK_step, if_neg h0]
theorem fold_one_min (L : List (List Nat)) : foldK min L 1 = L.getD 0 [] := by
  rw [foldK_step, if_pos rfl, zw_self min Nat.min_self]
set_option maxRecDepth 20000 in
set_option maxHeartbeats 4000000 in
theorem rmerge_row (A : Option Addr) (n c : Nat) (L : List (List Nat)) (hn : L.length = n) (hv : ∀ v ∈ L, v.length = 16) (hn2 : n ≤ 1000) (w : World) (hr : RdC w A (vecs L)) :
    Calls Try.prog 22 #[.slice A n c] w fun e w' => e = .returned (.agg (vC (foldK max L n))) ∧ Below w.heap.size w w' := by
  subst hn
  obtain ⟨Z, hz0, hZs, hZ1, HZ⟩ : ∃ Z : Array Value, (Try.prog.info? 24).bind (fun i => i.zero.map Value.cells) = some Z ∧ Z.size = 16 ∧ (∀ u ∈ Z.toList, u.oneCell' = true) ∧ Hid (Z = vC z16) := ⟨vC z16, zero_vec, by rw [vC_size]; rfl, vC_one z16, rfl⟩
  have hsi : (Try.prog.info? 24).map (·.size) = some Z.size := by rw [hZs]; exact size_vec
  have bz := fun W => run_build_z (P := Try.prog) W 24 22 16 Z hz0 Try.underlying24 ⟨_, Try.sizeOf22 W⟩
  have k2 : ((w.alloc (.cells Z 24)).alloc (.cells Z 24)).heap[w.heap.size + 1]? = some (.cells Z 24 (0, 0)) := heap_alloc2_new _ _ _
  have k2' : ((w.alloc (.cells Z 24)).alloc (.cells Z 24)).heap[(w.alloc (.cells Z 24)).heap.size]? = some (.cells Z 24 (0, 0)) := heap_alloc_new _ _
  have k3 : ((w.alloc (.cells Z 24)).alloc (.cells Z 24)).heap[w.heap.size]? = some (.cells Z 24 (0, 0)) := heap_alloc2_old _ _ _
  have hb2 : Below w.heap.size w ((w.alloc (.cells Z 24)).alloc (.cells Z 24)) := ((Below.refl _ w).alloc (Nat.le_refl _) _).alloc (by simp) _
  have HS := Lib.hid hZs
  clear hZs
  have q2 := setRow_heap _ (w.heap.size + 1) Z Z _ _ k2
  have q3 := (setRow_other ((w.alloc (.cells Z 24)).alloc (.cells Z 24)) (w.heap.size + 1) w.heap.size Z (by omega)).trans k3
  have hb3 := below_setRow hb2 (show w.heap.size ≤ w.heap.size + 1 by omega) Z
  go_enter Try.func22, Try.ntmps22
  go_wp2_with (first
    | (with_reducible refine wpList_alloc_z rfl 24 rfl Z hz0 ?_)
    | (with_reducible refine wpList_build_z rfl 24 rfl Z (bz _) ?_)
    | (with_reducible refine wpList_store_z rfl 24 (.tmp 3) (.tmp 6) rfl _ rfl Z rfl Z _ k2' rfl hsi hZ1 ?_)
    | fail)
  obtain ⟨w1, hw1⟩ : ∃ w1, w1 = ((w.alloc (.cells Z 24)).alloc (.cells Z 24)).setRow (w.heap.size + 1) Z := ⟨_, rfl⟩
  rw [← hw1] at q2 q3 hb3 ⊢
  clear hw1 hb2 k2 k2' k3
  go_loopw [4] (fun i wr => ∃ k : Nat, k ≤ L.length ∧ i = .int .i64 k ∧ wr.heap[w.heap.size + 1]? = some (.cells (vC (foldK max L k)) 24 (0, 0)) ∧ wr.heap[w.heap.size]? = some (.cells Z 24 (0, 0)) ∧ Below w.heap.size w wr) (fun i _ => L.length - (intOf i).toNat)
  case atStart => exact ⟨0, by omega, rfl, by rw [show foldK max L 0 = z16 from rfl, ← HZ.out]; exact q2, q3, hb3⟩
  case round =>
    clear q2 q3 hb3
    obtain ⟨k, hk, rfl, hp, hq, hbr⟩ := hrel
    by_cases hlt : k < L.length
    · obtain ⟨v, hvk⟩ : ∃ v, v = L[k] := ⟨_, rfl⟩
      have hvl : v.length = 16 := by rw [hvk]; exact hv _ (List.getElem_mem _)
      have hvg : L.getD k [] = v := by rw [hvk, List.getD_eq_getElem?_getD, List.getElem?_eq_getElem hlt]; rfl
      obtain ⟨ad, rfl, hx0⟩ := hr (k * 16 + 0) _ (vecs_get L hv k 0 hlt (by omega) (by rw [← hvk]; omega))
      have hcell : ∀ j (hj : j < v.length), w.cell? ((ad.add (k * 16)).add j) = some (.int .u32 (v[j] : Int)) := fun j hj => by
        subst hvk
        obtain ⟨_, e, h⟩ := hr (k * 16 + j) _ (vecs_get L hv k j hlt (by omega) hj)
        cases e
        rw [addr_add_add]
        exact h
      have hol := foldK_length max L hv k hk
      have HF : Hid (List.zipWith max (foldK max L k) v = foldK max L (k + 1)) := by show _ = _; rw [← hvg]; exact fold_next_max L hv k hlt
      clear hx0 hvg hvk hr
      obtain ⟨o, ho⟩ : ∃ o, o = foldK max L k := ⟨_, rfl⟩
      rw [← ho] at hol hp HF
      clear ho
      go_wp2_with fail
      go_loopw [5] (fun i wx => ∃ j : Nat, j ≤ 16 ∧ i = .int .i64 j ∧ wx.heap[w.heap.size + 1]? = some (.cells (vC (mixK max o v j)) 24 (0, 0)) ∧ wx.heap[w.heap.size]? = some (.cells Z 24 (0, 0)) ∧ Below w.heap.size w wx) (fun i _ => 16 - (intOf i).toNat)
      case atStart => exact ⟨0, by omega, rfl, by rw [mixK_zero]; exact hp, hq, hbr⟩
      case round =>
        clear hp hq hbr
        obtain ⟨j, hj, rfl, hp, hq, hbr⟩ := hrel
        by_cases hjt : j < 16
        · have jo : j < o.length := by omega
          have jv : j < v.length := by omega
          have hml := mixK_length max o v hol hvl j (by omega)
          have cellp : wr.cell? ⟨w.heap.size + 1, j, none⟩ = some (.int .u32 (o[j] : Int)) := by
            rw [cell_of_row _ _ _ _ _ _ hp, vC_get _ _ (by omega), mixK_get max o v hol hvl j hjt]
          have cellx : wr.cell? ((ad.add (k * 16)).add j) = some (.int .u32 (v[j] : Int)) := (hbr.cell (World.block_lt_of_cell? w _ (hcell j jv))).trans (hcell j jv)
          have hms := mixK_step max o v hol hvl j hjt
          have hself : (mixK max o v j).set j o[j] = mixK max o v j := by
            rw [← mixK_get max o v hol hvl j hjt (by omega)]
            exact List.set_getElem_self _
          have hfro : ∀ q, (wr.drewN q).frozen? ⟨w.heap.size + 1, j, none⟩ = false := fun q => frozen_of_row (wr.drewN q) _ j _ _ hp
          have hnewF : ∀ q (z : Nat), z = max o[j] v[j] → ((wr.drewN q).setCell ⟨w.heap.size + 1, j, none⟩ (.int .u32 (z : Int))).heap[w.heap.size + 1]? = some (.cells (vC (mixK max o v (j + 1))) 24 (0, 0)) := fun q z hz => by
            rw [← hms, ← hz, vC_set]
            exact heap_setCell_same (wr.drewN q) (w.heap.size + 1) j (vC (mixK max o v j)) _ (.int .u32 (z : Int)) hp
          have holdF : ∀ q (z : Nat), ((wr.drewN q).setCell ⟨w.heap.size + 1, j, none⟩ (.int .u32 (z : Int))).heap[w.heap.size]? = some (.cells Z 24 (0, 0)) := fun q z => by rw [heap_setCell_other _ _ _ _ (by simp)]; exact hq
          have hbF : ∀ q (z : Nat), Below w.heap.size w ((wr.drewN q).setCell ⟨w.heap.size + 1, j, none⟩ (.int .u32 (z : Int))) := fun q z => (below_drN hbr q).setCell (p := ⟨w.heap.size + 1, j, none⟩) (show w.heap.size ≤ w.heap.size + 1 by omega) _
          have hstay : max o[j] v[j] = o[j] → wr.heap[w.heap.size + 1]? = some (.cells (vC (mixK max o v (j + 1))) 24 (0, 0)) := fun h => by
            rw [← hms, h, hself]; exact hp
          clear hms hself hml
          generalize o[j] = x at *
          generalize v[j] = y at *
          by_cases hxy : x < y
          · have hnew := fun q => hnewF q y (by omega)
            clear hnewF hstay hp
            go_wp2_with fail
            go_quiet (fail)
            go_wp2_with fail
            go_roundw
            case rel => exact ⟨j + 1, by omega, by go_num, hnew _, holdF _ _, hbF _ _⟩
            case measure => simp [intOf]; omega
          · have hnew := hstay (by omega)
            clear hnewF hstay holdF hbF hp
            go_wp2_with fail
            go_quiet (fail)
            go_wp2_with fail
            go_roundw
            case rel => exact ⟨j + 1, by omega, by go_num, hnew, hq, below_drN hbr _⟩
            case measure => simp [intOf]; omega
        · obtain rfl : j = 16 := by omega
          rw [mixK_full max o v hol hvl, HF.out] at hp
          clear HF
          go_wp2_with fail
          go_roundw
          case rel => exact ⟨k + 1, by omega, by go_num, hp, hq, hbr⟩
          case measure => simp [intOf]; omega
    · obtain rfl : k = L.length := by omega
      have hol := foldK_length max L hv _ hk
      have hsr := vec_size hol
      have q1 := setRow_heap _ w.heap.size Z (vC (foldK max L L.length)) _ _ hq
      have hbf := below_setRow hbr (Nat.le_refl _) (vC (foldK max L L.length))
      have hrs : (vC (foldK max L L.length)).size = Z.size := by rw [vC_size, hol, HS.out]
      have h1 := vC_one (foldK max L L.length)
      obtain ⟨R, hR⟩ : ∃ R, vC (foldK max L L.length) = R := ⟨_, rfl⟩
      rw [hR] at hp hsr q1 hbf hrs h1
      have HR := Lib.hid hR
      clear hR
      go_wp2_with (first
        | (with_reducible refine wpList_load_row rfl 24 (.tmp 3) rfl _ rfl 24 R _ _ hp Try.underlying24 rfl hsr ?_)
        | (with_reducible refine wpList_store_z rfl 24 (.tmp 2) (.tmp 35) rfl _ rfl R rfl Z _ hq hrs hsr h1 ?_)
        | fail)
      refine bodyPost_ret (results_cell_row rfl _ _ w.heap.size 24 R (0, 0) _ rfl q1 Try.underlying24 rfl hsr) rfl ⟨by rw [HR.out], hbf⟩
set_option maxRecDepth 20000 in
set_option maxHeartbeats 4000000 in
theorem rmeet_row (A : Option Addr) (n c : Nat) (L : List (List Nat)) (hn : L.length = n) (hv : ∀ v ∈ L, v.length = 16) (hn2 : n ≤ 1000) (w : World) (hr : RdC w A (vecs L)) :
    Calls Try.prog 23 #[.slice A n c] w fun e w' => e = .returned (.agg (vC (foldK min L n))) ∧ Below w.heap.size w w' := by
  subst hn
  obtain ⟨Z, hz0, hZs, hZ1, HZ⟩ : ∃ Z : Array Value, (Try.prog.info? 24).bind (fun i => i.zero.map Value.cells) = some Z ∧ Z.size = 16 ∧ (∀ u ∈ Z.toList, u.oneCell' = true) ∧ Hid (Z = vC z16) := ⟨vC z16, zero_vec, by rw [vC_size]; rfl, vC_one z16, rfl⟩
  have hsi : (Try.prog.info? 24).map (·.size) = some Z.size := by rw [hZs]; exact size_vec
  have bz := fun W => run_build_z (P := Try.prog) W 24 22 16 Z hz0 Try.underlying24 ⟨_, Try.sizeOf22 W⟩
  have HS := Lib.hid hZs
  clear hZs
  by_cases h0 : L.length = 0
  · have hz : foldK min L L.length = z16 := by rw [h0]; rfl
    rw [hz, ← HZ.out]
    have k3 : (w.alloc (.cells Z 24)).heap[w.heap.size]? = some (.cells Z 24 (0, 0)) := heap_alloc_new _ _
    have hb2 : Below w.heap.size w (w.alloc (.cells Z 24)) := (Below.refl _ w).alloc (Nat.le_refl _) _
    have q1 := setRow_heap _ w.heap.size Z Z _ _ k3
    have hbf := below_setRow hb2 (Nat.le_refl _) Z
    have hl0 : ((L.length : Int) == 0) = true := by simp [h0]
    clear hz h0
    go_enter Try.func23, Try.ntmps23
    go_wp2_with (first
      | (with_reducible refine wpList_alloc_z rfl 24 rfl Z hz0 ?_)
      | (with_reducible refine wpList_build_z rfl 24 rfl Z (bz _) ?_)
      | (with_reducible refine wpList_store_z rfl 24 (.tmp 2) (.tmp 9) rfl _ rfl Z rfl Z _ k3 rfl hsi hZ1 ?_)
      | fail)
    refine bodyPost_ret (results_cell_row rfl _ _ w.heap.size 24 Z (0, 0) _ rfl q1 Try.underlying24 rfl hsi) rfl ⟨rfl, hbf⟩
  have hpos : 0 < L.length := by omega
  have hl0 : ((L.length : Int) == 0) = false := by simp [h0]
  obtain ⟨v0, hv0⟩ : ∃ v0, v0 = L[0] := ⟨_, rfl⟩
  have hvl0 : v0.length = 16 := by rw [hv0]; exact hv _ (List.getElem_mem _)
  have hvg0 : foldK min L 1 = v0 := by rw [fold_one_min, hv0, List.getD_eq_getElem?_getD, List.getElem?_eq_getElem hpos]; rfl
  obtain ⟨ad0, rfl, hx00⟩ := hr (0 * 16 + 0) _ (vecs_get L hv 0 0 hpos (by omega) (by rw [← hv0]; omega))
  have hcell0 : ∀ j (hj : j < v0.length), (w.alloc (.cells Z 24)).cell? (ad0.add j) = some (.int .u32 (v0[j] : Int)) := fun j hj => by
    subst hv0
    obtain ⟨_, e, h⟩ := hr (0 * 16 + j) _ (vecs_get L hv 0 j hpos (by omega) hj)
    cases e
    rw [Nat.zero_mul, Nat.zero_add] at h
    exact (((Below.refl _ w).alloc (Nat.le_refl _) _).cell (World.block_lt_of_cell? w _ h)).trans h
  have hld0 := load_vec _ ad0 v0 hvl0 hcell0
  have hpos' : (0 : Int) < (L.length : Int) := by omega
  clear hx00 hcell0 hv0 h0
  have k2 : ((w.alloc (.cells Z 24)).alloc (.cells Z 24)).heap[w.heap.size + 1]? = some (.cells Z 24 (0, 0)) := heap_alloc2_new _ _ _
  have k2' : ((w.alloc (.cells Z 24)).alloc (.cells Z 24)).heap[(w.alloc (.cells Z 24)).heap.size]? = some (.cells Z 24 (0, 0)) := heap_alloc_new _ _
  have k3 : ((w.alloc (.cells Z 24)).alloc (.cells Z 24)).heap[w.heap.size]? = some (.cells Z 24 (0, 0)) := heap_alloc2_old _ _ _
  have hb2 : Below w.heap.size w ((w.alloc (.cells Z 24)).alloc (.cells Z 24)) := ((Below.refl _ w).alloc (Nat.le_refl _) _).alloc (by simp) _
  have q2 := setRow_heap _ (w.heap.size + 1) Z (vC v0) _ _ k2
  have q3 := (setRow_other ((w.alloc (.cells Z 24)).alloc (.cells Z 24)) (w.heap.size + 1) w.heap.size (vC v0) (by omega)).trans k3
  have hb3 := below_setRow hb2 (show w.heap.size ≤ w.heap.size + 1 by omega) (vC v0)
  have z0 := vec_size hvl0
  have hs0 : (vC v0).size = Z.size := by rw [vC_size, hvl0, HS.out]
  have ho0 := vC_one v0
  go_enter Try.func23, Try.ntmps23
  go_wp2_with (first
    | (with_reducible refine wpList_alloc_z rfl 24 rfl Z hz0 ?_)
    | (with_reducible refine wpList_load_at rfl 24 (.tmp 11) rfl _ rfl _ hld0 ?_)
    | (with_reducible refine wpList_store_z rfl 24 (.tmp 3) (.tmp 12) rfl _ rfl (vC v0) rfl Z _ k2' hs0 z0 ho0 ?_)
    | fail)
  obtain ⟨w1, hw1⟩ : ∃ w1, w1 = ((w.alloc (.cells Z 24)).alloc (.cells Z 24)).setRow (w.heap.size + 1) (vC v0) := ⟨_, rfl⟩
  rw [← hw1] at q2 q3 hb3 ⊢
  clear hw1 hb2 k2 k2' k3 hld0
  go_loopw [4] (fun i wr => ∃ k : Nat, 1 ≤ k ∧ k ≤ L.length ∧ i = .int .i64 k ∧ wr.heap[w.heap.size + 1]? = some (.cells (vC (foldK min L k)) 24 (0, 0)) ∧ wr.heap[w.heap.size]? = some (.cells Z 24 (0, 0)) ∧ Below w.heap.size w wr) (fun i _ => L.length - (intOf i).toNat)
  case atStart => exact ⟨1, by omega, by omega, rfl, by rw [hvg0]; exact q2, q3, hb3⟩
  case round =>
    clear q2 q3 hb3
    obtain ⟨k, hk1, hk, rfl, hp, hq, hbr⟩ := hrel
    by_cases hlt : k < L.length
    · obtain ⟨v, hvk⟩ : ∃ v, v = L[k] := ⟨_, rfl⟩
      have hvl : v.length = 16 := by rw [hvk]; exact hv _ (List.getElem_mem _)
      have hvg : L.getD k [] = v := by rw [hvk, List.getD_eq_getElem?_getD, List.getElem?_eq_getElem hlt]; rfl
      obtain ⟨ad, had, hx0⟩ := hr (k * 16 + 0) _ (vecs_get L hv k 0 hlt (by omega) (by rw [← hvk]; omega))
      obtain rfl : ad0 = ad := by cases had; rfl
      have hcell : ∀ j (hj : j < v.length), w.cell? ((ad0.add (k * 16)).add j) = some (.int .u32 (v[j] : Int)) := fun j hj => by
        subst hvk
        obtain ⟨_, e, h⟩ := hr (k * 16 + j) _ (vecs_get L hv k j hlt (by omega) hj)
        cases e
        rw [addr_add_add]
        exact h
      have hol := foldK_length min L hv k hk
      have HF : Hid (List.zipWith min (foldK min L k) v = foldK min L (k + 1)) := by show _ = _; rw [← hvg]; exact fold_next_min L k (by omega)
      clear had hx0 hvg hvk hr
      obtain ⟨o, ho⟩ : ∃ o, o = foldK min L k := ⟨_, rfl⟩
      rw [← ho] at hol hp HF
      clear ho
      go_wp2_with fail
      go_loopw [5] (fun i wx => ∃ j : Nat, j ≤ 16 ∧ i = .int .i64 j ∧ wx.heap[w.heap.size + 1]? = some (.cells (vC (mixK min o v j)) 24 (0, 0)) ∧ wx.heap[w.heap.size]? = some (.cells Z 24 (0, 0)) ∧ Below w.heap.size w wx) (fun i _ => 16 - (intOf i).toNat)
      case atStart => exact ⟨0, by omega, rfl, by rw [mixK_zero]; exact hp, hq, hbr⟩
      case round =>
        clear hp hq hbr
        obtain ⟨j, hj, rfl, hp, hq, hbr⟩ := hrel
        by_cases hjt : j < 16
        · have jo : j < o.length := by omega
          have jv : j < v.length := by omega
          have hml := mixK_length min o v hol hvl j (by omega)
          have cellp : wr.cell? ⟨w.heap.size + 1, j, none⟩ = some (.int .u32 (o[j] : Int)) := by
            rw [cell_of_row _ _ _ _ _ _ hp, vC_get _ _ (by omega), mixK_get min o v hol hvl j hjt]
          have cellx : wr.cell? ((ad0.add (k * 16)).add j) = some (.int .u32 (v[j] : Int)) := (hbr.cell (World.block_lt_of_cell? w _ (hcell j jv))).trans (hcell j jv)
          have hms := mixK_step min o v hol hvl j hjt
          have hself : (mixK min o v j).set j o[j] = mixK min o v j := by
            rw [← mixK_get min o v hol hvl j hjt (by omega)]
            exact List.set_getElem_self _
          have hfro : ∀ q, (wr.drewN q).frozen? ⟨w.heap.size + 1, j, none⟩ = false := fun q => frozen_of_row (wr.drewN q) _ j _ _ hp
          have hnewF : ∀ q (z : Nat), z = min o[j] v[j] → ((wr.drewN q).setCell ⟨w.heap.size + 1, j, none⟩ (.int .u32 (z : Int))).heap[w.heap.size + 1]? = some (.cells (vC (mixK min o v (j + 1))) 24 (0, 0)) := fun q z hz => by
            rw [← hms, ← hz, vC_set]
            exact heap_setCell_same (wr.drewN q) (w.heap.size + 1) j (vC (mixK min o v j)) _ (.int .u32 (z : Int)) hp
          have holdF : ∀ q (z : Nat), ((wr.drewN q).setCell ⟨w.heap.size + 1, j, none⟩ (.int .u32 (z : Int))).heap[w.heap.size]? = some (.cells Z 24 (0, 0)) := fun q z => by rw [heap_setCell_other _ _ _ _ (by simp)]; exact hq
          have hbF : ∀ q (z : Nat), Below w.heap.size w ((wr.drewN q).setCell ⟨w.heap.size + 1, j, none⟩ (.int .u32 (z : Int))) := fun q z => (below_drN hbr q).setCell (p := ⟨w.heap.size + 1, j, none⟩) (show w.heap.size ≤ w.heap.size + 1 by omega) _
          have hstay : min o[j] v[j] = o[j] → wr.heap[w.heap.size + 1]? = some (.cells (vC (mixK min o v (j + 1))) 24 (0, 0)) := fun h => by
            rw [← hms, h, hself]; exact hp
          clear hms hself hml
          generalize o[j] = x at *
          generalize v[j] = y at *
          by_cases hxy : y < x
          · have hnew := fun q => hnewF q y (by omega)
            clear hnewF hstay hp
            go_wp2_with fail
            go_quiet (fail)
            go_wp2_with fail
            go_roundw
            case rel => exact ⟨j + 1, by omega, by go_num, hnew _, holdF _ _, hbF _ _⟩
            case measure => simp [intOf]; omega
          · have hnew := hstay (by omega)
            clear hnewF hstay holdF hbF hp
            go_wp2_with fail
            go_quiet (fail)
            go_wp2_with fail
            go_roundw
            case rel => exact ⟨j + 1, by omega, by go_num, hnew, hq, below_drN hbr _⟩
            case measure => simp [intOf]; omega
        · obtain rfl : j = 16 := by omega
          rw [mixK_full min o v hol hvl, HF.out] at hp
          clear HF
          go_wp2_with fail
          go_roundw
          case rel => exact ⟨k + 1, by omega, by omega, by go_num, hp, hq, hbr⟩
          case measure => simp [intOf]; omega
    · obtain rfl : k = L.length := by omega
      have hol := foldK_length min L hv _ hk
      have hsr := vec_size hol
      have q1 := setRow_heap _ w.heap.size Z (vC (foldK min L L.length)) _ _ hq
      have hbf := below_setRow hbr (Nat.le_refl _) (vC (foldK min L L.length))
      have hrs : (vC (foldK min L L.length)).size = Z.size := by rw [vC_size, hol, HS.out]
      have h1 := vC_one (foldK min L L.length)
      obtain ⟨R, hR⟩ : ∃ R, vC (foldK min L L.length) = R := ⟨_, rfl⟩
      rw [hR] at hp hsr q1 hbf hrs h1
      have HR := Lib.hid hR
      clear hR
      go_wp2_with (first
        | (with_reducible refine wpList_load_row rfl 24 (.tmp 3) rfl _ rfl 24 R _ _ hp Try.underlying24 rfl hsr ?_)
        | (with_reducible refine wpList_store_z rfl 24 (.tmp 2) (.tmp 41) rfl _ rfl R rfl Z _ hq hrs hsr h1 ?_)
        | fail)
      refine bodyPost_ret (results_cell_row rfl _ _ w.heap.size 24 R (0, 0) _ rfl q1 Try.underlying24 rfl hsr) rfl ⟨by rw [HR.out], hbf⟩
end Go.Proofs.Ytfifbjlmbdgmjaa
