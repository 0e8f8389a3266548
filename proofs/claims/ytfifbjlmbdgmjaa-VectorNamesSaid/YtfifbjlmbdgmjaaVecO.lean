/- Vectors of few numbers, and the chapter's examples. -/
import Derived.Test.YtfifbjlmbdgmjaaVecL
namespace Go.Proofs.Ytfifbjlmbdgmjaa
open Go.RowKit

def padV (xs : List Nat) : List Nat := xs ++ List.replicate (16 - xs.length) 0
theorem padV_length (xs : List Nat) (h : xs.length ≤ 16) : (padV xs).length = 16 := by simp [padV]; omega
theorem vC_list (xs : List Nat) : (vC xs).toList = xs.map fun x : Nat => Value.int .u32 (x : Int) := by simp [vC, intsC]
theorem splice_z (xs : List Nat) (h : xs.length ≤ 16) : splice (vC z16).toList 0 (vC xs).toList = (vC (padV xs)).toList := by
  unfold splice padV
  simp only [vC_list, List.map_append, List.map_replicate, z16, List.drop_replicate, List.length_map, List.take_zero, List.nil_append, Nat.zero_add]
set_option maxRecDepth 20000 in
set_option maxHeartbeats 4000000 in
theorem of_any (A : Option Addr) (n c : Nat) (xs : List Nat) (hn : xs.length = n) (h16 : n ≤ 16) (w : World) (hr : RdC w A (vC xs).toList) :
    Calls Try.prog 34 #[.slice A n c] w fun e w' => e = .returned (.agg (vC (padV xs))) ∧ Below w.heap.size w w' := by
  subst hn
  obtain ⟨Z, hz0, hZs, hZ1, HZ⟩ : ∃ Z : Array Value, (Try.prog.info? 24).bind (fun i => i.zero.map Value.cells) = some Z ∧ Z.size = 16 ∧ (∀ u ∈ Z.toList, u.oneCell' = true) ∧ Hid (Z = vC z16) := ⟨vC z16, zero_vec, by rw [vC_size]; rfl, vC_one z16, rfl⟩
  have hsi : (Try.prog.info? 24).map (·.size) = some Z.size := by rw [hZs]; exact size_vec
  have hpl := padV_length xs h16
  have hsr := vec_size hpl
  have hrs : (vC (padV xs)).size = Z.size := by rw [vC_size, hpl, hZs]
  have h1 := vC_one (padV xs)
  have hsp := splice_z xs h16
  have hg2 : ((w.alloc (.cells Z 24)).alloc (.cells Z 24)).heap[w.heap.size + 1]? = some (.cells Z.toList.toArray 24 (0, 0)) := heap_alloc2_new _ _ _
  have hg3 : ((w.alloc (.cells Z 24)).alloc (.cells Z 24)).heap[w.heap.size]? = some (.cells Z 24 (0, 0)) := heap_alloc2_old _ _ _
  have hb2 : Below w.heap.size w ((w.alloc (.cells Z 24)).alloc (.cells Z 24)) := ((Below.refl _ w).alloc (Nat.le_refl _) _).alloc (by simp) _
  have hr2 : RdC ((w.alloc (.cells Z 24)).alloc (.cells Z 24)) A (vC xs).toList := (hr.alloc _).alloc _
  have hpos : 0 < (vC xs).toList.length → (some (⟨w.heap.size + 1, 0, none⟩ : Addr) = some ⟨w.heap.size + 1, 0, none⟩) ∧ ∃ ad, A = some ad ∧ ∀ j v, (vC xs).toList[j]? = some v → ((w.alloc (.cells Z 24)).alloc (.cells Z 24)).cell? (ad.add j) = some v := fun h => by
    obtain ⟨ad, e, _⟩ := hr2 0 _ (List.getElem?_eq_getElem h)
    refine ⟨rfl, ad, e, fun j v hj => ?_⟩
    obtain ⟨ad', e', hc⟩ := hr2 j v hj
    rw [e] at e'
    cases e'
    exact hc
  have hlen : (vC xs).toList.length = Nat.min xs.length 16 := by simp [vC_size, Nat.min_def]; omega
  have hfit : 0 + (vC xs).toList.length ≤ Z.toList.length := by simp [vC_size, hZs]; omega
  have hone := vC_one xs
  clear hr hr2
  go_enter Try.func34, Try.ntmps34
  go_wp2_with (first
    | (with_reducible refine wpList_alloc_z rfl 24 rfl Z hz0 ?_)
    | (with_reducible refine wpList_copy_splice rfl (.tmp 4) (.tmp 5) 75 75 rfl 22 Try.underlying75 (by kernel_rfl) _ _ 16 16 xs.length c rfl rfl (w.heap.size + 1) 0 Z.toList 24 hg2 (vC xs).toList hlen hpos hfit hone (w.heap.size + 1) _ (Below.refl _ _) (Nat.le_refl _) ?_; intro w2 hw2 hbw; have hp : w2.heap[w.heap.size + 1]? = some (.cells (vC (padV xs)) 24 (0, 0)) := (by have := hw2.out; rw [HZ.out, hsp] at this; simpa using this); have hq := (hbw.block w.heap.size (by omega)).trans hg3)
    | (with_reducible refine wpList_load_row rfl 24 (.tmp 3) rfl _ rfl 24 (vC (padV xs)) _ _ hp Try.underlying24 rfl hsr ?_)
    | (with_reducible refine wpList_store_z rfl 24 (.tmp 2) (.tmp 7) rfl _ rfl (vC (padV xs)) rfl Z _ hq hrs hsr h1 ?_)
    | fail)
  have q1 := setRow_heap _ w.heap.size Z (vC (padV xs)) _ _ hq
  have hbf := below_setRow (hb2.trans (hbw.mono (by omega))) (Nat.le_refl _) (vC (padV xs))
  refine bodyPost_ret (results_cell_row rfl _ _ w.heap.size 24 (vC (padV xs)) (0, 0) _ rfl q1 Try.underlying24 rfl hsr) rfl ⟨rfl, hbf⟩
theorem rd_u32 {w : World} {g : Nat} {t : TypeId} {fr : Nat × Nat} (xs : List Nat) (h : w.heap[g]? = some (.cells (vC xs) t fr)) : RdC w (some ⟨g, 0, none⟩) (vC xs).toList := fun j u hj => by
  refine ⟨_, rfl, ?_⟩
  rw [addr_add_plain, Nat.zero_add, cell_of_row _ _ j _ _ _ h, ← hj]
  simp
theorem below_al {w W : World} (h : Below w.heap.size w W) (o : Obj) : Below w.heap.size w (W.alloc o) := h.alloc h.size o
set_option maxRecDepth 20000 in
set_option maxHeartbeats 4000000 in
theorem alive_any (w : World) : Calls Try.prog 10 #[] w fun e w' => e = .returned (.bool true) ∧ Below w.heap.size w w' := by
  have c1 : cmpV (padV [2, 0, 1]) (padV [2, 3, 1]) = 1 := by decide +kernel
  have c2 : cmpV (padV [1]) (padV [0, 1]) = 3 := by decide +kernel
  have m1 : maxV (padV [2, 0, 1]) (padV [1, 3]) = padV [2, 3, 1] := by decide +kernel
  have m2 : minV (padV [2, 0, 1]) (padV [1, 3]) = padV [1] := by decide +kernel
  have E1 := fun W => run_eq_vec W (padV [2, 3, 1]) (padV [2, 3, 1]) rfl rfl
  have E2 := fun W => run_eq_vec W (padV [1]) (padV [1]) rfl rfl
  simp only [decide_true] at E1 E2
  have kc := fun (w : World) (a b : List Nat) => merge2 a b
  clear kc
  go_enter Try.func10, Try.ntmps10
  have hb0 := Below.refl w.heap.size w
  go_wp2_with fail
  refine (of_any _ 3 3 [2, 0, 1] rfl (by omega) _ (rd_u32 [2, 0, 1] (heap_alloc_new _ _))).mono ?_
  rintro e w1 ⟨rfl, h1⟩
  have hb1 := below_then (below_al hb0 _) h1 (Nat.le_refl _)
  clear h1 hb0
  go_wp2_with fail
  refine (of_any _ 3 3 [2, 3, 1] rfl (by omega) _ (rd_u32 [2, 3, 1] (heap_alloc_new _ _))).mono ?_
  rintro e w2 ⟨rfl, h2⟩
  have hb2 := below_then (below_al hb1 _) h2 (Nat.le_refl _)
  clear h2 hb1
  go_wp2_with fail
  have q := compare_any (padV [2, 0, 1]) (padV [2, 3, 1]) rfl rfl w2
  rw [c1] at q
  refine q.mono ?_
  clear q
  rintro e w3 ⟨rfl, h3⟩
  have hb3 := below_then hb2 h3 (Nat.le_refl _)
  clear h3 hb2
  go_wp2_with fail
  refine (of_any _ 1 1 [1] rfl (by omega) _ (rd_u32 [1] (heap_alloc_new _ _))).mono ?_
  rintro e w4 ⟨rfl, h4⟩
  have hb4 := below_then (below_al hb3 _) h4 (Nat.le_refl _)
  clear h4 hb3
  go_wp2_with fail
  refine (of_any _ 2 2 [0, 1] rfl (by omega) _ (rd_u32 [0, 1] (heap_alloc_new _ _))).mono ?_
  rintro e w5 ⟨rfl, h5⟩
  have hb5 := below_then (below_al hb4 _) h5 (Nat.le_refl _)
  clear h5 hb4
  go_wp2_with fail
  have q := compare_any (padV [1]) (padV [0, 1]) rfl rfl w5
  rw [c2] at q
  refine q.mono ?_
  clear q
  rintro e w6 ⟨rfl, h6⟩
  have hb6 := below_then hb5 h6 (Nat.le_refl _)
  clear h6 hb5
  go_wp2_with fail
  refine (of_any _ 3 3 [2, 0, 1] rfl (by omega) _ (rd_u32 [2, 0, 1] (heap_alloc_new _ _))).mono ?_
  rintro e w7 ⟨rfl, h7⟩
  have hb7 := below_then (below_al hb6 _) h7 (Nat.le_refl _)
  clear h7 hb6
  go_wp2_with fail
  refine (of_any _ 2 2 [1, 3] rfl (by omega) _ (rd_u32 [1, 3] (heap_alloc_new _ _))).mono ?_
  rintro e w8 ⟨rfl, h8⟩
  have hb8 := below_then (below_al hb7 _) h8 (Nat.le_refl _)
  clear h8 hb7
  go_wp2_with (first
    | ((with_reducible refine wpList_vecs2 ?hw _ _ rfl _ rfl (padV [2, 0, 1]) (padV [1, 3]) rfl rfl rfl rfl _ rfl ?_); case hw => rfl)
    | fail)
  have q := merge2 (padV [2, 0, 1]) (padV [1, 3]) rfl rfl _ _ (heap_alloc_new w8 (.cells (vecs [padV [2, 0, 1], padV [1, 3]]).toArray 24))
  rw [m1] at q
  refine q.mono ?_
  clear q
  rintro e w9 ⟨rfl, h9⟩
  have hb9 := below_then (below_al hb8 _) h9 (Nat.le_refl _)
  clear h9 hb8
  go_wp2_with fail
  refine (of_any _ 3 3 [2, 3, 1] rfl (by omega) _ (rd_u32 [2, 3, 1] (heap_alloc_new _ _))).mono ?_
  rintro e w10 ⟨rfl, h10⟩
  have hb10 := below_then (below_al hb9 _) h10 (Nat.le_refl _)
  clear h10 hb9
  go_wp2_with fail
  refine (of_any _ 3 3 [2, 0, 1] rfl (by omega) _ (rd_u32 [2, 0, 1] (heap_alloc_new _ _))).mono ?_
  rintro e w11 ⟨rfl, h11⟩
  have hb11 := below_then (below_al hb10 _) h11 (Nat.le_refl _)
  clear h11 hb10
  go_wp2_with fail
  refine (of_any _ 2 2 [1, 3] rfl (by omega) _ (rd_u32 [1, 3] (heap_alloc_new _ _))).mono ?_
  rintro e w12 ⟨rfl, h12⟩
  have hb12 := below_then (below_al hb11 _) h12 (Nat.le_refl _)
  clear h12 hb11
  go_wp2_with (first
    | ((with_reducible refine wpList_vecs2 ?hw _ _ rfl _ rfl (padV [2, 0, 1]) (padV [1, 3]) rfl rfl rfl rfl _ rfl ?_); case hw => rfl)
    | fail)
  have q := meet2 (padV [2, 0, 1]) (padV [1, 3]) rfl rfl _ _ (heap_alloc_new w12 (.cells (vecs [padV [2, 0, 1], padV [1, 3]]).toArray 24))
  rw [m2] at q
  refine q.mono ?_
  clear q
  rintro e w13 ⟨rfl, h13⟩
  have hb13 := below_then (below_al hb12 _) h13 (Nat.le_refl _)
  clear h13 hb12
  go_wp2_with fail
  refine (of_any _ 1 1 [1] rfl (by omega) _ (rd_u32 [1] (heap_alloc_new _ _))).mono ?_
  rintro e w14 ⟨rfl, h14⟩
  have hb14 := below_then (below_al hb13 _) h14 (Nat.le_refl _)
  clear h14 hb13
  go_wp2_with fail
  go_ret
  exact ⟨rfl, hb14⟩
end Go.Proofs.Ytfifbjlmbdgmjaa
