/- hash.Compare, its world written out: two blocks are laid. -/
import Derived.Test.YtcdnbidenaljlaaDoorMHashNames14
import Derived.Sort.Grow
import Derived.Deep.RegionHeld3
namespace Go.Proofs.YtcdnbidenaljlaaDoor
open Go.RowKit Go.Sort Go.Lib Go.Shelf

set_option maxHeartbeats 1000000 in
theorem compare_grow (a b : List UInt8) (ha : a.length = 32) (hb : b.length = 32) (w : World) :
    Calls Tryd.prog 16 #[.agg (idC a), .agg (idC b)] w fun e w' => e = .returned (.int .i64 (Lib.compareBytes a b)) ∧ ∃ q os', w' = grow (w.drewN q) os' := by
  go_enter Tryd.func16, Tryd.ntmps16
  have hb1 : Below w.heap.size w ((w.alloc (.cells (idC a) 25)).alloc (.cells (idC b) 25)) := ((Below.refl _ w).alloc (Nat.le_refl _) _).alloc (by simp) _
  have hg1 : ((w.alloc (.cells (idC a) 25)).alloc (.cells (idC b) 25)).heap[w.heap.size]? = some (.cells (idC a) 25 (0, 0)) := heap_alloc2_old _ _ _
  have hg2 : ((w.alloc (.cells (idC a) 25)).alloc (.cells (idC b) 25)).heap[w.heap.size + 1]? = some (.cells (idC b) 25 (0, 0)) := heap_alloc2_new _ _ _
  have hsa : (Tryd.prog.info? 25).map (·.size) = some (idC a).size := by rw [idC_size, ha]; exact size_id
  have hsb : (Tryd.prog.info? 25).map (·.size) = some (idC b).size := by rw [idC_size, hb]; exact size_id
  have heq := run_eq_id ((w.alloc (.cells (idC a) 25)).alloc (.cells (idC b) 25)) a b ha hb
  by_cases hab : a = b
  · subst hab
    simp only [decide_true] at heq
    go_wp2_with (first
      | (with_reducible refine wpList_load_row rfl 25 (.tmp 2) rfl _ rfl 25 (idC a) _ _ hg1 Tryd.underlying25 rfl hsa ?_)
      | (with_reducible refine wpList_load_row rfl 25 (.tmp 3) rfl _ rfl 25 (idC a) _ _ hg2 Tryd.underlying25 rfl hsb ?_)
      | fail)
    go_ret
    exact ⟨by rw [cmp_same]; rfl, 0, #[.cells (idC a) 25, .cells (idC a) 25], by rw [alloc_eq_grow, alloc_eq_grow, grow_grow]; rfl⟩
  · simp only [hab, decide_false] at heq
    go_wp2_with (first
      | (with_reducible refine wpList_load_row rfl 25 (.tmp 2) rfl _ rfl 25 (idC a) _ _ hg1 Tryd.underlying25 rfl hsa ?_)
      | (with_reducible refine wpList_load_row rfl 25 (.tmp 3) rfl _ rfl 25 (idC b) _ _ hg2 Tryd.underlying25 rfl hsb ?_)
      | fail)
    obtain ⟨w1, hw1⟩ : ∃ w1, w1 = (w.alloc (.cells (idC a) 25)).alloc (.cells (idC b) 25) := ⟨_, rfl⟩
    rw [← hw1] at hb1 hg1 hg2 ⊢
    have HW1 := Lib.hid hw1
    clear hw1 heq
    have q : ∀ W, Below w1.heap.size w1 W → Calls Tryd.prog 30 #[.slice (some ⟨w.heap.size, 0, none⟩) 32 32, .slice (some ⟨w.heap.size + 1, 0, none⟩) 32 32] W fun e w' => e = .returned (.int .i64 (Lib.compareBytes a b)) ∧ W = w' := fun W hW =>
      bcompare_any _ _ 32 32 32 32 a b ha hb W ((rd_id hg1).below hW) ((rd_id hg2).below hW)
    go_region_held3 (fun W => Below w1.heap.size w1 W) ((repeat first | exact Below.refl _ _ | assumption | apply Below.drew)) (first
      | (go_at_call 30; (with_reducible refine (q _ ?_).mono ?_); (repeat first | exact Below.refl _ _ | assumption | apply Below.drew); rintro e w' ⟨rfl, rfl⟩)
      | fail)
    all_goals
      go_wp2
      go_ret
      exact ⟨rfl, 1, #[.cells (idC a) 25, .cells (idC b) 25], by rw [HW1.out, alloc_eq_grow, alloc_eq_grow, grow_grow]; rfl⟩
end Go.Proofs.YtcdnbidenaljlaaDoor
