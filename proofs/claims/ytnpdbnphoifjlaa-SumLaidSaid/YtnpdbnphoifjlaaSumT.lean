/- The table of sums. -/
import Derived.Test.YtnpdbnphoifjlaaSumW
import Derived.Test.YtnpdbnphoifjlaaA
namespace Go.Proofs.Ytnpdbnphoifjlaa
open Go.RowKit

def tabV : Array Value := ((List.range 256).map fun i => Value.int .u32 (rowN i : Int)).toArray
theorem tabV_size : tabV.size = 256 := by simp [tabV]
theorem tabV_one : ∀ u ∈ tabV.toList, u.oneCell' = true := by
  intro u hu
  simp only [tabV, List.mem_map] at hu
  obtain ⟨_, _, rfl⟩ := hu
  rfl
theorem tabV_get (i : Nat) (h : i < 256) : tabV[i]? = some (.int .u32 (rowN i : Int)) := by simp [tabV, h]
/-- The table's first k entries stand. -/
def TabAt (w0 w : World) (g k : Nat) : Prop := ∃ cur : Array Value, w.heap[g]? = some (.cells cur 28 (0, 0)) ∧ cur.size = 256 ∧ (∀ j, j < k → cur[j]? = tabV[j]?) ∧ Below w0.heap.size w0 w

theorem zero256 : (Try.prog.info? 28).bind (fun i => i.zero.map Value.cells) = some (Array.replicate 256 (.int .u32 0)) := by kernel_rfl
theorem TabAt.step {w0 w : World} {g k : Nat} (h : TabAt w0 w g k) (hk : k < 256) (hg : w0.heap.size ≤ g) : TabAt w0 (w.setCell ⟨g, k, none⟩ (.int .u32 (rowN k : Int))) g (k + 1) := by
  obtain ⟨cur, h1, h2, h3, h4⟩ := h
  refine ⟨_, heap_setCell_same w g k cur _ _ h1, by simp [h2], fun j hj => ?_, h4.setCell hg _⟩
  rw [Array.getElem?_setIfInBounds]
  by_cases e : k = j
  · subst e
    rw [if_pos rfl, if_pos (by omega), tabV_get k hk]
  · rw [if_neg e]
    exact h3 j (by omega)
theorem TabAt.full {w0 w : World} {g : Nat} (h : TabAt w0 w g 256) : w.heap[g]? = some (.cells tabV 28 (0, 0)) := by
  obtain ⟨cur, h1, h2, h3, h4⟩ := h
  rw [h1]
  have : cur = tabV := by
    apply Array.ext (by rw [h2, tabV_size])
    intro i hi1 hi2
    have := h3 i (by omega)
    rw [Array.getElem?_eq_getElem hi1, Array.getElem?_eq_getElem hi2] at this
    exact Option.some.inj this
  rw [this]

set_option maxHeartbeats 1000000 in
set_option maxRecDepth 100000 in
theorem table_any (w : World) :
    Calls Try.prog 13 #[] w fun e w' => e = .returned (.agg tabV) ∧ Below w.heap.size w w' := by
  obtain ⟨Z, hZ, hZs⟩ : ∃ Z : Array Value, (Try.prog.info? 28).bind (fun i => i.zero.map Value.cells) = some Z ∧ Z.size = 256 := ⟨_, zero256, by simp⟩
  have hrow : ∀ (n : Nat) (W : World), n < 256 → Calls Try.prog 24 #[.int .u32 n] W fun e w' => e = .returned (.int .u32 (rowN n)) ∧ W = w' := fun n W h => row_any n W (by omega)
  go_enter Try.func13, Try.ntmps13
  go_wp2_with (with_reducible refine wpList_alloc_z rfl 28 rfl Z hZ ?_)
  have hb0 : Below w.heap.size w ((w.alloc (.cells Z 28)).alloc (.cells Z 28)) := ((Below.refl _ _).alloc (Nat.le_refl _) _).alloc (by simp) _
  have hg0 : ((w.alloc (.cells Z 28)).alloc (.cells Z 28)).heap[w.heap.size]? = some (.cells Z 28 (0, 0)) := heap_alloc2_old _ _ _
  have hT0 : TabAt w ((w.alloc (.cells Z 28)).alloc (.cells Z 28)) (w.heap.size + 1) 0 := ⟨Z, heap_alloc2_new _ _ _, hZs, fun j hj => absurd hj (by omega), hb0⟩
  have hZ' := Lib.hid hZs
  clear hZs hZ
  go_loopw [3] (fun i wr => ∃ k : Nat, k ≤ 256 ∧ i = .int .i64 k ∧ TabAt w wr (w.heap.size + 1) k ∧ wr.heap[w.heap.size]? = some (.cells Z 28 (0, 0))) (fun i _ => 256 - (intOf i).toNat)
  case atStart => exact ⟨0, by omega, rfl, hT0, hg0⟩
  case round =>
    obtain ⟨k, hk, rfl, hT, hg⟩ := hrel
    have hT2 := hT
    obtain ⟨cur, h1, h2, h3, h4⟩ := hT2
    by_cases hlt : k < 256
    · obtain ⟨v0, hc⟩ : ∃ v0, wr.cell? ⟨w.heap.size + 1, k, none⟩ = some v0 := ⟨_, by rw [cell_of_row wr _ k cur _ _ h1]; exact Array.getElem?_eq_getElem (by omega)⟩
      have hf : wr.frozen? ⟨w.heap.size + 1, k, none⟩ = false := frozen_of_row wr _ k cur _ h1
      clear h1 h2 h3
      go_wp2_with (go_at_call 24; refine (hrow _ _ hlt).mono ?_; rintro e w' ⟨rfl, rfl⟩)
      go_roundw
      case rel => exact ⟨k + 1, by omega, by go_num, hT.step hlt (by omega), by rw [heap_setCell_other _ _ _ _ (by simp)]; exact hg⟩
      case measure => simp [intOf]; omega
    · obtain rfl : k = 256 := by omega
      have hfull := hT.full
      clear hT h1 h2 h3
      go_wp2_with (first
        | (with_reducible refine wpList_load_row rfl 28 (.tmp 1) rfl _ rfl 28 tabV _ _ hfull Try.underlying28 rfl (by kernel_rfl) ?_)
        | (with_reducible refine wpList_store_z rfl 28 (.tmp 0) (.tmp 12) rfl _ rfl tabV rfl Z _ hg (by rw [tabV_size, hZ'.out]) (by kernel_rfl) tabV_one ?_)
        | fail)
      refine bodyPost_ret (results_cell_row rfl _ _ w.heap.size 28 tabV (0, 0) _ rfl (setRow_heap wr _ Z tabV _ _ hg) Try.underlying28 rfl (by kernel_rfl)) rfl ⟨rfl, below_setRow h4 (Nat.le_refl _) _⟩
end Go.Proofs.Ytnpdbnphoifjlaa
