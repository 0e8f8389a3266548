/- Vectors: what one lacks of another, and the reference's AtMost; vectors of few numbers. -/
import Derived.Test.YtfifbjlmbdgmjaaVecA
namespace Go.Proofs.Ytfifbjlmbdgmjaa
open Go.RowKit

theorem below_drN {B : Nat} {a w : World} (h : Below B a w) (n : Nat) : Below B a (w.drewN n) := h.trans ⟨rfl, rfl, rfl, Nat.le_refl _, fun _ _ => rfl⟩
def small (l : List Nat) : Prop := ∀ x ∈ l, x < 4294967296
def lackK (a b : List Nat) (k : Nat) : Nat := ((List.zipWith (fun x y => max x y - x) a b).take k).sum
def lackV (a b : List Nat) : Nat := lackK a b 16
theorem lackK_step (a b : List Nat) (k : Nat) (ha : k < a.length) (hb : k < b.length) : lackK a b (k + 1) = lackK a b k + (max a[k] b[k] - a[k]) := by
  unfold lackK
  rw [List.take_succ_eq_append_getElem (by simp; omega), List.sum_append, List.getElem_zipWith]
  simp
theorem lackK_le (a b : List Nat) (hb : small b) (k : Nat) (hk : k ≤ a.length) (hk2 : k ≤ b.length) : lackK a b k ≤ k * 4294967296 := by
  induction k with
  | zero => simp [lackK]
  | succ k ih =>
    rw [lackK_step a b k (by omega) (by omega)]
    have h1 := ih (by omega) (by omega)
    have h2 := hb b[k] (List.getElem_mem _)
    omega
set_option maxRecDepth 20000 in
set_option maxHeartbeats 4000000 in
theorem lacks_any (a b : List Nat) (ha : a.length = 16) (hb : b.length = 16) (sa : small a) (sb : small b) (w : World) :
    Calls Try.prog 15 #[.agg (vC a), .agg (vC b)] w fun e w' => e = .returned (.int .u64 ((lackV a b : Nat) : Int)) ∧ Below w.heap.size w w' := by
  have hg1 : ((w.alloc (.cells (vC a) 24)).alloc (.cells (vC b) 24)).heap[w.heap.size]? = some (.cells (vC a) 24 (0, 0)) := heap_alloc2_old _ _ _
  have hg2 : ((w.alloc (.cells (vC a) 24)).alloc (.cells (vC b) 24)).heap[w.heap.size + 1]? = some (.cells (vC b) 24 (0, 0)) := heap_alloc2_new _ _ _
  have hb2 : Below w.heap.size w ((w.alloc (.cells (vC a) 24)).alloc (.cells (vC b) 24)) := ((Below.refl _ w).alloc (Nat.le_refl _) _).alloc (by simp) _
  go_enter Try.func15, Try.ntmps15
  go_wp2_with fail
  obtain ⟨w1, hw1⟩ : ∃ w1, w1 = (w.alloc (.cells (vC a) 24)).alloc (.cells (vC b) 24) := ⟨_, rfl⟩
  rw [← hw1] at hb2 hg1 hg2 ⊢
  clear hw1
  go_loopw [5, 7] (fun s i wr => ∃ k : Nat, k ≤ 16 ∧ i = .int .i64 k ∧ s = .int .u64 ((lackK a b k : Nat) : Int) ∧ Below w1.heap.size w1 wr) (fun _ i _ => 16 - (intOf i).toNat)
  case atStart => exact ⟨0, by omega, rfl, rfl, Below.refl _ _⟩
  case round =>
    obtain ⟨k, hk, rfl, rfl, hbr⟩ := hrel
    by_cases hlt : k < 16
    · have ka : k < a.length := by omega
      have kb : k < b.length := by omega
      have cA : wr.cell? ⟨w.heap.size, k, none⟩ = some (.int .u32 (a[k] : Int)) := by
        rw [(hbr.cell (p := ⟨w.heap.size, k, none⟩) (lt_of_get hg1)), cell_of_row _ _ _ _ _ _ hg1, vC_get _ _ ka]
      have cB : wr.cell? ⟨w.heap.size + 1, k, none⟩ = some (.int .u32 (b[k] : Int)) := by
        rw [(hbr.cell (p := ⟨w.heap.size + 1, k, none⟩) (lt_of_get hg2)), cell_of_row _ _ _ _ _ _ hg2, vC_get _ _ kb]
      have hst := lackK_step a b k ka kb
      have hle := lackK_le a b sb k (by omega) (by omega)
      have l1 := sa a[k] (List.getElem_mem _)
      have l2 := sb b[k] (List.getElem_mem _)
      generalize a[k] = x at *
      generalize b[k] = y at *
      have hm : (if x < y then (y : Int) else (x : Int)) = ((max x y : Nat) : Int) := by split <;> omega
      have hm2 : max x y < 4294967296 := by omega
      have hm3 : x ≤ max x y := by omega
      generalize max x y = m at *
      generalize lackK a b k = n at *
      go_wp2_with fail
      go_quiet (fail)
      go_wp2_with fail
      go_roundw
      case rel => exact ⟨k + 1, by omega, by go_num, by rw [hst]; go_num, below_drN hbr _⟩
      case measure => simp [intOf]; omega
    · obtain rfl : k = 16 := by omega
      go_wp2_with fail
      go_ret
      exact ⟨rfl, below_then hb2 hbr (Nat.le_refl _)⟩
theorem maxV_eq_iff (a b : List Nat) (ha : a.length = 16) (hb : b.length = 16) : maxV a b = b ↔ ∀ k (h : k < 16), a[k] ≤ b[k] := by
  constructor
  · intro h k hk
    have h1 : (maxV a b)[k]? = b[k]? := by rw [h]
    unfold maxV at h1
    rw [List.getElem?_zipWith, List.getElem?_eq_getElem (by omega), List.getElem?_eq_getElem (by omega)] at h1
    simp at h1
    omega
  · intro h
    unfold maxV
    apply List.ext_getElem (by simp [ha, hb])
    intro k h1 h2
    rw [List.getElem_zipWith]
    have := h k (by omega)
    omega
set_option maxRecDepth 20000 in
set_option maxHeartbeats 4000000 in
theorem ratmost_any (a b : List Nat) (ha : a.length = 16) (hb : b.length = 16) (w : World) :
    Calls Try.prog 16 #[.agg (vC a), .agg (vC b)] w fun e w' => e = .returned (.bool (decide (maxV a b = b))) ∧ Below w.heap.size w w' := by
  obtain ⟨d, HD⟩ : ∃ d, Hid (decide (maxV a b = b) = d) := ⟨_, rfl⟩
  rw [HD.out]
  have hg1 : ((w.alloc (.cells (vC a) 24)).alloc (.cells (vC b) 24)).heap[w.heap.size]? = some (.cells (vC a) 24 (0, 0)) := heap_alloc2_old _ _ _
  have hg2 : ((w.alloc (.cells (vC a) 24)).alloc (.cells (vC b) 24)).heap[w.heap.size + 1]? = some (.cells (vC b) 24 (0, 0)) := heap_alloc2_new _ _ _
  have hb2 : Below w.heap.size w ((w.alloc (.cells (vC a) 24)).alloc (.cells (vC b) 24)) := ((Below.refl _ w).alloc (Nat.le_refl _) _).alloc (by simp) _
  go_enter Try.func16, Try.ntmps16
  go_wp2_with fail
  obtain ⟨w1, hw1⟩ : ∃ w1, w1 = (w.alloc (.cells (vC a) 24)).alloc (.cells (vC b) 24) := ⟨_, rfl⟩
  rw [← hw1] at hb2 hg1 hg2 ⊢
  clear hw1
  go_loopw [5] (fun i wr => ∃ k : Nat, k ≤ 16 ∧ i = .int .i64 k ∧ (∀ j (h : j < 16), j < k → a[j] ≤ b[j]) ∧ Below w1.heap.size w1 wr) (fun i _ => 16 - (intOf i).toNat)
  case atStart => exact ⟨0, by omega, rfl, fun j _ h => by omega, Below.refl _ _⟩
  case round =>
    obtain ⟨k, hk, rfl, hall, hbr⟩ := hrel
    by_cases hlt : k < 16
    · have ka : k < a.length := by omega
      have kb : k < b.length := by omega
      have cA : wr.cell? ⟨w.heap.size, k, none⟩ = some (.int .u32 (a[k] : Int)) := by
        rw [(hbr.cell (p := ⟨w.heap.size, k, none⟩) (lt_of_get hg1)), cell_of_row _ _ _ _ _ _ hg1, vC_get _ _ ka]
      have cB : wr.cell? ⟨w.heap.size + 1, k, none⟩ = some (.int .u32 (b[k] : Int)) := by
        rw [(hbr.cell (p := ⟨w.heap.size + 1, k, none⟩) (lt_of_get hg2)), cell_of_row _ _ _ _ _ _ hg2, vC_get _ _ kb]
      have hno : b[k] < a[k] → d = false := fun h => by
        rw [← HD.out]
        refine decide_eq_false fun he => ?_
        have := (maxV_eq_iff a b ha hb).1 he k hlt
        omega
      have hys : ¬ b[k] < a[k] → ∀ j (h : j < 16), j < k + 1 → a[j] ≤ b[j] := fun h j hj hjk => by
        by_cases e : j = k
        · subst e; omega
        · exact hall j hj (by omega)
      clear hall
      generalize a[k] = x at *
      generalize b[k] = y at *
      by_cases hxy : y < x
      · have hd := hno hxy
        clear hno hys
        subst hd
        go_wp2_with fail
        go_quiet (fail)
        go_wp2_with fail
        go_ret
        exact ⟨rfl, below_then hb2 (below_drN hbr _) (Nat.le_refl _)⟩
      · have hall2 := hys hxy
        clear hno hys
        go_wp2_with fail
        go_quiet (fail)
        go_wp2_with fail
        go_roundw
        case rel => exact ⟨k + 1, by omega, by go_num, hall2, below_drN hbr _⟩
        case measure => simp [intOf]; omega
    · obtain rfl : k = 16 := by omega
      have hd : d = true := by
        rw [← HD.out]
        exact decide_eq_true ((maxV_eq_iff a b ha hb).2 fun j hj => hall j hj hj)
      subst hd
      go_wp2_with fail
      go_ret
      exact ⟨rfl, below_then hb2 hbr (Nat.le_refl _)⟩
end Go.Proofs.Ytfifbjlmbdgmjaa
