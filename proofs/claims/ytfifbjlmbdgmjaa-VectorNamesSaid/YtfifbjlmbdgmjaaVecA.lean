/- Vectors: one at most another, how one stands to another. -/
import Derived.Test.YtfifbjlmbdgmjaaVecGa
namespace Go.Proofs.Ytfifbjlmbdgmjaa
open Go.RowKit

theorem atmost_any (a b : List Nat) (ha : a.length = 16) (hb : b.length = 16) (w : World) :
    Calls Try.prog 13 #[.agg (vC a), .agg (vC b)] w fun e w' => e = .returned (.bool (decide (maxV a b = b))) ∧ Below w.heap.size w w' := by
  have hg1 : ((w.alloc (.cells (vC a) 24)).alloc (.cells (vC b) 24)).heap[w.heap.size]? = some (.cells (vC a) 24 (0, 0)) := heap_alloc2_old _ _ _
  have hg2 : ((w.alloc (.cells (vC a) 24)).alloc (.cells (vC b) 24)).heap[w.heap.size + 1]? = some (.cells (vC b) 24 (0, 0)) := heap_alloc2_new _ _ _
  have hb2 : Below w.heap.size w ((w.alloc (.cells (vC a) 24)).alloc (.cells (vC b) 24)) := ((Below.refl _ w).alloc (Nat.le_refl _) _).alloc (by simp) _
  go_enter Try.func13, Try.ntmps13
  go_wp2_with fail
  obtain ⟨w1, hw1⟩ : ∃ w1, w1 = (w.alloc (.cells (vC a) 24)).alloc (.cells (vC b) 24) := ⟨_, rfl⟩
  rw [← hw1] at hb2 hg1 hg2 ⊢
  clear hw1
  have hup : ∀ W g o, Below w1.heap.size w1 W → w1.heap[g]? = some o → W.heap[g]? = some o := fun W g o h hg => (h.block _ (lt_of_get hg)).trans hg
  refine atmostG a b (maxV a b) w.heap.size (w.heap.size + 1) (decide (maxV a b = b)) w1 ha hb (maxV_length ha hb) rfl rfl (fun W h => hup W _ _ h hg1) (fun W h => hup W _ _ h hg2) fun wz rz hbz => ?_
  go_wp2_with fail
  go_ret
  exact ⟨rfl, below_then hb2 hbz (Nat.le_refl _)⟩
def cmpB (d1 d2 d3 : Bool) : Int := bif d1 then 0 else bif d2 then 1 else bif d3 then 2 else 3
def cmpV (a b : List Nat) : Int := if a = b then 0 else if maxV a b = b then 1 else if maxV a b = a then 2 else 3
set_option maxRecDepth 20000 in
set_option maxHeartbeats 4000000 in
theorem compare_any (a b : List Nat) (ha : a.length = 16) (hb : b.length = 16) (w : World) :
    Calls Try.prog 14 #[.agg (vC a), .agg (vC b)] w fun e w' => e = .returned (.int .i64 (cmpV a b)) ∧ Below w.heap.size w w' := by
  obtain ⟨Z, hz0, hZs⟩ : ∃ Z : Array Value, (Try.prog.info? 24).bind (fun i => i.zero.map Value.cells) = some Z ∧ Z.size = 16 := ⟨vC z16, zero_vec, by rw [vC_size]; rfl⟩
  have hg1 : ((w.alloc (.cells (vC a) 24)).alloc (.cells (vC b) 24)).heap[w.heap.size]? = some (.cells (vC a) 24 (0, 0)) := heap_alloc2_old _ _ _
  have hg2 : ((w.alloc (.cells (vC a) 24)).alloc (.cells (vC b) 24)).heap[w.heap.size + 1]? = some (.cells (vC b) 24 (0, 0)) := heap_alloc2_new _ _ _
  have hb2 : Below w.heap.size w ((w.alloc (.cells (vC a) 24)).alloc (.cells (vC b) 24)) := ((Below.refl _ w).alloc (Nat.le_refl _) _).alloc (by simp) _
  have za := vec_size ha
  have zb := vec_size hb
  have hml := maxV_length ha hb
  have zm := vec_size hml
  have hms : (vC (maxV a b)).size = Z.size := by rw [vC_size, hml, hZs]
  have hm1 := vC_one (maxV a b)
  have E1 := fun W => run_eq_vec W a b ha hb
  have E2 := fun W => run_eq_vec W (maxV a b) b hml hb
  have E3 := fun W => run_eq_vec W (maxV a b) a hml ha
  obtain ⟨c, HC⟩ : ∃ c : Int, Hid (cmpV a b = c) := ⟨_, rfl⟩
  rw [HC.out]
  unfold cmpV at HC
  go_enter Try.func14, Try.ntmps14
  go_wp2_with (first
    | (with_reducible refine wpList_load_row rfl 24 (.tmp 2) rfl _ rfl 24 (vC a) _ _ hg1 Try.underlying24 rfl za ?_)
    | (with_reducible refine wpList_load_row rfl 24 (.tmp 3) rfl _ rfl 24 (vC b) _ _ hg2 Try.underlying24 rfl zb ?_)
    | ((with_reducible refine wpList_vecs2 ?hw _ _ rfl _ rfl a b ha hb rfl rfl _ rfl ?_); case hw => rfl)
    | fail)
  have hb3 : Below w.heap.size w (((w.alloc (.cells (vC a) 24)).alloc (.cells (vC b) 24)).alloc (.cells (vecs [a, b]).toArray 24)) := hb2.alloc (by simp; omega) _
  have g3 : (((w.alloc (.cells (vC a) 24)).alloc (.cells (vC b) 24)).alloc (.cells (vecs [a, b]).toArray 24)).heap[w.heap.size + 1 + 1]? = some (.cells (vecs [a, b]).toArray 24 (0, 0)) := by
    have := heap_alloc_new ((w.alloc (.cells (vC a) 24)).alloc (.cells (vC b) 24)) (.cells (vecs [a, b]).toArray 24)
    simpa using this
  replace hg1 := (((Below.refl _ ((w.alloc (.cells (vC a) 24)).alloc (.cells (vC b) 24))).alloc (Nat.le_refl _) (.cells (vecs [a, b]).toArray 24)).block _ (lt_of_get hg1)).trans hg1
  replace hg2 := (((Below.refl _ ((w.alloc (.cells (vC a) 24)).alloc (.cells (vC b) 24))).alloc (Nat.le_refl _) (.cells (vecs [a, b]).toArray 24)).block _ (lt_of_get hg2)).trans hg2
  obtain ⟨w3, hw3⟩ : ∃ w3, w3 = ((w.alloc (.cells (vC a) 24)).alloc (.cells (vC b) 24)).alloc (.cells (vecs [a, b]).toArray 24) := ⟨_, rfl⟩
  rw [← hw3] at hb3 g3 hg1 hg2 ⊢
  clear hw3 hb2
  refine (merge2 a b ha hb w3 _ g3).mono ?_
  rintro e w4 ⟨rfl, h4⟩
  replace hg1 := (h4.block _ (lt_of_get hg1)).trans hg1
  replace hg2 := (h4.block _ (lt_of_get hg2)).trans hg2
  have q0 : (w4.alloc (.cells Z 24)).heap[w4.heap.size]? = some (.cells Z 24 (0, 0)) := heap_alloc_new _ _
  have hb5 : Below w4.heap.size w4 ((w4.alloc (.cells Z 24)).setRow w4.heap.size (vC (maxV a b))) := below_setRow ((Below.refl _ w4).alloc (Nat.le_refl _) _) (Nat.le_refl _) _
  have q3 := setRow_heap _ w4.heap.size Z (vC (maxV a b)) _ _ q0
  have p1 := (hb5.block _ (lt_of_get hg1)).trans hg1
  have p2 := (hb5.block _ (lt_of_get hg2)).trans hg2
  have hbe := below_then (below_then hb3 h4 (Nat.le_refl _)) hb5 (Nat.le_refl _)
  clear hg1 hg2 hb3 h4 g3 hb5
  generalize hm : maxV a b = m at *
  clear hm
  have hres : (if a = b then 0 else if m = b then 1 else if m = a then 2 else 3) = cmpB (decide (a = b)) (decide (m = b)) (decide (m = a)) := by
    unfold cmpB
    by_cases c1 : a = b <;> by_cases c2 : m = b <;> by_cases c3 : m = a <;> simp [c1, c2, c3]
  rw [hres] at HC
  clear hres
  generalize decide (a = b) = d1 at *
  generalize decide (m = b) = d2 at *
  generalize decide (m = a) = d3 at *
  cases d1 <;> cases d2 <;> cases d3
  all_goals
    go_wp2_with (first
      | (with_reducible refine wpList_load_row rfl 24 (.tmp 2) rfl _ rfl 24 (vC a) _ _ p1 Try.underlying24 rfl za ?_)
      | (with_reducible refine wpList_load_row rfl 24 (.tmp 3) rfl _ rfl 24 (vC b) _ _ p2 Try.underlying24 rfl zb ?_)
      | (with_reducible refine wpList_load_row rfl 24 (.tmp 5) rfl _ rfl 24 (vC m) _ _ q3 Try.underlying24 rfl zm ?_)
      | (with_reducible refine wpList_alloc_z rfl 24 rfl Z hz0 ?_)
      | (with_reducible refine wpList_store_z rfl 24 (.tmp 5) (.tmp 9) rfl _ rfl (vC m) rfl Z _ q0 hms zm hm1 ?_)
      | fail)
    go_ret
    exact ⟨by rw [← HC.out]; rfl, hbe⟩
end Go.Proofs.Ytfifbjlmbdgmjaa
