/- Vectors: the reference's Next, Has, Compare, Lacks. -/
import Derived.Test.YtfifbjlmbdgmjaaVecU
namespace Go.Proofs.Ytfifbjlmbdgmjaa
open Go.RowKit

theorem rcompare_any (a b : List Nat) (ha : a.length = 16) (hb : b.length = 16) (w : World) :
    Calls Try.prog 25 #[.agg (vC a), .agg (vC b)] w fun e w' => e = .returned (.int .i64 (cmpV a b)) ∧ Below w.heap.size w w' := by
  have hup : ∀ (w0 W : World) g o, Below w0.heap.size w0 W → w0.heap[g]? = some o → W.heap[g]? = some o := fun w0 W g o h hg => (h.block _ (lt_of_get hg)).trans hg
  have g1 : ((w.alloc (.cells (vC a) 24)).alloc (.cells (vC b) 24)).heap[w.heap.size]? = some (.cells (vC a) 24 (0, 0)) := heap_alloc2_old _ _ _
  have g2 : ((w.alloc (.cells (vC a) 24)).alloc (.cells (vC b) 24)).heap[w.heap.size + 1]? = some (.cells (vC b) 24 (0, 0)) := heap_alloc2_new _ _ _
  have hb0 : Below w.heap.size w ((w.alloc (.cells (vC a) 24)).alloc (.cells (vC b) 24)) := ((Below.refl _ w).alloc (Nat.le_refl _) _).alloc (by simp) _
  have za := vec_size ha
  have zb := vec_size hb
  have hm := maxV_comm ha hb
  have q1 := ratmost_any a b ha hb
  have q2 := ratmost_any b a hb ha
  obtain ⟨x, hx⟩ : ∃ x, decide (maxV a b = b) = x := ⟨_, rfl⟩
  obtain ⟨y, hy⟩ : ∃ y, decide (maxV b a = a) = y := ⟨_, rfl⟩
  rw [hx] at q1
  rw [hy] at q2
  obtain ⟨r, HR⟩ : ∃ r : Int, Hid (cmpV a b = r ∧ r = bif x && y then 0 else bif x then 1 else bif y then 2 else 3) := ⟨_, rfl, by
    rw [← hx, ← hy, hm]
    unfold cmpV
    by_cases e : a = b
    · subst e
      have e1 : maxV a a = a := zw_self max Nat.max_self a
      simp [e1]
    · by_cases e2 : maxV a b = b
      · have e3 : ¬ maxV a b = a := fun h => e (stand_anti e2 h)
        rw [if_neg e, if_pos e2, decide_eq_true e2, decide_eq_false e3]
        rfl
      · by_cases e3 : maxV a b = a
        · rw [if_neg e, if_neg e2, if_pos e3, decide_eq_false e2, decide_eq_true e3]; rfl
        · rw [if_neg e, if_neg e2, if_neg e3, decide_eq_false e2, decide_eq_false e3]; rfl⟩
  rw [HR.out.1]
  have hr := HR.out.2
  clear HR hx hy hm
  cases x <;> cases y <;> simp only [Bool.and_true, Bool.and_false, cond_true, cond_false] at hr
  all_goals
    subst hr
    go_enter Try.func25, Try.ntmps25
    go_wp2_with (first
      | (with_reducible refine wpList_load_row rfl 24 (.tmp 2) rfl _ rfl 24 (vC a) _ _ g1 Try.underlying24 rfl za ?_)
      | (with_reducible refine wpList_load_row rfl 24 (.tmp 3) rfl _ rfl 24 (vC b) _ _ g2 Try.underlying24 rfl zb ?_)
      | fail)
    refine (q1 _).mono ?_
    rintro e w2 ⟨rfl, h2⟩
    replace g1 := hup _ _ _ _ h2 g1
    replace g2 := hup _ _ _ _ h2 g2
    replace hb0 := below_then hb0 h2 (Nat.le_refl _)
    clear h2
    go_wp2_with (first
      | (with_reducible refine wpList_load_row rfl 24 (.tmp 2) rfl _ rfl 24 (vC a) _ _ g1 Try.underlying24 rfl za ?_)
      | (with_reducible refine wpList_load_row rfl 24 (.tmp 3) rfl _ rfl 24 (vC b) _ _ g2 Try.underlying24 rfl zb ?_)
      | fail)
    refine (q2 w2).mono ?_
    rintro e w3 ⟨rfl, h3⟩
    replace hb0 := below_then hb0 h3 (Nat.le_refl _)
    clear h3
    go_wp2_with fail
    go_ret
    exact ⟨rfl, hb0⟩
set_option maxRecDepth 20000 in
set_option maxHeartbeats 4000000 in
theorem rlacks_any (a b : List Nat) (ha : a.length = 16) (hb : b.length = 16) (sa : small a) (sb : small b) (w : World) :
    Calls Try.prog 26 #[.agg (vC a), .agg (vC b)] w fun e w' => e = .returned (.int .u64 ((lackV a b : Nat) : Int)) ∧ Below w.heap.size w w' := by
  have hg1 : ((w.alloc (.cells (vC a) 24)).alloc (.cells (vC b) 24)).heap[w.heap.size]? = some (.cells (vC a) 24 (0, 0)) := heap_alloc2_old _ _ _
  have hg2 : ((w.alloc (.cells (vC a) 24)).alloc (.cells (vC b) 24)).heap[w.heap.size + 1]? = some (.cells (vC b) 24 (0, 0)) := heap_alloc2_new _ _ _
  have hb2 : Below w.heap.size w ((w.alloc (.cells (vC a) 24)).alloc (.cells (vC b) 24)) := ((Below.refl _ w).alloc (Nat.le_refl _) _).alloc (by simp) _
  go_enter Try.func26, Try.ntmps26
  go_wp2_with fail
  obtain ⟨w1, hw1⟩ : ∃ w1, w1 = (w.alloc (.cells (vC a) 24)).alloc (.cells (vC b) 24) := ⟨_, rfl⟩
  rw [← hw1] at hb2 hg1 hg2 ⊢
  clear hw1
  go_loopw [5, 6] (fun s i wr => ∃ k : Nat, k ≤ 16 ∧ i = .int .i64 k ∧ s = .int .u64 ((lackK a b k : Nat) : Int) ∧ Below w1.heap.size w1 wr) (fun _ i _ => 16 - (intOf i).toNat)
  case atStart => exact ⟨0, by omega, rfl, rfl, Below.refl _ _⟩
  case round =>
    obtain ⟨k, hk, rfl, rfl, hbr⟩ := hrel
    by_cases hlt : k < 16
    · have ka : k < a.length := by omega
      have kb : k < b.length := by omega
      have cA : wr.cell? ⟨w.heap.size, k, none⟩ = some (.int .u32 (a[k] : Int)) := by
        rw [(hbr.cell (p := ⟨w.heap.size, k, none⟩) (lt_of_get hg1)), cell_of_row _ _ _ _ _ _ hg1, vC_get _ _ ka]
      have cB : wr.cell? ⟨w.heap.size + 1, k, none⟩ = some (.int .u32 (b[k] : Int)) := by
        rw [(hbr.cell (p := ⟨w.heap.size + 1, k, none⟩) (lt_of_get hg2)), cell_of_row _ _ _ _ _ _ hg2, vC_get _ _ kb]
      have hst := lackK_step a b k ka kb
      have hle := lackK_le a b sb k (by omega) (by omega)
      have l1 := sa a[k] (List.getElem_mem _)
      have l2 := sb b[k] (List.getElem_mem _)
      generalize a[k] = x at *
      generalize b[k] = y at *
      by_cases hxy : x < y
      · have hm : max x y - x = y - x := by omega
        rw [hm] at hst
        generalize lackK a b k = n at *
        go_wp2_with fail
        go_quiet (fail)
        go_wp2_with fail
        go_quiet (fail)
        go_wp2_with fail
        go_roundw
        case rel => exact ⟨k + 1, by omega, by go_num, by rw [hst]; go_num, below_drN hbr _⟩
        case measure => simp [intOf]; omega
      · have hm : max x y - x = 0 := by omega
        rw [hm, Nat.add_zero] at hst
        generalize lackK a b k = n at *
        go_wp2_with fail
        go_quiet (fail)
        go_wp2_with fail
        go_roundw
        case rel => exact ⟨k + 1, by omega, by go_num, by rw [hst]; rfl, below_drN hbr _⟩
        case measure => simp [intOf]; omega
    · obtain rfl : k = 16 := by omega
      go_wp2_with fail
      go_ret
      exact ⟨rfl, below_then hb2 hbr (Nat.le_refl _)⟩
set_option maxRecDepth 20000 in
set_option maxHeartbeats 4000000 in
theorem rnext_any (v : List Nat) (hv : v.length = 16) (sv : small v) (s : Int) (w : World) : Calls Try.prog 20 #[.agg (vC v), .int .i64 s] w fun e w' => e = .returned (.tuple #[.agg (dC (nextS v s) (nextC v s)), .int .i64 (nextE v s)]) ∧ Below w.heap.size w w' := by
  have hb2 : ∀ (O1 O2 : Obj), Below w.heap.size w ((w.alloc O1).alloc O2) := fun O1 O2 => ((Below.refl _ w).alloc (Nat.le_refl _) _).alloc (by simp) _
  by_cases h1 : s < 0
  · have e1 : nextS v s = 0 := by unfold nextS; rw [if_neg (by omega)]
    have e2 : nextC v s = 0 := by unfold nextC; rw [if_neg (by omega)]
    have e3 : nextE v s = 50 := by unfold nextE; rw [if_neg (by omega)]
    rw [e1, e2, e3]
    go_enter Try.func20, Try.ntmps20
    go_wp2_with fail
    have hg : ((w.alloc (.cells (vC v) 24)).alloc (.cells #[.int .i64 0, .int .i64 0] 35)).heap[w.heap.size + 1]? = some (.cells #[.int .i64 0, .int .i64 0] 35 (0, 0)) := heap_alloc2_new _ _ _
    refine bodyPost_ret (results_cell_tmp rfl _ _ (w.heap.size + 1) 35 #[.int .i64 0, .int .i64 0] (0, 0) _ rfl hg Try.underlying35 rfl size_dot) rfl ⟨rfl, hb2 _ _⟩
  by_cases h2 : 16 ≤ s
  · have e1 : nextS v s = 0 := by unfold nextS; rw [if_neg (by omega)]
    have e2 : nextC v s = 0 := by unfold nextC; rw [if_neg (by omega)]
    have e3 : nextE v s = 50 := by unfold nextE; rw [if_neg (by omega)]
    rw [e1, e2, e3]
    go_enter Try.func20, Try.ntmps20
    go_wp2_with fail
    have hg : ((w.alloc (.cells (vC v) 24)).alloc (.cells #[.int .i64 0, .int .i64 0] 35)).heap[w.heap.size + 1]? = some (.cells #[.int .i64 0, .int .i64 0] 35 (0, 0)) := heap_alloc2_new _ _ _
    refine bodyPost_ret (results_cell_tmp rfl _ _ (w.heap.size + 1) 35 #[.int .i64 0, .int .i64 0] (0, 0) _ rfl hg Try.underlying35 rfl size_dot) rfl ⟨rfl, hb2 _ _⟩
  obtain ⟨k, rfl⟩ : ∃ k : Nat, s = (k : Int) := ⟨s.toNat, by omega⟩
  have hk : k < v.length := by omega
  have hg1 : ((w.alloc (.cells (vC v) 24)).alloc (.cells #[.int .i64 0, .int .i64 0] 35)).heap[w.heap.size]? = some (.cells (vC v) 24 (0, 0)) := heap_alloc2_old _ _ _
  have cA : ((w.alloc (.cells (vC v) 24)).alloc (.cells #[.int .i64 0, .int .i64 0] 35)).cell? ⟨w.heap.size, k, none⟩ = some (.int .u32 (v[k] : Int)) := by
    rw [cell_of_row _ _ _ _ _ _ hg1, vC_get _ _ hk]
  have hx := sv v[k] (List.getElem_mem _)
  have hgd : v.getD k 0 = v[k] := by rw [List.getD_eq_getElem?_getD, List.getElem?_eq_getElem hk]; rfl
  by_cases h3 : v[k] = 4294967295
  · have e1 : nextS v k = 0 := by unfold nextS; rw [if_neg (by simp only [Int.toNat_natCast, hgd]; omega)]
    have e2 : nextC v k = 0 := by unfold nextC; rw [if_neg (by simp only [Int.toNat_natCast, hgd]; omega)]
    have e3 : nextE v k = 60 := by unfold nextE; rw [if_pos (by omega), if_pos (by simp only [Int.toNat_natCast, hgd]; exact h3)]
    rw [e1, e2, e3]
    rw [h3] at cA
    clear hx hgd h3
    go_enter Try.func20, Try.ntmps20
    go_wp2_with fail
    have hg : ((w.alloc (.cells (vC v) 24)).alloc (.cells #[.int .i64 0, .int .i64 0] 35)).heap[w.heap.size + 1]? = some (.cells #[.int .i64 0, .int .i64 0] 35 (0, 0)) := heap_alloc2_new _ _ _
    refine bodyPost_ret (results_cell_tmp rfl _ _ (w.heap.size + 1) 35 #[.int .i64 0, .int .i64 0] (0, 0) _ rfl hg Try.underlying35 rfl size_dot) rfl ⟨rfl, hb2 _ _⟩
  · have e1 : nextS v k = k := by unfold nextS; rw [if_pos (by simp only [Int.toNat_natCast, hgd]; omega)]
    have e2 : nextC v k = (v[k] : Int) + 1 := by unfold nextC; rw [if_pos (by simp only [Int.toNat_natCast, hgd]; omega)]; simp only [Int.toNat_natCast, hgd]
    have e3 : nextE v k = 0 := by unfold nextE; rw [if_pos (by omega), if_neg (by simp only [Int.toNat_natCast, hgd]; exact h3)]
    rw [e1, e2, e3]
    clear hgd
    generalize v[k] = x at *
    have hne : ((x : Int) == 4294967295) = false := by simp; omega
    go_enter Try.func20, Try.ntmps20
    go_wp2_with fail
    have hg : ((w.alloc (.cells (vC v) 24)).alloc (.cells #[.int .i64 (k : Int), .int .i64 ((x : Int) + 1)] 35)).heap[w.heap.size + 1]? = some (.cells #[.int .i64 (k : Int), .int .i64 ((x : Int) + 1)] 35 (0, 0)) := heap_alloc2_new _ _ _
    refine bodyPost_ret (results_cell_tmp rfl _ _ (w.heap.size + 1) 35 #[.int .i64 (k : Int), .int .i64 ((x : Int) + 1)] (0, 0) _ rfl hg Try.underlying35 rfl size_dot) rfl ⟨rfl, hb2 _ _⟩
theorem rhas_any (v : List Nat) (hv : v.length = 16) (sv : small v) (s c : Int) (w : World) :
    Calls Try.prog 24 #[.agg (vC v), .agg (dC s c)] w fun e w' => e = .returned (.bool (hasV v s c)) ∧ Below w.heap.size w w' := by
  obtain ⟨w1, hw1⟩ : ∃ w1, w1 = (w.alloc (.cells (vC v) 24)).alloc (.cells (dC s c) 35) := ⟨_, rfl⟩
  obtain ⟨g1, g2, hb0⟩ := two_blocks _ _ _ w1 hw1
  have hup : ∀ (w0 W : World) g o, Below w0.heap.size w0 W → w0.heap[g]? = some o → W.heap[g]? = some o := fun w0 W g o h hg => (h.block _ (lt_of_get hg)).trans hg
  go_enter Try.func24, Try.ntmps24
  go_wp2_with fail
  rw [show ((w.alloc (.cells (vC v) 24)).alloc (.cells (dC s c) 35)) = w1 from hw1.symm]
  clear hw1
  by_cases hok : dotOK s c = true
  · obtain ⟨k, rfl, hk, hc1, hc2⟩ := dot_k hok
    have kv : k < v.length := by omega
    have hx := sv v[k] (List.getElem_mem _)
    have hh : hasV v k c = decide (c ≤ (v[k] : Int)) := by unfold hasV; rw [hok, Bool.true_and, Int.toNat_natCast, getD_get v k kv]
    refine rhasG_t v k v[k] c w.heap.size (w.heap.size + 1) (decide (c ≤ (v[k] : Int))) w1 (by omega) (by omega) (wrap64 _ (by omega)) (by unfold dotE; rw [if_pos hok]) rfl (fun W h => hup _ W _ _ h g2)
      (fun W h => by rw [cell_of_row _ _ _ _ _ _ (hup _ W _ _ h g2)]; rfl) (fun W h => by rw [cell_of_row _ _ _ _ _ _ (hup _ W _ _ h g2)]; rfl) (fun W h => by rw [cell_of_row _ _ _ _ _ _ (hup _ W _ _ h g1), vC_get _ _ kv]) fun w2 h2 => ?_
    go_wp2_with fail
    go_ret
    exact ⟨by rw [hh]; rfl, below_then hb0 h2 (Nat.le_refl _)⟩
  · have hh : hasV v s c = false := by unfold hasV; simp [hok]
    refine rhasG_f s c w.heap.size (w.heap.size + 1) w1 (by unfold dotE; rw [if_neg hok]) (fun W h => hup _ W _ _ h g2) fun w2 h2 => ?_
    go_wp2_with fail
    go_ret
    exact ⟨by rw [hh]; rfl, below_then hb0 h2 (Nat.le_refl _)⟩
end Go.Proofs.Ytfifbjlmbdgmjaa
