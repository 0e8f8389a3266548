/- Vectors: the reference's Add. -/
import Derived.Test.YtfifbjlmbdgmjaaVecQ
import Derived.Test.YtfifbjlmbdgmjaaVecGl
namespace Go.Proofs.Ytfifbjlmbdgmjaa
open Go.RowKit

theorem wrap32 (n : Int) (h : 0 ≤ n ∧ n ≤ 4294967295) : IntKind.u32.wrap n = n := by rw [IntKind.wrap_u32]; omega
set_option maxRecDepth 20000 in
set_option maxHeartbeats 4000000 in
theorem radd_any (v : List Nat) (hv : v.length = 16) (sv : small v) (s c : Int) (w : World) :
    Calls Try.prog 21 #[.agg (vC v), .agg (dC s c)] w fun e w' => e = .returned (.tuple #[.agg (vC (addV v s c)), .int .i64 (addE v s c)]) ∧ Below w.heap.size w w' := by
  obtain ⟨Z, hz0, hZs, hZ1, HZ⟩ : ∃ Z : Array Value, (Try.prog.info? 24).bind (fun i => i.zero.map Value.cells) = some Z ∧ Z.size = 16 ∧ (∀ u ∈ Z.toList, u.oneCell' = true) ∧ Hid (vC z16 = Z) := ⟨vC z16, zero_vec, by rw [vC_size]; rfl, vC_one z16, rfl⟩
  have hsi : (Try.prog.info? 24).map (·.size) = some Z.size := by rw [hZs]; exact size_vec
  have bz := fun W => run_build_z (P := Try.prog) W 24 22 16 Z hz0 Try.underlying24 ⟨_, Try.sizeOf22 W⟩
  have hup : ∀ (w0 W : World) g o, Below w0.heap.size w0 W → w0.heap[g]? = some o → W.heap[g]? = some o := fun w0 W g o h hg => (h.block _ (lt_of_get hg)).trans hg
  have zv := vec_size hv
  obtain ⟨w1, hw1⟩ : ∃ w1, w1 = ((w.alloc (.cells (vC v) 24)).alloc (.cells (dC s c) 35)).alloc (.cells Z 24) := ⟨_, rfl⟩
  obtain ⟨g1, g2, g3, hb0⟩ : w1.heap[w.heap.size]? = some (.cells (vC v) 24 (0, 0)) ∧ w1.heap[w.heap.size + 1]? = some (.cells (dC s c) 35 (0, 0)) ∧ w1.heap[w.heap.size + 1 + 1]? = some (.cells Z 24 (0, 0)) ∧ Below w.heap.size w w1 := by
    obtain ⟨w0, hw0⟩ : ∃ w0, w0 = (w.alloc (.cells (vC v) 24)).alloc (.cells (dC s c) 35) := ⟨_, rfl⟩
    obtain ⟨k1, k2, k3⟩ := two_blocks _ _ _ w0 hw0
    rw [← hw0] at hw1
    have kb : Below w0.heap.size w0 w1 := by rw [hw1]; exact (Below.refl _ w0).alloc (Nat.le_refl _) _
    have ks : w0.heap.size = w.heap.size + 1 + 1 := by rw [hw0, World.size_alloc, World.size_alloc]
    refine ⟨hup _ _ _ _ kb k1, hup _ _ _ _ kb k2, ?_, below_then k3 kb (Nat.le_refl _)⟩
    rw [hw1, ← ks]
    exact heap_alloc_new _ _
  have qc := rcheck_any s c w1
  unfold dC at qc g2 hw1
  show Calls _ _ #[.agg (vC v), .agg #[.int .i64 s, .int .i64 c]] w _
  have c0 : w1.cell? ⟨w.heap.size + 1, 0, none⟩ = some (.int .i64 s) := by rw [cell_of_row _ _ _ _ _ _ g2]; rfl
  have c1 : w1.cell? ⟨w.heap.size + 1, 1, none⟩ = some (.int .i64 c) := by rw [cell_of_row _ _ _ _ _ _ g2]; rfl
  by_cases hok : dotOK s c = true
  · obtain ⟨k, rfl, hk, hc1, hc2⟩ := dot_k hok
    have kv : k < v.length := by omega
    have hx := sv v[k] (List.getElem_mem _)
    have hgd := getD_get v k kv
    have e3 : dotE k c = 0 := by unfold dotE; rw [if_pos hok]
    rw [e3] at qc
    by_cases hcx : (v[k] : Int) + 1 = c
    · have hyes : addOK v k c = true := by
        unfold addOK
        rw [hok, Bool.true_and, Int.toNat_natCast, hgd]
        exact decide_eq_true hcx
      have e1 : addV v k c = v.set k (v[k] + 1) := by unfold addV; rw [hyes, if_pos rfl, Int.toNat_natCast, hgd]
      have e2 : addE v k c = 0 := by unfold addE; rw [hyes]; simp
      rw [e1, e2]
      have hvl : (v.set k (v[k] + 1)).length = 16 := by simpa using hv
      have zn := vec_size hvl
      have hns : (vC (v.set k (v[k] + 1))).size = Z.size := by rw [vC_size, hvl, hZs]
      have hn1 := vC_one (v.set k (v[k] + 1))
      have hvg := vC_get v k kv
      have hvs := vC_set v k (v[k] + 1)
      subst hcx
      clear e1 e2 e3 hyes hgd hok
      generalize v.set k (v[k] + 1) = N at *
      generalize v[k] = x at *
      have hvs' := Lib.hid hvs
      clear hvs
      go_enter Try.func21, Try.ntmps21
      go_wp2_with (first
        | (with_reducible refine wpList_alloc_z rfl 24 rfl Z hz0 ?_)
        | fail)
      rw [← hw1]
      clear hw1
      refine qc.mono ?_
      rintro e w2 ⟨rfl, h2⟩
      replace g1 := hup _ _ _ _ h2 g1
      replace g2 := hup _ _ _ _ h2 g2
      replace g3 := hup _ _ _ _ h2 g3
      replace hb0 := below_then hb0 h2 (Nat.le_refl _)
      clear h2 qc c0 c1
      have c0 : w2.cell? ⟨w.heap.size + 1, 0, none⟩ = some (.int .i64 (k : Int)) := by rw [cell_of_row _ _ _ _ _ _ g2]; rfl
      have c1 : w2.cell? ⟨w.heap.size + 1, 1, none⟩ = some (.int .i64 ((x : Int) + 1)) := by rw [cell_of_row _ _ _ _ _ _ g2]; rfl
      have cv : w2.cell? ⟨w.heap.size, k, none⟩ = some (.int .u32 (x : Int)) := by rw [cell_of_row _ _ _ _ _ _ g1]; exact hvg
      go_wp2_with fail
      go_quiet (fail)
      go_wp2_with fail
      have k1' : ∀ q W, Below (w2.drewN q).heap.size (w2.drewN q) W → W.heap[w.heap.size]? = some (.cells (vC v) 24 (0, 0)) := fun q W h => hup (w2.drewN q) W _ _ h g1
      have k2' : ∀ q W, Below (w2.drewN q).heap.size (w2.drewN q) W → W.heap[w.heap.size + 1]? = some (.cells #[.int .i64 (k : Int), .int .i64 ((x : Int) + 1)] 35 (0, 0)) := fun q W h => hup (w2.drewN q) W _ _ h g2
      refine raddG k x w.heap.size (w.heap.size + 1) _ (by omega) (by omega) (wrap32 _ (by omega)) (fun W h => by rw [cell_of_row _ _ _ _ _ _ (k2' _ W h)]; rfl) (fun W h => by rw [cell_of_row _ _ _ _ _ _ (k1' _ W h)]; exact hvg)
        (fun W h => frozen_of_row W _ k _ _ (k1' _ W h)) fun w3 h3 => ?_
      have s1 := heap_setCell_same w3 w.heap.size k (vC v) _ (.int .u32 ((x : Int) + 1)) (k1' _ w3 h3)
      have hcast : ((x + 1 : Nat) : Int) = (x : Int) + 1 := by omega
      have hvs := hvs'.out
      rw [hcast] at hvs
      rw [← hvs] at s1
      clear hvs hcast hvg hvs'
      have g3' := hup (w2.drewN _) w3 _ _ h3 g3
      have s3 : (w3.setCell ⟨w.heap.size, k, none⟩ (.int .u32 ((x : Int) + 1))).heap[w.heap.size + 1 + 1]? = some (.cells Z 24 (0, 0)) := by rw [heap_setCell_other _ _ _ _ (by simp; omega)]; exact g3'
      have sb := (below_then (below_drN hb0 _) h3 (Nat.le_refl _)).setCell (p := ⟨w.heap.size, k, none⟩) (Nat.le_refl _) (.int .u32 ((x : Int) + 1))
      have q1 := setRow_heap _ (w.heap.size + 1 + 1) Z (vC N) _ _ s3
      have hbf := below_setRow sb (show w.heap.size ≤ w.heap.size + 1 + 1 by omega) (vC N)
      go_wp2_with (first
        | (with_reducible refine wpList_load_row rfl 24 (.tmp 2) rfl _ rfl 24 (vC N) _ _ s1 Try.underlying24 rfl zn ?_)
        | (with_reducible refine wpList_store_z rfl 24 (.tmp 4) (.tmp 28) rfl _ rfl (vC N) rfl Z _ s3 hns zn hn1 ?_)
        | fail)
      refine bodyPost_ret (results_cell_tmp rfl _ _ (w.heap.size + 1 + 1) 24 (vC N) (0, 0) _ rfl q1 Try.underlying24 rfl zn) rfl ⟨rfl, hbf⟩
    · have hno : addOK v k c = false := by
        unfold addOK
        rw [hok, Bool.true_and, Int.toNat_natCast, hgd]
        exact decide_eq_false hcx
      have e1 : addV v k c = z16 := by unfold addV; rw [hno]; simp
      have e2 : addE v k c = 61 := by unfold addE; rw [hno, hok]; simp
      rw [e1, e2, HZ.out]
      have hvg := vC_get v k kv
      obtain ⟨x, hxe⟩ : ∃ x, v[k] = x := ⟨_, rfl⟩
      rw [hxe] at hx hcx hvg
      have hne : (c != (x : Int) + 1) = true := by simp; omega
      clear hxe e1 e2 e3 hno hgd hok
      go_enter Try.func21, Try.ntmps21
      go_wp2_with (first
        | (with_reducible refine wpList_alloc_z rfl 24 rfl Z hz0 ?_)
        | fail)
      rw [← hw1]
      clear hw1
      refine qc.mono ?_
      rintro e w2 ⟨rfl, h2⟩
      replace g1 := hup _ _ _ _ h2 g1
      replace g2 := hup _ _ _ _ h2 g2
      replace g3 := hup _ _ _ _ h2 g3
      replace hb0 := below_then hb0 h2 (Nat.le_refl _)
      clear h2 qc c0 c1
      have c0 : w2.cell? ⟨w.heap.size + 1, 0, none⟩ = some (.int .i64 (k : Int)) := by rw [cell_of_row _ _ _ _ _ _ g2]; rfl
      have c1 : w2.cell? ⟨w.heap.size + 1, 1, none⟩ = some (.int .i64 c) := by rw [cell_of_row _ _ _ _ _ _ g2]; rfl
      have cv : w2.cell? ⟨w.heap.size, k, none⟩ = some (.int .u32 (x : Int)) := by rw [cell_of_row _ _ _ _ _ _ g1]; exact hvg
      clear hvg
      go_wp2_with fail
      go_quiet (fail)
      have q3 : ∀ q, (w2.drewN q).heap[w.heap.size + 1 + 1]? = some (.cells Z 24 (0, 0)) := fun q => g3
      go_wp2_with (first
        | (with_reducible refine wpList_build_z rfl 24 rfl Z (bz _) ?_)
        | (with_reducible refine wpList_store_z rfl 24 (.tmp 4) (.tmp 19) rfl _ rfl Z rfl Z _ (q3 _) rfl hsi hZ1 ?_)
        | fail)
      refine bodyPost_ret (results_cell_tmp rfl _ _ (w.heap.size + 1 + 1) 24 Z (0, 0) _ rfl (setRow_heap _ (w.heap.size + 1 + 1) Z Z _ _ (q3 _)) Try.underlying24 rfl hsi) rfl ⟨rfl, below_setRow (below_drN hb0 _) (show w.heap.size ≤ w.heap.size + 1 + 1 by omega) Z⟩
  · have e1 : addV v s c = z16 := by unfold addV addOK; simp [hok]
    have e2 : addE v s c = 50 := by unfold addE addOK; simp [hok]
    have e3 : dotE s c = 50 := by unfold dotE; rw [if_neg hok]
    rw [e1, e2, HZ.out]
    rw [e3] at qc
    go_enter Try.func21, Try.ntmps21
    go_wp2_with (first
      | (with_reducible refine wpList_alloc_z rfl 24 rfl Z hz0 ?_)
      | fail)
    rw [← hw1]
    clear hw1
    refine qc.mono ?_
    rintro e w2 ⟨rfl, h2⟩
    replace g1 := hup _ _ _ _ h2 g1
    replace g2 := hup _ _ _ _ h2 g2
    replace g3 := hup _ _ _ _ h2 g3
    replace hb0 := below_then hb0 h2 (Nat.le_refl _)
    clear h2 qc c0 c1
    have q1 := setRow_heap _ (w.heap.size + 1 + 1) Z Z _ _ g3
    have hbf := below_setRow hb0 (show w.heap.size ≤ w.heap.size + 1 + 1 by omega) Z
    go_wp2_with (first
      | (with_reducible refine wpList_build_z rfl 24 rfl Z (bz _) ?_)
      | (with_reducible refine wpList_store_z rfl 24 (.tmp 4) (.tmp 9) rfl _ rfl Z rfl Z _ g3 rfl hsi hZ1 ?_)
      | fail)
    refine bodyPost_ret (results_cell_tmp rfl _ _ (w.heap.size + 1 + 1) 24 Z (0, 0) _ rfl q1 Try.underlying24 rfl hsi) rfl ⟨rfl, hbf⟩
end Go.Proofs.Ytfifbjlmbdgmjaa
