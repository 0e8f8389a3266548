/- Vectors: the chapter's examples, reckoned; Decode of none. -/
import Derived.Test.YtfifbjlmbdgmjaaVecBa
namespace Go.Proofs.Ytfifbjlmbdgmjaa
open Go.RowKit
attribute [local go_sem] Oper.semAt_some

theorem encs (xs : List Nat) (m : Nat) (h : manyK (padV xs) 16 = m) : encV (padV xs) = numB m ++ (((padV xs).take m).map numB).flatten := by unfold encV; rw [h]
theorem enc_a : encV (padV [2, 0, 1]) = [3, 2, 0, 1] := by
  rw [encs [2, 0, 1] 3 (by decide +kernel)]
  rw [show (padV [2, 0, 1]).take 3 = [2, 0, 1] by decide +kernel]
  simp only [List.map_cons, List.map_nil, numB_small (show 3 < 128 by decide), numB_small (show 2 < 128 by decide), numB_small (show 0 < 128 by decide), numB_small (show 1 < 128 by decide)]
  rfl
theorem enc_b : encV (padV []) = [0] := by
  rw [encs [] 0 (by decide +kernel)]
  rw [show (padV []).take 0 = [] by decide +kernel]
  simp only [List.map_nil, numB_small (show 0 < 128 by decide)]
  rfl
theorem enc_c : encV (padV [0, 300]) = [2, 0, 172, 2] := by
  rw [encs [0, 300] 2 (by decide +kernel)]
  rw [show (padV [0, 300]).take 2 = [0, 300] by decide +kernel]
  simp only [List.map_cons, List.map_nil, numB_small (show 2 < 128 by decide), numB_small (show 0 < 128 by decide), numB_big (show ¬ 300 < 128 by decide), numB_small (show 300 / 128 < 128 by decide)]
  rfl
theorem rn (x most : Nat) (r : List UInt8) (h : x < 128) (hm : x ≤ most) : readN ([UInt8.ofNat x] ++ r) most = (x, 0, 1) := by
  have := readN_numB x most (by omega) r
  rw [if_neg (by omega), numB_small h] at this
  exact this
theorem dec_a : decV [2, 1, 0] = (z16, 62, []) := by
  have r1 : readN [2, 1, 0] 16 = (2, 0, 1) := rn 2 16 [1, 0] (by omega) (by omega)
  have r2 : readN [1, 0] 4294967295 = (1, 0, 1) := rn 1 _ [0] (by omega) (by omega)
  have r3 : readN [0] 4294967295 = (0, 0, 1) := rn 0 _ [] (by omega) (by omega)
  have d : decI [1, 0] 2 = ([1, 0], 0, []) := by simp [decI, r2, r3]
  unfold decV
  simp only [r1, List.drop_succ_cons, List.drop_zero, d]
  rfl
theorem dec_b : decV [17] = (z16, 12, [17]) := by
  have r1 : readN [17] 16 = (0, 12, 0) := by
    have := readN_numB 17 16 (by omega) []
    rw [if_pos (by omega), numB_small (by omega)] at this
    exact this
  unfold decV
  simp only [r1]
  rfl
theorem dec_c : decV [1] = (z16, 10, []) := by
  have r1 : readN [1] 16 = (1, 0, 1) := rn 1 16 [] (by omega) (by omega)
  have r2 : readN [] 4294967295 = (0, 10, 0) := by simp [readN, whereB]
  have d : decI [] 1 = ([], 10, []) := by simp [decI, r2]
  unfold decV
  simp only [r1, List.drop_succ_cons, List.drop_zero, d]
  rfl
theorem dec_d : decV [0, 9] = (padV [], 0, [9]) := by
  have r1 : readN [0, 9] 16 = (0, 0, 1) := rn 0 16 [9] (by omega) (by omega)
  unfold decV
  simp only [r1, List.drop_succ_cons, List.drop_zero, decI]
  rfl
theorem rd_b {W : World} {b : Nat} {cs : Array Value} {t : TypeId} {fr : Nat × Nat} {l : List UInt8} (h : W.heap[b]? = some (.cells cs t fr)) (hl : cs.toList = u8v l) : RdC W (some ⟨b, 0, none⟩) (u8v l) := fun j u hj => by
  refine ⟨_, rfl, ?_⟩
  rw [addr_add_plain, Nat.zero_add, cell_of_row _ _ j _ _ _ h, ← Array.getElem?_toList, hl]
  exact hj
theorem below_keptB {w0 W0 W W' : World} {g : Nat} (h0 : Below w0.heap.size w0 W0) (h : Below w0.heap.size w0 W) (hk : Kept (fun k => k = g) W W') (hg : W0.heap.size ≤ g) : Below w0.heap.size w0 W' :=
  below_kept h hk fun k e => by have := h0.size; omega
set_option maxRecDepth 100000 in
set_option maxHeartbeats 4000000 in
theorem num_nil (w : World) : Calls Try.prog 41 #[.pointer none, .int .u64 16] w fun e w' => e = .returned (.tuple #[.int .u64 0, .int .i64 1]) ∧ Below w.heap.size w w' := by
  go_enter Try.func41, Try.ntmps41
  go_wp2
  refine wp_scope_straight ?_
  go_wp2
  rw [Exit.noGoto_ret]
  exact bodyPost_ret (v := .tuple #[.int .u64 0, .int .i64 1]) (by simp [results, Try.results41, go_sem]) rfl ⟨rfl, ((Below.refl _ _).alloc (Nat.le_refl _) _).alloc (by simp) _⟩
set_option maxRecDepth 100000 in
set_option maxHeartbeats 8000000 in
theorem decode_nil (w : World) : Calls Try.prog 29 #[.pointer none] w fun e w' => e = .returned (.tuple #[.agg (vC z16), .int .i64 1]) ∧ Below w.heap.size w w' := by
  obtain ⟨Z, hz0, hZs, hZ1, HZ⟩ : ∃ Z : Array Value, (Try.prog.info? 24).bind (fun i => i.zero.map Value.cells) = some Z ∧ Z.size = 16 ∧ (∀ u ∈ Z.toList, u.oneCell' = true) ∧ Hid (vC z16 = Z) := ⟨vC z16, zero_vec, by rw [vC_size]; rfl, vC_one z16, rfl⟩
  have hsi : (Try.prog.info? 24).map (·.size) = some Z.size := by rw [hZs]; exact size_vec
  have bz := fun W => run_build_z (P := Try.prog) W 24 22 16 Z hz0 Try.underlying24 ⟨_, Try.sizeOf22 W⟩
  obtain ⟨w1, hw1⟩ : ∃ w1, w1 = w.alloc (.cells Z 24) := ⟨_, rfl⟩
  have hb1 : Below w.heap.size w w1 := by rw [hw1]; exact (Below.refl _ _).alloc (Nat.le_refl _) _
  have h1 : w1.heap[w.heap.size]? = some (.cells Z 24 (0, 0)) := by rw [hw1]; exact heap_alloc_new _ _
  have hnum := num_nil w1
  go_enter Try.func29, Try.ntmps29
  go_wp2_with (first
    | (with_reducible refine wpList_alloc_z rfl 24 rfl Z hz0 ?_)
    | fail)
  rw [← hw1]
  clear hw1
  refine hnum.mono ?_
  rintro e w2 ⟨rfl, hs1⟩
  have h2 := (hs1.block _ (lt_get h1)).trans h1
  have hb2 := below_then hb1 hs1 (Nat.le_refl _)
  clear hnum
  go_wp2_with (first
    | (with_reducible refine wpList_build_z rfl 24 rfl Z (bz _) ?_)
    | (with_reducible refine wpList_store_z rfl 24 (.tmp 2) (.tmp 17) rfl w.heap.size rfl Z rfl Z _ h2 rfl hsi hZ1 ?_)
    | fail)
  refine bodyPost_ret (results_cell_tmp rfl _ _ w.heap.size 24 Z (0, 0) _ rfl (setRow_heap _ w.heap.size Z Z _ _ h2) Try.underlying24 rfl hsi) rfl ?_
  exact ⟨by rw [HZ.out]; rfl, below_setRow hb2 (Nat.le_refl _) _⟩
end Go.Proofs.Ytfifbjlmbdgmjaa
