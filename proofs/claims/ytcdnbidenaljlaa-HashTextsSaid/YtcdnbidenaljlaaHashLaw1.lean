/- The law HashTexts, walked. -/
import Derived.Test.YtcdnbidenaljlaaHashG
import Derived.Test.YtcdnbidenaljlaaHashO
namespace Go.Proofs.Ytcdnbidenaljlaa
open Go.RowKit

theorem load_id (W : World) (g : Nat) (l : List UInt8) (hl : l.length = 32) (t : TypeId) (fr : Nat × Nat) (h : W.heap[g]? = some (.cells (idC l) t fr)) : (loadVar 23 ⟨g, 0, none⟩).run Try.prog W = .ok (.agg (idC l)) W :=
  run_loadVar_row W g t 23 (idC l) fr _ h Try.underlying23 rfl (by rw [idC_size, hl]; exact size_id)
set_option maxRecDepth 20000 in
set_option maxHeartbeats 4000000 in
theorem hashTexts_list (a b s : List UInt8) (ha : a.length = 32) (hb : b.length = 32) (w : World) :
    Calls Try.prog 3 #[.agg (idC a), .agg (idC b), .string (bstr s)] w fun e w' => e = .returned (.bool true) ∧ Below w.heap.size w w' := by
  have hsz : (bstr s).size = s.length := bstr_size s
  obtain ⟨Z, hz0, hZs, hZ1⟩ : ∃ Z : Array Value, (Try.prog.info? 23).bind (fun i => i.zero.map Value.cells) = some Z ∧ Z.size = 32 ∧ (∀ u ∈ Z.toList, u.oneCell' = true) := ⟨idC zeros, zero_id, by rw [idC_size]; rfl, by simpa [idC] using u8v_one zeros⟩
  have hg1 : ((w.alloc (.cells (idC a) 23)).alloc (.cells (idC b) 23)).heap[w.heap.size]? = some (.cells (idC a) 23 (0, 0)) := heap_alloc2_old _ _ _
  have hg2 : ((w.alloc (.cells (idC a) 23)).alloc (.cells (idC b) 23)).heap[w.heap.size + 1]? = some (.cells (idC b) 23 (0, 0)) := heap_alloc2_new _ _ _
  have hb2 : Below w.heap.size w ((w.alloc (.cells (idC a) 23)).alloc (.cells (idC b) 23)) := ((Below.refl _ w).alloc (Nat.le_refl _) _).alloc (by simp) _
  have hpl := parseL_length s
  go_enter Try.func3, Try.ntmps3
  by_cases h100 : 100 < s.length
  · go_wp2_with fail
    go_ret
    exact ⟨rfl, hb2⟩
  go_wp2_with fail
  obtain ⟨w1, hw1⟩ : ∃ w1, w1 = (w.alloc (.cells (idC a) 23)).alloc (.cells (idC b) 23) := ⟨_, rfl⟩
  rw [← hw1] at hb2 hg1 hg2 ⊢
  clear hw1
  refine (parse_any s (by omega) w1).mono ?_
  rintro e w2 ⟨rfl, h2⟩
  have hv : ∃ V : Array Value, V = idC (parseL s) := ⟨_, rfl⟩
  obtain ⟨V, hV⟩ := hv
  have hVs : V.size = Z.size := by rw [hV, idC_size, hpl, hZs]
  have hV1 : ∀ u ∈ V.toList, u.oneCell' = true := by rw [hV]; simpa [idC] using u8v_one (parseL s)
  have hsi : (Try.prog.info? 23).map (·.size) = some V.size := by rw [hVs, hZs]; exact size_id
  have HV := Lib.hid hV
  rw [← hV]
  clear hV
  have hz2 := h2.size
  replace hg1 := (h2.block _ (lt_of_get hg1)).trans hg1
  replace hg2 := (h2.block _ (lt_of_get hg2)).trans hg2
  have lt1 := lt_of_get hg1
  have lt2 := lt_of_get hg2
  have q0 : (w2.alloc (.cells Z 23)).heap[w2.heap.size]? = some (.cells Z 23 (0, 0)) := heap_alloc_new _ _
  go_wp2_with (first
    | (with_reducible refine wpList_alloc_z rfl 23 rfl Z hz0 ?_)
    | (with_reducible refine wpList_store_z rfl 23 (.tmp 7) (.tmp 17) rfl _ rfl V rfl Z _ q0 hVs hsi hV1 ?_)
    | fail)
  have hb3 : Below w2.heap.size w2 ((w2.alloc (.cells Z 23)).setRow w2.heap.size V) := below_setRow ((Below.refl _ w2).alloc (Nat.le_refl _) _) (Nat.le_refl _) V
  have q1 := setRow_heap _ w2.heap.size Z V _ _ q0
  replace hg1 := (hb3.block _ lt1).trans hg1
  replace hg2 := (hb3.block _ lt2).trans hg2
  replace hb2 := below_then (below_then hb2 h2 (Nat.le_refl _)) hb3 (Nat.le_refl _)
  obtain ⟨w3, hw3⟩ : ∃ w3, w3 = (w2.alloc (.cells Z 23)).setRow w2.heap.size V := ⟨_, rfl⟩
  rw [← hw3] at hb2 hg1 hg2 q1 ⊢
  clear hw3 hb3 q0 h2
  refine (rparse_any s (by omega) w3).mono ?_
  rintro e w4 ⟨rfl, h4⟩
  rw [← HV.out]
  have lt3 := lt_of_get q1
  replace hg1 := (h4.block _ (lt_of_get hg1)).trans hg1
  replace hg2 := (h4.block _ (lt_of_get hg2)).trans hg2
  replace q1 := (h4.block _ lt3).trans q1
  have q2 : (w4.alloc (.cells Z 23)).heap[w4.heap.size]? = some (.cells Z 23 (0, 0)) := heap_alloc_new _ _
  have hb5 : Below w4.heap.size w4 ((w4.alloc (.cells Z 23)).setRow w4.heap.size V) := below_setRow ((Below.refl _ w4).alloc (Nat.le_refl _) _) (Nat.le_refl _) V
  have q3 := setRow_heap _ w4.heap.size Z V _ _ q2
  have p1 := (hb5.block _ (lt_of_get hg1)).trans hg1
  have p2 := (hb5.block _ (lt_of_get hg2)).trans hg2
  have p3 := (hb5.block _ (lt_of_get q1)).trans q1
  have hbe := below_then (below_then hb2 h4 (Nat.le_refl _)) hb5 (Nat.le_refl _)
  clear hg1 hg2 q1 hb2 h4 lt1 lt2 lt3 hz2
  go_wp2_with (first
    | (with_reducible refine wpList_alloc_z rfl 23 rfl Z hz0 ?_)
    | (with_reducible refine wpList_store_z rfl 23 (.tmp 9) (.tmp 22) rfl _ rfl V rfl Z _ q2 hVs hsi hV1 ?_)
    | fail)
  obtain ⟨w5, hw5⟩ : ∃ w5, w5 = (w4.alloc (.cells Z 23)).setRow w4.heap.size V := ⟨_, rfl⟩
  rw [← hw5] at hbe p1 p2 p3 q3 ⊢
  clear hw5 hb5 q2
  have hup : ∀ W g o, Below w5.heap.size w5 W → w5.heap[g]? = some o → W.heap[g]? = some o := fun W g o h hg => (h.block _ (lt_of_get hg)).trans hg
  have zA : (Try.prog.info? 23).map (·.size) = some (idC a).size := by rw [idC_size, ha]; exact size_id
  have zB : (Try.prog.info? 23).map (·.size) = some (idC b).size := by rw [idC_size, hb]; exact size_id
  have EQ : ∀ W, (Op.equalIn 10000 23 (.agg V) (.agg V)).run Try.prog W = .ok true W := fun W => by
    have := run_eq_id W (parseL s) (parseL s) hpl hpl
    rw [← HV.out] at this
    simpa using this
  refine texts (idC a) (idC b) V (bstr (textB a)) (parseE s) (Lib.compareBytes a b) w.heap.size (w.heap.size + 1) w2.heap.size w4.heap.size w5 _ (fun W h => hup W _ _ h p1) (fun W h => hup W _ _ h p2) (fun W h => hup W _ _ h p3) (fun W h => hup W _ _ h q3)
    (text_any a ha) (rtext_any a ha) (compare_any a b ha hb) (rcompare_any a b ha hb) zA zB hsi EQ rfl rfl rfl rfl rfl rfl rfl fun az wz hbz hdf _ hv => ?_
  go_wp2_with fail
  refine bodyPost_ret (results_tmp rfl _ _ _) hdf ?_
  exact ⟨congrArg Ending.returned hv, below_then hbe hbz (Nat.le_refl _)⟩
theorem hashTexts_walk (a b : List UInt8) (s : ByteArray) (w : World) (ha : a.length = 32) (hb : b.length = 32) (_ : s.size ≤ maxLen) :
    Calls Try.prog 3 #[.agg (idC a), .agg (idC b), .string s] w fun e w' => e = .returned (.bool true) ∧ Below w.heap.size w w' := by
  have : s = bstr s.toList := by rw [ByteArray.toList_eq]; rfl
  rw [this]
  exact hashTexts_list a b s.toList ha hb w
end Go.Proofs.Ytcdnbidenaljlaa
