/- Ids of texts: the reference's Parse. -/
import Derived.Test.YtmfncojkpkoijaaDoorHashP
namespace Go.Proofs.YtmfncojkpkoijaaDoor
open Go.RowKit

/-- 'T{}' of an array type: its zero. -/
theorem run_build_z {P : Program} (W : World) (ty e : TypeId) (n : Nat) (Z : Array Value) (hz : (P.info? ty).bind (fun i => i.zero.map Value.cells) = some Z) (ht : P.underlying ty = some (.array n e)) (hs : ∃ z, (sizeOf e).run P W = .ok z W) : (Instr.build ty #[]).run P W = .ok (.agg Z) W := by
  obtain ⟨z, hs⟩ := hs
  cases hq : P.info? ty with
  | none => simp [hq] at hz
  | some i =>
    cases hq2 : i.zero with
    | none => simp [hq, hq2] at hz
    | some v =>
      have hv : v.cells = Z := by simpa [hq, hq2] using hz
      simp [Instr.build, zeroValue, typeInfo, hq, hq2, run_underlying ht, hs, Instr.fill, hv]
theorem wpList_build_z {P : Program} {ops : Array Oper} {rest : List Oper} {o : Oper} {a : Act} {w : World} {Q : Exit → Act → World → Prop} (hgd : o.guard = none) (ty : TypeId) (ho : o.op = .build ty #[]) (Z : Array Value) (hr : (Instr.build ty #[]).run P w = .ok (.agg Z) w)
    (h : wpList P ops Q rest (a.put o.dst (.agg Z)) w) : wpList P ops Q (o :: rest) a w := by
  refine wpList_plain hgd fun K hK => ?_
  unfold Oper.wp execOp
  simp only [ho, Array.map_empty, Sem.run_bind, hr]
  exact hK _ _ h
theorem okB_of {s : List UInt8} (hl : s.length = 64) (h : ∀ j (hj : j < 64), 0 ≤ digN (s[j]'(by omega))) : okB s = true := by
  unfold okB
  rw [Bool.and_eq_true, List.all_eq_true]
  refine ⟨by simp [hl], fun c hc => ?_⟩
  obtain ⟨j, hj, rfl⟩ := List.getElem_of_mem hc
  simpa using h j (by omega)
theorem okB_not {s : List UInt8} (j : Nat) (hj : j < s.length) (h : digN s[j] < 0) : ¬ okB s = true := by
  unfold okB
  rw [Bool.and_eq_true, List.all_eq_true]
  rintro ⟨_, h2⟩
  have := h2 s[j] (List.getElem_mem _)
  simp at this
  omega
set_option maxRecDepth 20000 in
set_option maxHeartbeats 4000000 in
theorem rparse_any (s : List UInt8) (hs : s.length ≤ 1000) (w : World) :
    Calls Tryd.prog 37 #[.string (bstr s)] w fun e w' => e = .returned (.tuple #[.agg (idC (parseL s)), .int .i64 (parseE s)]) ∧ Below w.heap.size w w' := by
  obtain ⟨Z, hz0, hZs, hZ1, HZ⟩ : ∃ Z : Array Value, (Tryd.prog.info? 30).bind (fun i => i.zero.map Value.cells) = some Z ∧ Z.size = 32 ∧ (∀ u ∈ Z.toList, u.oneCell' = true) ∧ Hid (Z = idC zeros) := ⟨idC zeros, zero_id, by rw [idC_size]; rfl, by simpa [idC] using u8v_one zeros, rfl⟩
  have bz := fun W => run_build_z (P := Tryd.prog) W 30 5 32 Z hz0 Tryd.underlying30 ⟨_, Tryd.sizeOf5 W⟩
  have hsz : (bstr s).size = s.length := bstr_size s
  have hsi : (Tryd.prog.info? 30).map (·.size) = some Z.size := by rw [hZs]; exact size_id
  have hg0 : ((w.alloc (.cells Z 30)).alloc (.cells Z 30)).heap[w.heap.size + 1]? = some (.cells Z 30 (0, 0)) := heap_alloc2_new _ _ _
  have hg0' : ((w.alloc (.cells Z 30)).alloc (.cells Z 30)).heap[(w.alloc (.cells Z 30)).heap.size]? = some (.cells Z 30 (0, 0)) := heap_alloc_new _ _
  have hg1 : ((w.alloc (.cells Z 30)).alloc (.cells Z 30)).heap[w.heap.size]? = some (.cells Z 30 (0, 0)) := heap_alloc2_old _ _ _
  have hb1 : Below w.heap.size w ((w.alloc (.cells Z 30)).alloc (.cells Z 30)) := ((Below.refl _ w).alloc (Nat.le_refl _) _).alloc (by simp) _
  have hg2 := setRow_heap _ (w.heap.size + 1) Z Z _ _ hg0
  have hb2 := below_setRow hb1 (show w.heap.size ≤ w.heap.size + 1 by omega) Z
  have hg3 : (((w.alloc (.cells Z 30)).alloc (.cells Z 30)).setRow (w.heap.size + 1) Z).heap[w.heap.size]? = some (.cells Z 30 (0, 0)) := by rw [setRow_other _ _ _ _ (by omega)]; exact hg1
  have HS := Lib.hid hZs
  clear hZs
  by_cases h64 : s.length = 64
  · have hlen : ((bstr s).size : Int) = 64 := by rw [hsz, h64]; rfl
    clear hsz
    go_enter Tryd.func37, Tryd.ntmps37
    go_wp2_with (first
      | (with_reducible refine wpList_alloc_z rfl 30 rfl Z hz0 ?_)
      | (with_reducible refine wpList_build_z rfl 30 rfl Z (bz _) ?_)
      | (with_reducible refine wpList_store_z rfl 30 (.tmp 4) (.tmp 8) rfl _ rfl Z rfl Z _ hg0' rfl hsi hZ1 ?_)
      | fail)
    obtain ⟨w1, hw1⟩ : ∃ w1, w1 = ((w.alloc (.cells Z 30)).alloc (.cells Z 30)).setRow (w.heap.size + 1) Z := ⟨_, rfl⟩
    rw [← hw1] at hb2 hg2 hg3 ⊢
    clear hw1 hb1 hg0 hg0' hg1
    go_loopw [5] (fun i wr => ∃ k : Nat, k ≤ 32 ∧ i = .int .i64 k ∧ (∀ j (hj : j < 2 * k), ∃ hl : j < s.length, 0 ≤ digN s[j]) ∧ wr.heap[w.heap.size + 1]? = some (.cells (idC (partB s k)) 30 (0, 0)) ∧ wr.heap[w.heap.size]? = some (.cells Z 30 (0, 0)) ∧ Below w.heap.size w wr) (fun i _ => 32 - (intOf i).toNat)
    case atStart => exact ⟨0, by omega, rfl, fun j hj => by omega, by rw [partB_zero, ← HZ.out]; exact hg2, hg3, hb2⟩
    case round =>
      obtain ⟨k, hk, rfl, hall, hp, hq, hbr⟩ := hrel
      by_cases hlt : k < 32
      · have k1 : 2 * k < s.length := by omega
        have k2 : 2 * k + 1 < s.length := by omega
        have f1 : ∀ W, (Instr.index 9 (.string (bstr s)) (.int .i64 (2 * (k : Int)))).run Tryd.prog W = .ok (.int .u8 (s[2 * k].toNat : Int)) W := fun W => str_index W s (2 * k) k1 _ (by omega)
        have f2 : ∀ W, (Instr.index 9 (.string (bstr s)) (.int .i64 (2 * (k : Int) + 1))).run Tryd.prog W = .ok (.int .u8 (s[2 * k + 1].toNat : Int)) W := fun W => str_index W s (2 * k + 1) k2 _ (by omega)
        have hset := partB_set s k hlt
        rw [List.getD_eq_getElem?_getD, List.getElem?_eq_getElem k1, List.getD_eq_getElem?_getD, List.getElem?_eq_getElem k2] at hset
        simp only [Option.getD_some] at hset
        have hn1 : digN s[2 * k] < 0 → ¬ okB s = true := okB_not _ k1
        have hn2 : digN s[2 * k + 1] < 0 → ¬ okB s = true := okB_not _ k2
        have hall2 : 0 ≤ digN s[2 * k] → 0 ≤ digN s[2 * k + 1] → ∀ j (hj : j < 2 * (k + 1)), ∃ hl : j < s.length, 0 ≤ digN s[j] := fun h1 h2 j hj => by
          by_cases c1 : j < 2 * k
          · exact hall j c1
          by_cases c2 : j = 2 * k
          · subst c2; exact ⟨k1, h1⟩
          · obtain rfl : j = 2 * k + 1 := by omega
            exact ⟨k2, h2⟩
        clear hall
        generalize s[2 * k] = x at *
        generalize s[2 * k + 1] = y at *
        have l1 := digN_lt x
        have l2 := digN_lt y
        have e1 := digN_ge x
        have e2 := digN_ge y
        have hby : 0 ≤ digN x → 0 ≤ digN y → 16 * digN x + digN y = ((byteOf x y).toNat : Int) := fun g1 g2 => by
          unfold byteOf
          rw [UInt8.toNat_ofNat']
          omega
        have HD : Hid (idC (partB s (k + 1)) = (idC (partB s k)).setIfInBounds k (.int .u8 ((byteOf x y).toNat : Int))) := by show _ = _; rw [← hset, idC_set]
        clear hset
        go_wp2_with fail
        refine (digit_any x wr).mono ?_
        rintro e w' ⟨rfl, rfl⟩
        go_wp2_with fail
        refine (digit_any y _).mono ?_
        rintro e w' ⟨rfl, rfl⟩
        generalize byteOf x y = z at *
        generalize digN x = dx at *
        generalize digN y = dy at *
        by_cases h1 : dx < 0
        · have hno := hn1 h1
          have hqr := setRow_heap _ w.heap.size Z Z _ _ hq
          have hbq := below_setRow hbr (Nat.le_refl _) Z
          go_wp2_with (first
            | (with_reducible refine wpList_build_z rfl 30 rfl Z (bz _) ?_)
            | (with_reducible refine wpList_store_z rfl 30 (.tmp 2) (.tmp 34) rfl _ rfl Z rfl Z _ hq rfl hsi hZ1 ?_)
            | fail)
          refine bodyPost_ret (results_cell_tmp rfl _ _ w.heap.size 30 Z (0, 0) _ rfl hqr Tryd.underlying30 rfl hsi) rfl ⟨?_, hbq⟩
          unfold parseL parseE
          rw [if_neg hno, if_neg hno, HZ.out]
          rfl
        by_cases h2 : dy < 0
        · have hno := hn2 h2
          have hqr := setRow_heap _ w.heap.size Z Z _ _ hq
          have hbq := below_setRow hbr (Nat.le_refl _) Z
          go_wp2_with (first
            | (with_reducible refine wpList_build_z rfl 30 rfl Z (bz _) ?_)
            | (with_reducible refine wpList_store_z rfl 30 (.tmp 2) (.tmp 34) rfl _ rfl Z rfl Z _ hq rfl hsi hZ1 ?_)
            | fail)
          refine bodyPost_ret (results_cell_tmp rfl _ _ w.heap.size 30 Z (0, 0) _ rfl hqr Tryd.underlying30 rfl hsi) rfl ⟨?_, hbq⟩
          unfold parseL parseE
          rw [if_neg hno, if_neg hno, HZ.out]
          rfl
        · have hall3 := hall2 (by omega) (by omega)
          have hby2 := hby (by omega) (by omega)
          clear hby
          clear hall2 hn1 hn2
          have hcell : wr.cell? ⟨w.heap.size + 1, k, none⟩ = some ((idC (partB s k))[k]'(by rw [idC_size, partB_length s k hk]; exact hlt)) := by
            rw [cell_of_row _ _ _ _ _ _ hp]
            exact Array.getElem?_eq_getElem _
          have hfro : wr.frozen? ⟨w.heap.size + 1, k, none⟩ = false := frozen_of_row wr _ k _ _ hp
          have hnew := heap_setCell_same wr (w.heap.size + 1) k (idC (partB s k)) _ (.int .u8 (z.toNat : Int)) hp
          have hold : (wr.setCell ⟨w.heap.size + 1, k, none⟩ (.int .u8 (z.toNat : Int))).heap[w.heap.size]? = some (.cells Z 30 (0, 0)) := by rw [heap_setCell_other _ _ _ _ (by simp)]; exact hq
          have hbn := hbr.setCell (p := ⟨w.heap.size + 1, k, none⟩) (show w.heap.size ≤ w.heap.size + 1 by omega) (.int .u8 (z.toNat : Int))
          rw [← HD.out] at hnew
          generalize (idC (partB s k))[k]'(by rw [idC_size, partB_length s k hk]; exact hlt) = old at hcell
          rw [← hby2] at hnew hold hbn
          clear hp hq HD hby2
          go_wp2_with fail
          go_roundw
          case rel => exact ⟨k + 1, by omega, by go_num, hall3, hnew, hold, hbn⟩
          case measure => simp [intOf]; omega
      · obtain rfl : k = 32 := by omega
        have hok : okB s = true := okB_of h64 fun j hj => (hall j (by omega)).2
        have hsp : (Tryd.prog.info? 30).map (·.size) = some (idC (partB s 32)).size := by rw [idC_size, partB_length s 32 (by omega)]; exact size_id
        have hqr := setRow_heap _ w.heap.size Z (idC (partB s 32)) _ _ hq
        have hbq := below_setRow hbr (Nat.le_refl _) (idC (partB s 32))
        have h1c : ∀ u ∈ (idC (partB s 32)).toList, u.oneCell' = true := by simpa [idC] using u8v_one (partB s 32)
        have hss : (idC (partB s 32)).size = Z.size := by rw [HS.out, idC_size, partB_length s 32 (by omega)]
        have hfin : parseL s = partB s 32 ∧ parseE s = 0 := by unfold parseL parseE; rw [if_pos hok, if_pos hok, partB_full]; exact ⟨rfl, rfl⟩
        have hfin1 : idC (parseL s) = idC (partB s 32) := by rw [hfin.1]
        have hfin2 := Lib.hid hfin.2
        clear hfin
        generalize idC (partB s 32) = V at *
        have hfin3 := Lib.hid hfin1
        clear hfin1
        go_wp2_with (first
          | (with_reducible refine wpList_load_row rfl 30 (.tmp 4) rfl _ rfl 30 V _ _ hp Tryd.underlying30 rfl hsp ?_)
          | (with_reducible refine wpList_store_z rfl 30 (.tmp 2) (.tmp 42) rfl _ rfl V rfl Z _ hq hss hsp h1c ?_)
          | fail)
        refine bodyPost_ret (results_cell_tmp rfl _ _ w.heap.size 30 V (0, 0) _ rfl hqr Tryd.underlying30 rfl hsp) rfl ⟨?_, hbq⟩
        rw [hfin3.out, hfin2.out]
        rfl
  · have hno : ¬ okB s = true := fun h => by
      unfold okB at h
      rw [Bool.and_eq_true] at h
      exact h64 (by simpa using h.1)
    have hlen : ((bstr s).size : Int) = (s.length : Int) := by rw [hsz]
    have hq4 := setRow_heap _ w.heap.size Z Z _ _ hg3
    have hb4 := below_setRow hb2 (Nat.le_refl w.heap.size) Z
    have hne : ((s.length : Int) != 64) = true := by simp; omega
    clear hsz
    go_enter Tryd.func37, Tryd.ntmps37
    go_wp2_with (first
      | (with_reducible refine wpList_alloc_z rfl 30 rfl Z hz0 ?_)
      | (with_reducible refine wpList_build_z rfl 30 rfl Z (bz _) ?_)
      | (with_reducible refine wpList_store_z rfl 30 (.tmp 4) (.tmp 8) rfl _ rfl Z rfl Z _ hg0' rfl hsi hZ1 ?_)
      | (with_reducible refine wpList_load_row rfl 30 (.tmp 4) rfl _ rfl 30 Z _ _ hg2 Tryd.underlying30 rfl hsi ?_)
      | (with_reducible refine wpList_store_z rfl 30 (.tmp 2) (.tmp 12) rfl _ rfl Z rfl Z _ hg3 rfl hsi hZ1 ?_)
      | fail)
    refine bodyPost_ret (results_cell_tmp rfl _ _ w.heap.size 30 Z (0, 0) _ rfl hq4 Tryd.underlying30 rfl hsi) rfl ⟨?_, hb4⟩
    unfold parseL parseE
    rw [if_neg hno, if_neg hno, HZ.out]
    rfl
end Go.Proofs.YtmfncojkpkoijaaDoor
