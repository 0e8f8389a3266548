/- Vectors: their bytes, written. -/
import Derived.Test.YtfifbjlmbdgmjaaVecBp
import Derived.Test.YtfifbjlmbdgmjaaLebR2
import Derived.Deep.DeepCutAuto
import Derived.Deep.CutBlock
import Derived.Deep.QuietTactic
import Derived.BigQuiet
namespace Go.Proofs.Ytfifbjlmbdgmjaa
open Go.RowKit
attribute [local go_sem] Oper.semAt_some

theorem SinkAt.ne_vec {g b : Nat} {v : Value} {xs : List UInt8} {W : World} {cs : Array Value} (h : SinkAt g v xs W) (hb : W.heap[b]? = some (.cells cs 24 (0, 0))) : v.ownBlock ≠ some b ∧ g ≠ b := by
  refine ⟨fun e => ?_, fun e => ?_⟩
  · rcases h.2.2 with ⟨rfl, _⟩ | ⟨k, cap, cur, rfl, _, hg, _⟩
    · cases e
    · obtain rfl : k = b := by simpa [Value.ownBlock] using e
      rw [hg] at hb
      cases hb
  · subst e
    have := h.1
    rw [hb] at this
    cases this
set_option maxRecDepth 100000 in
set_option maxHeartbeats 4000000 in
theorem encode_any (v : List Nat) (hv : v.length = 16) (sv : small v) (w : World) :
    Calls Try.prog 31 #[.agg (vC v)] w fun e w' => ∃ r, e = .returned r ∧ NewRow w w' r (encV v) := by
  obtain ⟨w1, hw1⟩ : ∃ w1, w1 = w.alloc (.cells (vC v) 24) := ⟨_, rfl⟩
  have hb1 : Below w.heap.size w w1 := by rw [hw1]; exact (Below.refl _ _).alloc (Nat.le_refl _) _
  have h1 : w1.heap[w.heap.size]? = some (.cells (vC v) 24 (0, 0)) := by rw [hw1]; exact heap_alloc_new _ _
  go_enter Try.func31, Try.ntmps31
  go_wp2_with fail
  rw [← hw1]
  clear hw1
  go_loopw [3, 8] (fun m i wr => ∃ k : Nat, k ≤ 16 ∧ i = .int .i64 (k : Int) ∧ m = .int .i64 (manyK v k : Int) ∧ wr = w1) (fun _ i _ => 16 - (intOf i).toNat)
  case atStart => exact ⟨0, by omega, rfl, rfl, rfl⟩
  case round =>
    obtain ⟨k, hk, rfl, rfl, rfl⟩ := hrel
    by_cases hlt : k < 16
    · have hkv : k < v.length := by omega
      have q : wr.cell? ⟨w.heap.size, k, none⟩ = some (.int .u32 (v[k] : Int)) := by rw [cell_of_row _ _ _ _ _ _ h1, vC_get _ _ hkv]
      have hs : manyK v (k + 1) = if 0 < v[k] then k + 1 else manyK v k := by rw [manyK, List.getD_eq_getElem?_getD, List.getElem?_eq_getElem hkv]; rfl
      have hwk : IntKind.i64.wrap ((k : Int) + 1) = (k : Int) + 1 := IntWalk.i64_in _ (by omega)
      have hki : (k : Int) < 16 := by omega
      generalize v[k] = x at *
      have HS := Lib.hid hs
      clear hs
      by_cases hx : 0 < x
      · have hxi : (0 : Int) < (x : Int) := by omega
        go_wp2_with fail
        exact ⟨⟨k + 1, by omega, rfl, by rw [HS.out, if_pos hx]; rfl, trivial⟩, by simp [intOf]; omega⟩
      · have hxi : ¬ (0 : Int) < (x : Int) := by omega
        go_wp2_with fail
        exact ⟨⟨k + 1, by omega, rfl, by rw [HS.out, if_neg hx], trivial⟩, by simp [intOf]; omega⟩
    · obtain rfl : k = 16 := by omega
      have hm := manyK_le v 16
      have henc : encV v = numB (manyK v 16) ++ ((v.take (manyK v 16)).map numB).flatten := rfl
      generalize manyK v 16 = m at *
      obtain ⟨w2, hw2⟩ : ∃ w2, w2 = wr.alloc (.cells #[.slice none 0 0] 72) := ⟨_, rfl⟩
      have hb2 : Below wr.heap.size wr w2 := by rw [hw2]; exact (Below.refl _ _).alloc (Nat.le_refl _) _
      have hS2 : SinkAt wr.heap.size (.slice none 0 0) [] w2 := ⟨by rw [hw2]; exact heap_alloc_new _ _, ⟨rfl, .inl ⟨rfl, rfl⟩⟩⟩
      have h2 := (hb2.block _ (lt_get h1)).trans h1
      have hnum := number_any wr.heap.size m (by omega) [] (by simp) _ w2 hS2
      have hwm : IntKind.u64.wrap (m : Int) = (m : Int) := IntWalk.u64_in _ (by omega)
      have hgw : w.heap.size < wr.heap.size := lt_get h1
      go_wp2_with fail
      rw [← hw2]
      clear hw2
      refine hnum.mono ?_
      rintro e w3 ⟨rfl, u3, hs3⟩
      have hne2 := hS2.ne_vec h2
      have h3 := (hs3.2.2.block _ (lt_get h2) (fun e => e.elim (fun e => by omega) (fun e => by cases e))).trans h2
      have hk3 : Kept (fun k => wr.heap.size ≤ k) wr w3 := (Kept.of_below hb2).trans ⟨hs3.2.2.os, hs3.2.2.tape, hs3.2.2.output, hs3.2.2.size, fun k hk he => hs3.2.2.block k hk (fun e => e.elim (fun e => he (by omega)) (fun e => by cases e))⟩
      have hS3 := hs3.1
      have hb3 : Below w.heap.size w w3 := below_kept hb1 hk3 (fun k e => by omega)
      have hu3 : ∀ b, u3.ownBlock = some b → wr.heap.size ≤ b := fun b hb => (by
        rcases Nat.lt_or_ge b w2.heap.size with h | h
        · have := hs3.2.1 b hb h; cases this
        · have := hb2.size; omega)
      rw [List.nil_append] at hS3
      have ss : ∀ W : World, (Instr.sliceAt 24 (.pointer (some ⟨w.heap.size, 0, none⟩)) none (some (.int .i64 (m : Int))) none).run Try.prog W = .ok (.slice (some ⟨w.heap.size, 0, none⟩) m 16) W := fun W => by
        have h1 : ((m : Int) ≤ 16) := by omega
        simp [Instr.sliceAt, Instr.sliceBounds, go_sem, Try.underlying24, Try.sizeOf22]
        intro h; omega
      clear hb2 hS2 h2 hnum hs3 hk3 hne2
      generalize wr.heap.size = g at *
      go_wp2_with fail
      go_loopw [24] (fun i wr => ∃ (j : Nat) (u : Value), j ≤ m ∧ i = .int .i64 (j : Int) ∧ SinkAt g u (numB m ++ ((v.take j).map numB).flatten) wr ∧ (numB m ++ ((v.take j).map numB).flatten).length ≤ 10 * (j + 1) ∧ (∀ b, u.ownBlock = some b → g ≤ b) ∧ wr.heap[w.heap.size]? = some (.cells (vC v) 24 (0, 0)) ∧ Below w.heap.size w wr) (fun i _ => m - (intOf i).toNat)
      case atStart => exact ⟨0, _, by omega, rfl, by simpa using hS3, by have := numB_ten m (by omega); simpa using this, hu3, h3, hb3⟩
      case round =>
        obtain ⟨j, u, hj, rfl, hS, hxl, hu, hV, hb⟩ := hrel
        clear hS3 hu3 h3 hb3
        by_cases hjm : j < m
        · have hjv : j < v.length := by omega
          have q : wr.cell? ⟨w.heap.size, j, none⟩ = some (.int .u32 (v[j] : Int)) := by rw [cell_of_row _ _ _ _ _ _ hV, vC_get _ _ hjv]
          have hx := sv v[j] (List.getElem_mem hjv)
          have htk : (v.take (j + 1)).map numB = (v.take j).map numB ++ [numB v[j]] := by rw [List.take_succ_eq_append_getElem hjv, List.map_append]; rfl
          have hwk : IntKind.i64.wrap ((j : Int) + 1) = (j : Int) + 1 := IntWalk.i64_in _ (by omega)
          have hji : (j : Int) < (m : Int) := by omega
          generalize v[j] = x at *
          have hnum := number_any g x (by omega) _ (by omega) u wr hS
          have hwx : IntKind.u64.wrap (x : Int) = (x : Int) := IntWalk.u64_in _ (by omega)
          have HT := Lib.hid htk
          clear htk
          go_wp2_with fail
          refine hnum.mono ?_
          rintro e w4 ⟨rfl, u4, hs4⟩
          have hne := hS.ne_vec hV
          have hV4 := (hs4.2.2.block _ (lt_get hV) (fun e => e.elim (fun e => by omega) (fun e => hne.1 e))).trans hV
          have hb4 : Below w.heap.size w w4 := below_kept hb hs4.2.2 (fun k e => e.elim (fun e => by omega) (fun e => by have := hu k e; omega))
          have hgz : g ≤ wr.heap.size := Nat.le_of_lt (lt_get hS.1)
          have hl10 := numB_ten x (by omega)
          clear hnum q
          go_wp2_with fail
          refine ⟨⟨j + 1, u4, by omega, rfl, ?_, ?_, ?_, hV4, hb4⟩, by simp [intOf]; omega⟩
          · rw [HT.out, List.flatten_append, ← List.append_assoc]
            simpa using hs4.1
          · rw [HT.out, List.flatten_append, ← List.append_assoc, List.length_append]
            simp only [List.flatten_cons, List.flatten_nil, List.append_nil]
            omega
          · intro b hb5
            rcases Nat.lt_or_ge b wr.heap.size with h | h
            · exact hu b (hs4.2.1 b hb5 h)
            · omega
        · obtain rfl : j = m := by omega
          have hall := all_any g u _ (by omega) wr hS
          have hji : ¬ (j : Int) < (j : Int) := by omega
          rw [← henc] at hall
          clear hS hxl
          go_wp2_with fail
          refine hall.mono ?_
          rintro e w5 ⟨r, rfl, hn⟩
          clear hall
          go_wp2_with fail
          go_ret
          exact ⟨_, rfl, own_mono hn.1 hb.size, below_then hb hn.2 (Nat.le_refl _)⟩
set_option maxRecDepth 100000 in
set_option maxHeartbeats 4000000 in
theorem rencode_any (v : List Nat) (hv : v.length = 16) (sv : small v) (w : World) :
    Calls Try.prog 32 #[.agg (vC v)] w fun e w' => ∃ r, e = .returned r ∧ NewRow w w' r (encV v) := by
  obtain ⟨w1, hw1⟩ : ∃ w1, w1 = w.alloc (.cells (vC v) 24) := ⟨_, rfl⟩
  have hb1 : Below w.heap.size w w1 := by rw [hw1]; exact (Below.refl _ _).alloc (Nat.le_refl _) _
  have h1 : w1.heap[w.heap.size]? = some (.cells (vC v) 24 (0, 0)) := by rw [hw1]; exact heap_alloc_new _ _
  go_enter Try.func32, Try.ntmps32
  go_wp2_with fail
  rw [← hw1]
  clear hw1
  go_loopw [3] (fun m wr => ∃ k : Nat, k ≤ 16 ∧ m = .int .i64 (k : Int) ∧ manyK v 16 = manyK v k ∧ wr = w1) (fun m _ => (intOf m).toNat)
  case atStart => exact ⟨16, by omega, rfl, rfl, rfl⟩
  case round =>
    obtain ⟨k, hk, rfl, hm, rfl⟩ := hrel
    by_cases hz : ∃ k', ∃ h : k' < v.length, k = k' + 1 ∧ v[k'] = 0
    · obtain ⟨k', hk', hkk, hv0⟩ := hz
      have hm2 : manyK v 16 = manyK v k' := by rw [hm, hkk, manyK, List.getD_eq_getElem?_getD, List.getElem?_eq_getElem hk', if_neg (by simp; omega)]
      have q : wr.cell? ⟨w.heap.size, k', none⟩ = some (.int .u32 0) := by rw [cell_of_row _ _ _ _ _ _ h1, vC_get _ _ hk', hv0]; rfl
      have hwk : IntKind.i64.wrap ((k : Int) - 1) = (k' : Int) := by rw [IntWalk.i64_in _ (by omega)]; omega
      have hkp : (0 : Int) < (k : Int) := by omega
      have hki : (k' : Int) < 16 := by omega
      have HM := Lib.hid hm2
      have HK := Lib.hid hkk
      clear hm hm2 hv0 hkk
      go_wp2_with fail
      have hkk := HK.out
      exact ⟨⟨k', by omega, rfl, HM.out, trivial⟩, by simp [intOf]; omega⟩
    · have hmk : manyK v 16 = k := by
        rw [hm]
        cases k with
        | zero => rfl
        | succ k' =>
          have hkl : k' < v.length := by omega
          have : v[k'] ≠ 0 := fun e => hz ⟨k', hkl, rfl, e⟩
          rw [manyK, List.getD_eq_getElem?_getD, List.getElem?_eq_getElem hkl, if_pos (by simp; omega)]
      have henc : encV v = numB k ++ ((v.take k).map numB).flatten := by unfold encV; rw [hmk]
      have hnum := rnumber_any k (by omega) wr
      have hwm : IntKind.u64.wrap (k : Int) = (k : Int) := IntWalk.u64_in _ (by omega)
      have hcase : ¬ (0 : Int) < (k : Int) ∨ ∃ (k' x : Nat), (0 : Int) < (k : Int) ∧ IntKind.i64.wrap ((k : Int) - 1) = (k' : Int) ∧ wr.cell? ⟨w.heap.size, k', none⟩ = some (.int .u32 (x : Int)) ∧ ((x : Int) == 0) = false ∧ (k' : Int) < 16 := by
        rcases Nat.eq_zero_or_pos k with h0 | h0
        · exact .inl (by omega)
        · have hkl : k - 1 < v.length := by omega
          have : v[k - 1] ≠ 0 := fun e => hz ⟨k - 1, hkl, by omega, e⟩
          exact .inr ⟨k - 1, v[k - 1], by omega, by rw [IntWalk.i64_in _ (by omega)]; omega, by rw [cell_of_row _ _ _ _ _ _ h1, vC_get _ _ hkl], by rw [beq_eq_false_iff_ne]; omega, by omega⟩
      clear hm hz hmk
      rcases hcase with hk0 | ⟨k', x, hkp, hwk, q, hx, hki⟩
      all_goals
        go_upto_region 4 with fail
        go_wp2_with fail
        refine hnum.mono ?_
        rintro e w3 ⟨r, rfl, hn⟩
        have h3 := (hn.2.block _ (lt_get h1)).trans h1
        have hb3 := below_then hb1 hn.2 (Nat.le_refl _)
        obtain ⟨A3, c3, rfl, _⟩ := RdC.of_own hn.1
        have hl3 := numB_ten k (by omega)
        have hgz : w.heap.size + 1 ≤ wr.heap.size := lt_get h1
        have ho3 := own_mono hn.1 hgz
        clear hnum
        go_wp2_with fail
        go_loopw [4, 5] (fun b i W => ∃ (j n : Nat) (uA : Option Addr) (uc : Nat), j ≤ k ∧ i = .int .i64 (j : Int) ∧ b = .slice uA n uc ∧ (numB k ++ ((v.take j).map numB).flatten).length = n ∧ n ≤ 10 * (j + 1) ∧ W.ownsRow (w.heap.size + 1) 5 1 (.slice uA n uc) n (u8v (numB k ++ ((v.take j).map numB).flatten)) ∧ W.heap[w.heap.size]? = some (.cells (vC v) 24 (0, 0)) ∧ Below w.heap.size w W) (fun _ i _ => k - (intOf i).toNat)
        case atStart => exact ⟨0, _, A3, c3, by omega, rfl, rfl, by simp, by omega, by simpa using ho3, h3, hb3⟩
        case round =>
          obtain ⟨j, n, uA, uc, hj, rfl, rfl, hxl, hnj, ho, hV, hb⟩ := hrel
          clear ho3 h3 hb3 hn
          by_cases hjm : j < k
          · have hjv : j < v.length := by omega
            have qj : wr.cell? ⟨w.heap.size, j, none⟩ = some (.int .u32 (v[j] : Int)) := by rw [cell_of_row _ _ _ _ _ _ hV, vC_get _ _ hjv]
            have hx32 := sv v[j] (List.getElem_mem hjv)
            have htk : (v.take (j + 1)).map numB = (v.take j).map numB ++ [numB v[j]] := by rw [List.take_succ_eq_append_getElem hjv, List.map_append]; rfl
            have hwj : IntKind.i64.wrap ((j : Int) + 1) = (j : Int) + 1 := IntWalk.i64_in _ (by omega)
            have hji : (j : Int) < (k : Int) := by omega
            have hj16 : (j : Int) < 16 := by omega
            generalize v[j] = y at *
            have hnum := rnumber_any y (by omega) wr
            have hwx : IntKind.u64.wrap (y : Int) = (y : Int) := IntWalk.u64_in _ (by omega)
            have HT := Lib.hid htk
            have hl10 := numB_ten y (by omega)
            clear htk
            go_wp2_with fail
            refine hnum.mono ?_
            rintro e w4 ⟨r4, rfl, hn4⟩
            have hgz4 : w.heap.size + 1 ≤ wr.heap.size := lt_get hV
            have hV4 := (hn4.2.block _ (lt_get hV)).trans hV
            have hb4 := below_then hb hn4.2 (Nat.le_refl _)
            have ho4 := own_below ho hn4.2
            obtain ⟨A4, c4, rfl, _, _, hr4, _⟩ := RdC.of_own hn4.1
            generalize hm4 : (numB y).length = m4 at *
            clear hnum qj
            go_wp2_with (first
              | (at_builtin; go_loud (refine wpList_app2 elt8 rfl (.tmp 25) (.tmp 30) rfl (w.heap.size + 1) (.slice uA n uc) n _ rfl ho4 A4 m4 c4 (u8v (numB y)) rfl (by rw [u8v_length]; omega) hr4 (u8v_one _) (by unfold maxLen; omega) (by omega) (Nat.le_trans hgz4 hn4.2.size) ?_; intro v' w6 ho6 hg6 hn6; obtain ⟨vA, vc, rfl, _⟩ := RdC.of_own ho6))
              | fail)
            have hV6 := (hg6.block _ (lt_get hV4) (fun e => by have := (ho4.lt _ e.symm).1; omega)).trans hV4
            refine ⟨⟨j + 1, n + m4, vA, vc, by omega, rfl, rfl, ?_, by omega, ?_, hV6, hb4.grown hg6 hb4.size fun b hb => by have := (ho4.lt b hb).1; omega⟩, by simp [intOf]; omega⟩
            · rw [HT.out, List.flatten_append, ← List.append_assoc, List.length_append, hxl]
              simp [hm4]
            · rw [HT.out, List.flatten_append, ← List.append_assoc, u8v_append]
              simpa using ho6
          · obtain rfl : j = k := by omega
            have hji : ¬ (j : Int) < (j : Int) := by omega
            rw [← henc] at hxl ho
            clear henc
            go_wp2_with fail
            go_ret
            exact ⟨_, rfl, by rw [hxl]; exact own_mono ho (by omega), hb⟩
end Go.Proofs.Ytfifbjlmbdgmjaa
