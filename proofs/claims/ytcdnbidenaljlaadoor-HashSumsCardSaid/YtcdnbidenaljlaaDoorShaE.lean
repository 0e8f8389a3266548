/- hash: Sum. -/
import Derived.Test.YtcdnbidenaljlaaDoorShaD
namespace Go.Proofs.YtcdnbidenaljlaaDoor
open Go.RowKit

theorem made_u8 (n : Nat) : (madeCells #[.int .u8 0] n).toList = u8v (List.replicate n 0) := by
  refine List.ext_getElem (by simp [madeCells, u8v]) fun j h1 h2 => ?_
  simp [madeCells, u8v, Nat.mod_one]
theorem mk_bytes (n : Nat) (h : n ≤ 1000000) : ∃ O : Obj, O = .cells (u8v (List.replicate n 0)).toArray 5 ∧ ∀ W : World, (Instr.makeSlice 22 (.int .i64 (n : Int)) (.int .i64 (n : Int))).run Tryd.prog W = .ok (.slice (some ⟨W.heap.size, 0, none⟩) n n) (W.alloc O) := by
  obtain ⟨i0, hi, hz0, hz1, hz2⟩ := info_parts elt8.hi
  refine ⟨_, rfl, fun W => ?_⟩
  have := run_make (P := Tryd.prog) W 22 5 i0 (.int .u8 0) Tryd.underlying22 hi hz0 .i64 .i64 n n (by omega) (Int.le_refl _) (by rw [hz2]; omega) (by omega)
  simp only [Int.toNat_natCast] at this
  rw [this, hz1, Nat.mul_one, ← made_u8 n]
  rfl
theorem zero_run : (Tryd.prog.info? 30).bind (fun i => i.zero.map Value.cells) = some (runC false S8.zero (.slice none 0 0) 0) := by kernel_rfl
theorem size_run : (Tryd.prog.info? 30).map (·.size) = some 11 := by kernel_rfl
theorem be_byte (n d : Nat) : ((UInt8.ofNat (n / d)).toNat : Int) = ((n : Int) / (d : Int)) % 256 := by
  rw [UInt8.toNat_ofNat']
  omega
theorem RunAtF.below {F : Nat → Prop} {g : Nat} {b : Bool} {l : List UInt8} {w W : World} (h : RunAtF F g b l w) (hb : Below w.heap.size w W) : RunAtF F g b l W := by
  obtain ⟨h1, A, c, h2⟩ := h
  exact ⟨h1, A, c, (hb.block _ (lt_of_get h2.row)).trans h2.row, h2.le, h2.nc, h2.cm, h2.rd.below hb, h2.nil, h2.far⟩
def bytesK (s : S8) (k : Nat) : List UInt8 := s.bytes.take (4 * k) ++ List.replicate (32 - 4 * k) 0
theorem bytes_len (s : S8) : s.bytes.length = 32 := rfl
theorem bytesK_length (s : S8) (k : Nat) (h : k ≤ 8) : (bytesK s k).length = 32 := by
  unfold bytesK
  rw [List.length_append, List.length_take, List.length_replicate, bytes_len]
  omega
theorem bytesK_full (s : S8) : bytesK s 8 = s.bytes := rfl
theorem bytesK_step (s : S8) (k : Nat) (h : k < 8) : splice (u8v (bytesK s k)) (4 * k) (u8v (be4 (s.l.getD k 0))) = u8v (bytesK s (k + 1)) := by
  obtain rfl | rfl | rfl | rfl | rfl | rfl | rfl | rfl : k = 0 ∨ k = 1 ∨ k = 2 ∨ k = 3 ∨ k = 4 ∨ k = 5 ∨ k = 6 ∨ k = 7 := by omega
  all_goals rfl
theorem slice_id (g k : Nat) (hk : k < 8) (W : World) : (Instr.sliceAt 25 (.pointer (some ⟨g, 0, none⟩)) (some (.int .i64 (4 * (k : Int)))) none none).run Tryd.prog W = .ok (.slice (some ⟨g, 4 * k, none⟩) (32 - 4 * k) (32 - 4 * k)) W := by
  obtain rfl | rfl | rfl | rfl | rfl | rfl | rfl | rfl : k = 0 ∨ k = 1 ∨ k = 2 ∨ k = 3 ∨ k = 4 ∨ k = 5 ∨ k = 6 ∨ k = 7 := by omega
  all_goals kernel_rfl
theorem be8_snoc (m k : Nat) (h : k < 8) : (be8 m).take (k + 1) = (be8 m).take k ++ [UInt8.ofNat (m / 2 ^ (56 - 8 * k))] := by
  obtain rfl | rfl | rfl | rfl | rfl | rfl | rfl | rfl : k = 0 ∨ k = 1 ∨ k = 2 ∨ k = 3 ∨ k = 4 ∨ k = 5 ∨ k = 6 ∨ k = 7 := by omega
  all_goals simp [be8]
set_option maxRecDepth 100000 in
set_option maxHeartbeats 2000000 in
theorem sum_both (rv : Value) (b : Bool) (l : List UInt8) (w : World) (hRv : (rv = .pointer none ∧ b = false ∧ l = []) ∨ ∃ F g, rv = .pointer (some ⟨g, 0, none⟩) ∧ RunAtF F g b l w) (hT : TabsOK w) (hlen : l.length ≤ 900000) :
    Calls Tryd.prog 10 #[rv] w fun e w' => e = .returned (.agg (idC (sha l))) ∧ Below w.heap.size w w' := by
  obtain ⟨Z, hZ0, hZ⟩ : ∃ Z : Array Value, (Tryd.prog.info? 25).bind (fun i => i.zero.map Value.cells) = some Z ∧ Hid (Z = idC zeros) := ⟨_, zero_id, rfl⟩
  obtain ⟨ZR, hZR0, hZRs, hZR⟩ : ∃ Z : Array Value, (Tryd.prog.info? 30).bind (fun i => i.zero.map Value.cells) = some Z ∧ Z.size = 11 ∧ Hid (Z = runC false S8.zero (.slice none 0 0) 0) := ⟨_, zero_run, rfl, rfl⟩
  obtain ⟨w1, hw1⟩ : ∃ w1, w1 = (w.alloc (.cells Z 25)).alloc (.cells ZR 30) := ⟨_, rfl⟩
  have hb1 : Below w.heap.size w w1 := by rw [hw1]; exact ((Below.refl _ w).alloc (Nat.le_refl _) _).alloc (by simp) _
  have q0 : w1.heap[w.heap.size]? = some (.cells Z 25 (0, 0)) := by rw [hw1]; exact heap_alloc2_old _ _ _
  have q1 : w1.heap[w.heap.size + 1]? = some (.cells ZR 30 (0, 0)) := by rw [hw1]; exact heap_alloc2_new _ _ _
  have z1 : w1.heap.size = w.heap.size + 2 := by rw [hw1]; simp
  have HW1 := Lib.hid hw1
  have Z1 := Lib.hid z1
  clear hw1 z1
  have hTg0 : ∀ W, Below w.heap.size w W → TabsOK W := fun W hb => hT.below hb
  rcases hRv with ⟨rfl, rfl, hl0⟩ | ⟨F, g, rfl, hR⟩
  case' inl =>
    have HL0 := Lib.hid hl0
    clear hl0
    go_enter Tryd.func10, Tryd.ntmps10
    go_upto_region 5 with (first
      | (with_reducible refine wpList_alloc_z rfl 25 rfl Z hZ0 ?_)
      | (with_reducible refine wpList_alloc_z rfl 30 rfl ZR hZR0 ?_)
      | fail)
    rw [← HW1.out]
    obtain ⟨w4, hw4⟩ : ∃ w4, w4 = w1 := ⟨_, rfl⟩
    rw [← hw4]
    have hb4 : Below w.heap.size w w4 := by rw [hw4]; exact hb1
    have hz4 : w.heap.size + 2 ≤ w4.heap.size := by rw [hw4, Z1.out]; omega
    have q04 : w4.heap[w.heap.size]? = some (.cells Z 25 (0, 0)) := by rw [hw4]; exact q0
    have hRA : RunAt w.heap.size (w.heap.size + 1) false l w4 := by
      rw [HL0.out]
      exact ⟨fun _ => rfl, none, 0, by rw [hw4, q1, hZR.out]; rfl, by decide, by decide, by unfold maxLen; omega, RdC.nil _ _, fun _ => rfl, fun ad e => by cases e⟩
    clear hw4 HW1 Z1 hb1 q0 q1 hZR0 hZRs hZR hT
  case' inr =>
    obtain ⟨hbl, A, c, hR⟩ := hR
    have hrow := hR.row
    obtain ⟨V, hV, hVs, hV1⟩ : ∃ V : Array Value, Hid (V = runC b (stOf b l) (.slice A (l.length - 64 * (l.length / 64)) c) (l.length : Int)) ∧ V.size = 11 ∧ (∀ u ∈ V.toList, u.oneCell' = true) := ⟨_, rfl, rfl, by simp [runC, Value.oneCell']⟩
    have hVi : (Tryd.prog.info? 30).map (·.size) = some V.size := by rw [hVs]; exact size_run
    have hVz : V.size = ZR.size := by rw [hVs, hZRs]
    have hrow1 := (hb1.block _ (lt_of_get hrow)).trans hrow
    have hlt := lt_of_get hrow
    have hcl := clone_any A (l.length - 64 * (l.length / 64)) c (l.drop (64 * (l.length / 64))) (by rw [List.length_drop]) hR.nc (by omega)
    rw [← hV.out] at hrow1
    obtain ⟨w2, hw2⟩ : ∃ w2, w2 = w1.setRow (w.heap.size + 1) V := ⟨_, rfl⟩
    have hb2 : Below w.heap.size w w2 := by rw [hw2]; exact below_setRow hb1 (by omega) V
    have q12 : w2.heap[w.heap.size + 1]? = some (.cells V 30 (0, 0)) := by rw [hw2]; exact setRow_heap _ _ _ _ _ _ q1
    have q02 : w2.heap[w.heap.size]? = some (.cells Z 25 (0, 0)) := by rw [hw2, setRow_other _ _ _ _ (by omega)]; exact q0
    have z2 : w2.heap.size = w.heap.size + 2 := by rw [hw2]; simp [World.setRow, Z1.out]
    have c9 : w2.cell? ⟨g, 9, none⟩ = some (.slice A (l.length - 64 * (l.length / 64)) c) := by
      rw [cell_of_row _ _ _ _ _ _ ((hb2.block _ hlt).trans hrow)]
      rfl
    have HW2 := Lib.hid hw2
    have Z2 := Lib.hid z2
    have hrd := hR.rd.below hb2
    obtain ⟨r, hr⟩ : ∃ r, r = l.length - 64 * (l.length / 64) := ⟨_, rfl⟩
    rw [← hr] at c9 hcl
    have HR := Lib.hid hr
    clear hw2 z2 hr
    go_enter Tryd.func10, Tryd.ntmps10
    go_upto_region 4 with (first
      | (with_reducible refine wpList_alloc_z rfl 25 rfl Z hZ0 ?_)
      | (with_reducible refine wpList_alloc_z rfl 30 rfl ZR hZR0 ?_; rw [← HW1.out])
      | (with_reducible refine wpList_load_row rfl 30 (.tmp 13) rfl _ rfl 30 V _ _ hrow1 Tryd.underlying30 rfl hVi ?_)
      | (with_reducible refine wpList_store_z rfl 30 (.tmp 3) (.tmp 14) rfl _ rfl V rfl ZR _ q1 hVz hVi hV1 ?_)
      | fail)
    rw [← HW2.out]
    go_upto_region 5 with (first
      | (go_at_call 28; go_loud (refine (hcl w2 hrd).mono ?_; rintro e w3 ⟨v3, rfl, ho3, hb3⟩; obtain ⟨A3, c3, rfl, k1, k2, k3, k4⟩ := RdC.of_own ho3; have q13 := (hb3.block _ (lt_of_get q12)).trans q12; have hc13 : w3.cell? ⟨w.heap.size + 1, 9, none⟩ = some (.slice A r c) := (by rw [cell_of_row _ _ _ _ _ _ q13, hV.out, ← HR.out]; rfl); have f13 : w3.frozen? ⟨w.heap.size + 1, 9, none⟩ = false := frozen_of_row w3 _ 9 _ _ q13))
      | fail)
    obtain ⟨w4, hw4⟩ : ∃ w4, w4 = w3.setCell ⟨w.heap.size + 1, 9, none⟩ (.slice A3 r c3) := ⟨_, rfl⟩
    rw [← hw4]
    have hg4 : w3.grownBy w4 (some (w.heap.size + 1)) := by rw [hw4]; exact ⟨rfl, rfl, rfl, by simp, fun j _ hj => heap_setCell_other _ _ _ _ (fun e => hj (by rw [e]))⟩
    have hb4 : Below w.heap.size w w4 := by rw [hw4]; exact (below_then hb2 hb3 (by have := Z2.out; omega)).setCell (p := ⟨w.heap.size + 1, 9, none⟩) (show w.heap.size ≤ w.heap.size + 1 by omega) _
    have hz4 : w.heap.size + 2 ≤ w4.heap.size := by have := hg4.size; have := hb3.size; have := Z2.out; omega
    have q04 : w4.heap[w.heap.size]? = some (.cells Z 25 (0, 0)) := by rw [hw4, heap_setCell_other _ _ _ _ (by simp)]; exact (hb3.block _ (lt_of_get q02)).trans q02
    have hRc : RunK w.heap.size (w.heap.size + 1) b (stOf b l) l (l.length / 64) A3 c3 w4 := by
      have hne : ∀ ad, A3 = some ad → w.heap.size ≤ ad.block ∧ ad.block ≠ w.heap.size + 1 := fun ad e => by have := k4 ad e; have := Z2.out; omega
      refine ⟨?_, hR.le, by rw [← HR.out]; exact k1, k2, k3.grown hg4 (fun ad e h => (hne ad e).2 (Option.some.inj h)), fun e => ?_, fun ad e => ⟨fun _ => (hne ad e).1, (hne ad e).2⟩⟩
      · rw [hw4, heap_setCell_same _ _ _ _ _ _ q13, hV.out, runC_9, ← HR.out]
      · subst e
        rcases ho3.2 with ⟨_, h⟩ | ⟨g', cap, cur, h, _⟩
        · rw [← HR.out]; exact h
        · cases h
    have hRA : RunAt w.heap.size (w.heap.size + 1) b l w4 := ⟨hbl, _, _, hRc⟩
    clear hw4 hg4 hRc hR hrow hV hVs hV1 hVi hVz hrow1 hlt hcl hb2 q12 q02 c9 HW2 Z2 hrd HR HW1 Z1 hb1 q0 q1 hZR0 hZRs hZR k1 k2 k3 k4 ho3 hb3 q13 hc13 f13 hT
  all_goals
    have hTg : TabsOK w4 := hTg0 w4 hb4
    obtain ⟨hbl', A', c', hRc⟩ := id hRA
    have hrc := hRc.row
    have c10 : w4.cell? ⟨w.heap.size + 1, 10, none⟩ = some (.int .i64 (l.length : Int)) := by rw [cell_of_row _ _ _ _ _ _ hrc]; rfl
    clear hRc hbl' hrc
    obtain ⟨n, hn⟩ : ∃ n, n = l.length := ⟨_, rfl⟩
    obtain ⟨z, hz⟩ : ∃ z, z = noughts n := ⟨_, rfl⟩
    have hz64 : z < 64 := by rw [hz]; unfold noughts; omega
    have hz1 := Lib.hid (show (119 - (n : Int)) % 64 = (z : Int) by rw [hz]; unfold noughts; omega)
    have hz2 := Lib.hid (show (119 - (n : Int) % 64) % 64 = (z : Int) by rw [hz]; unfold noughts; omega)
    have hzI : (1 : Int) + (119 - (n : Int)) % 64 = ((1 + z : Nat) : Int) := by have := hz1.out; omega
    rw [← hn] at c10 hlen
    obtain ⟨O, hO, hmk⟩ := mk_bytes (1 + z) (by omega)
    rw [← hzI] at hmk
    have HN := Lib.hid hn
    have HZ := Lib.hid hz
    have HO := Lib.hid hO
    clear hn hz hO hzI
    go_upto_region 7 with (fail)
    rw [hz2.out, hz1.out]
    obtain ⟨w5, hw5⟩ : ∃ w5, w5 = w4.alloc O := ⟨_, rfl⟩
    have q5 : w5.heap[w4.heap.size]? = some (.cells (u8v (List.replicate (1 + z) 0)).toArray 5 (0, 0)) := by rw [hw5, HO.out]; exact heap_alloc_new _ _
    have hb5 : Below w4.heap.size w4 w5 := by rw [hw5]; exact (Below.refl _ _).alloc (Nat.le_refl _) _
    have c50 : w5.cell? ⟨w4.heap.size, 0, none⟩ = some (.int .u8 0) := by
      rw [cell_of_row _ _ _ _ _ _ q5, Nat.add_comm 1 z, List.replicate_succ]
      rfl
    have f50 : w5.frozen? ⟨w4.heap.size, 0, none⟩ = false := frozen_of_row w5 _ 0 _ _ q5
    have h1z : 0 < 1 + z := by omega
    rw [← hw5]
    obtain ⟨w6, hw6⟩ : ∃ w6, w6 = w5.setCell ⟨w4.heap.size, 0, none⟩ (.int .u8 128) := ⟨_, rfl⟩
    have q6 : w6.heap[w4.heap.size]? = some (.cells (u8v (128 :: List.replicate z 0)).toArray 5 (0, 0)) := by
      rw [hw6, heap_setCell_same _ _ _ _ _ _ q5, Nat.add_comm 1 z, List.replicate_succ]
      rfl
    have hb6 : Below w4.heap.size w4 w6 := by rw [hw6]; exact hb5.setCell (p := ⟨w4.heap.size, 0, none⟩) (Nat.le_refl _) _
    have ho6 : w6.ownsRow w4.heap.size 5 1 (.slice (some ⟨w4.heap.size, 0, none⟩) (1 + z) (1 + z)) (1 + z) (u8v (128 :: List.replicate z 0)) := by
      have hl : (u8v (128 :: List.replicate z 0)).length = (1 + z) * 1 := by rw [u8v_length, List.length_cons, List.length_replicate]; omega
      exact ⟨hl, .inr ⟨_, 1 + z, _, rfl, Nat.le_refl _, q6, Nat.le_refl _, by unfold maxLen; omega, by simpa using hl, List.take_of_length_le (by simpa using Nat.le_of_eq hl)⟩⟩
    have HW6 := Lib.hid hw6
    clear hz1 hz2 hw6 hw5 hmk q5 hb5 q6 c10
    go_upto_region 8 with (fail)
    rw [← HW6.out]
    go_wp2_with fail
    go_loopw [5, 6] (fun t i wr => ∃ (k s : Nat), k ≤ 8 ∧ s + 8 * k = 64 ∧ i = .int .i64 ((s : Int) - 8) ∧ wr.ownsRow w4.heap.size 5 1 t (1 + z + k) (u8v (128 :: List.replicate z 0 ++ (be8 (8 * n)).take k)) ∧ Below w4.heap.size w4 wr) (fun _ i _ => (intOf i + 8).toNat)
    case atStart => exact ⟨0, 64, by omega, by omega, rfl, by rw [List.take_zero, List.append_nil]; exact ho6, hb6⟩
    case round =>
      obtain ⟨k, s, hk, hs, rfl, hown, hbr⟩ := hrel
      clear ho6 hb6 HW6 c50 f50
      by_cases hlt : k < 8
      · obtain ⟨s, rfl⟩ : ∃ s', s = s' + 8 := ⟨s - 8, by omega⟩
        have e8 : (((s + 8 : Nat) : Int) - 8) = (s : Int) := by omega
        rw [e8]
        have hs56 : s = 56 - 8 * k := by omega
        have hby := be8_snoc (8 * n) k hlt
        rw [← hs56] at hby
        have hs0 : (0 : Int) ≤ (s : Int) := by omega
        have hs64 : s < 64 := by omega
        obtain ⟨y, hy⟩ : ∃ y, y = UInt8.ofNat (8 * n / 2 ^ s) := ⟨_, rfl⟩
        have hv : (n : Int) * 8 / 2 ^ s % 256 = (y.toNat : Int) := by
          rw [hy, UInt8.toNat_ofNat']
          rw [Int.natCast_emod, Int.natCast_ediv, Int.natCast_mul, Int.natCast_pow, Int.mul_comm]
          rfl
        rw [← hy] at hby
        have HBY := Lib.hid hby
        obtain ⟨wx, hwx⟩ : ∃ wx, wx = wr.alloc (.cells #[.int .u8 (y.toNat : Int)] 5) := ⟨_, rfl⟩
        have hbx : Below wr.heap.size wr wx := by rw [hwx]; exact (Below.refl _ _).alloc (Nat.le_refl _) _
        have hox := own_below hown hbx
        have hrx : RdC wx (some ⟨wr.heap.size, 0, none⟩) (u8v [y]) := fun j u hj => by
          refine ⟨_, rfl, ?_⟩
          have hg : wx.heap[wr.heap.size]? = some (.cells #[.int .u8 (y.toNat : Int)] 5 (0, 0)) := by rw [hwx]; exact heap_alloc_new _ _
          rw [addr_add_plain, Nat.zero_add, cell_of_row _ _ _ _ _ _ hg, ← hj, ← Array.getElem?_toList]
          rfl
        have hsx := below_then hbr hbx (by have := hbr.size; omega)
        have HWX := Lib.hid hwx
        clear hs56 e8 hby hy hwx
        go_wp2_with (first
          | (at_builtin; go_loud (rw [← HWX.out]; refine wpList_app elt8 rfl (.tmp 38) (.tmp 43) rfl w4.heap.size _ (1 + z + k) (u8v (128 :: List.replicate z 0 ++ (be8 (8 * n)).take k)) rfl hox (some ⟨wr.heap.size, 0, none⟩) 1 1 (u8v [y]) rfl rfl hrx (u8v_one _) (by unfold maxLen; omega) (by omega) hsx.size ?_; intro v' w' ho hg; have hbn := below_grown hsx hox hg hsx.size (Nat.le_refl _)))
          | fail)
        have hs2 : s + 8 * (k + 1) = 64 := by omega
        have ho2 : w'.ownsRow w4.heap.size 5 1 v' (1 + z + (k + 1)) (u8v (128 :: List.replicate z 0 ++ (be8 (8 * n)).take (k + 1))) := by
          rw [HBY.out, ← List.append_assoc, u8v_append]; exact ho
        clear ho hg hbx hox hrx hsx hs
        go_roundw
        case rel =>
          exact ⟨k + 1, s, by omega, hs2, rfl, ho2, hbn⟩
        case measure => simp [intOf]; omega
      · obtain rfl : k = 8 := by omega
        obtain rfl : s = 0 := by omega
        obtain ⟨A5, c5, rfl, p1, p2, p3, p4⟩ := RdC.of_own hown
        have hRAr := hRA.below hbr
        have hTr := hTg0 wr (below_then hb4 hbr (by have := hb4.size; omega))
        have hsz := hbr.size
        have hadd := add_any w.heap.size (w.heap.size + 1) _ l wr hRAr (by omega) hTr A5 (1 + z + 8) c5 (128 :: List.replicate z 0 ++ (be8 (8 * n)).take 8) (by simp [be8]; omega) p1 p3 (fun ad e => .inl (by have := p4 ad e; omega)) (by rw [← HN.out]; omega)
        have htl : 128 :: List.replicate z 0 ++ (be8 (8 * n)).take 8 = tailB l.length := by rw [← HN.out, HZ.out]; rfl
        rw [htl] at hadd
        have hb0r := below_then hb4 hbr (by have := hb4.size; omega)
        have q0r := (hbr.block _ (lt_of_get q04)).trans q04
        clear p1 p2 p3 p4 hown hTr hRA hRAr hbr hb4
        go_upto_region 13 with (first
          | (go_at_call 9; refine hadd.mono ?_; rintro e w7 ⟨rfl, hR7, hg7⟩)
          | fail)
        have q07 := (hg7.block _ (lt_of_get q0r) (by simp)).trans q0r
        have hb07 : Below w.heap.size w w7 := ⟨hg7.os.trans hb0r.os, hg7.tape.trans hb0r.tape, hg7.output.trans hb0r.output, Nat.le_trans hb0r.size hg7.size, fun j hj => (hg7.block j (by have := hb0r.size; omega) (by simp; omega)).trans (hb0r.block j hj)⟩
        obtain ⟨_, A7, c7, hK7⟩ := hR7
        have q17 := hK7.row
        obtain ⟨st, hst⟩ : ∃ st, st = stOf true (l ++ tailB l.length) := ⟨_, rfl⟩
        rw [← hst] at q17
        have hsha : sha l = st.bytes := by rw [hst]; rfl
        have HSH := Lib.hid hsha
        obtain ⟨w8, hw8⟩ : ∃ w8, w8 = w7.alloc (.cells Z 25) := ⟨_, rfl⟩
        have hb8 : Below w7.heap.size w7 w8 := by rw [hw8]; exact (Below.refl _ _).alloc (Nat.le_refl _) _
        have q08 := (hb8.block _ (lt_of_get q07)).trans q07
        have q18 := (hb8.block _ (lt_of_get q17)).trans q17
        have qi8 : w8.heap[w7.heap.size]? = some (.cells Z 25 (0, 0)) := by rw [hw8]; exact heap_alloc_new _ _
        have hb08 : Below w.heap.size w w8 := below_then hb07 hb8 (Nat.le_refl _)
        have hrg : w8.rangeAt (w.heap.size + 1) 1 (u32C st.l).toList := fun j v hj => by
          rw [cell_of_row _ _ _ _ _ _ q18]
          have hj8 : j < 8 := by
            have := (List.getElem?_eq_some_iff.1 hj).1
            simpa [u32C, S8.l] using this
          obtain rfl | rfl | rfl | rfl | rfl | rfl | rfl | rfl : j = 0 ∨ j = 1 ∨ j = 2 ∨ j = 3 ∨ j = 4 ∨ j = 5 ∨ j = 6 ∨ j = 7 := by omega
          all_goals exact hj
        have hsz7 : w.heap.size + 1 < w7.heap.size := lt_of_get q17
        have HW8 := Lib.hid hw8
        have hrl : (Tryd.prog.info? 28).map (·.size) = some (u32C st.l).toList.length := size_8
        clear hw8 hst hsha hK7 q17 q07 hb07 hb8 hg7 q0r hb0r
        go_upto_region 14 with (first
          | (with_reducible refine wpList_alloc_z rfl 25 rfl Z hZ0 ?_)
          | fail)
        rw [← HW8.out]
        go_wp2_with (first
          | (with_reducible refine wpList_load_mid rfl 28 (.tmp 47) rfl (w.heap.size + 1) 1 rfl (u32C st.l).toList _ hrg Tryd.underlying28 rfl hrl ?_)
          | fail)
        rw [hZ.out] at qi8
        go_loopw [49] (fun i wr => ∃ k : Nat, k ≤ 8 ∧ i = .int .i64 (k : Int) ∧ wr.heap[w7.heap.size]? = some (.cells (idC (bytesK st k)) 25 (0, 0)) ∧ wr.heap[w.heap.size]? = some (.cells Z 25 (0, 0)) ∧ Below w.heap.size w wr) (fun i _ => 8 - (intOf i).toNat)
        case atStart => exact ⟨0, by omega, rfl, qi8, q08, hb08⟩
        case round =>
          obtain ⟨k, hk, rfl, gi, g0, gb⟩ := hrel
          clear qi8 q08 hb08 q18 hrg
          by_cases hlt : k < 8
          · have hix : ∀ W, (Instr.index 28 (.agg (u32C st.l)) (.int .i64 (k : Int))).run Tryd.prog W = .ok (.int .u32 (st.l.getD k 0 : Nat)) W := fun W => run_index_agg (P := Tryd.prog) W 28 27 8 .i64 (k : Int) (u32C st.l) _ Tryd.underlying28 (by kernel_rfl) (Tryd.isAgg27 W) (by omega) (by omega) (u32C_get _ _ hlt)
            have hki : (k : Int) < 8 := by omega
            have hsl := slice_id w7.heap.size k hlt
            have hstep := bytesK_step st k hlt
            generalize st.l.getD k 0 = x at *
            obtain ⟨y0, hy0⟩ : ∃ y, y = UInt8.ofNat (x / 16777216) := ⟨_, rfl⟩
            obtain ⟨y1, hy1⟩ : ∃ y, y = UInt8.ofNat (x / 65536) := ⟨_, rfl⟩
            obtain ⟨y2, hy2⟩ : ∃ y, y = UInt8.ofNat (x / 256) := ⟨_, rfl⟩
            obtain ⟨y3, hy3⟩ : ∃ y, y = UInt8.ofNat x := ⟨_, rfl⟩
            have v0 : (x : Int) / 16777216 % 256 = (y0.toNat : Int) := by rw [hy0, UInt8.toNat_ofNat']; omega
            have v1 : (x : Int) / 65536 % 256 = (y1.toNat : Int) := by rw [hy1, UInt8.toNat_ofNat']; omega
            have v2 : (x : Int) / 256 % 256 = (y2.toNat : Int) := by rw [hy2, UInt8.toNat_ofNat']; omega
            have v3 : (x : Int) % 256 = (y3.toNat : Int) := by rw [hy3, UInt8.toNat_ofNat']; omega
            have hbe : be4 x = [y0, y1, y2, y3] := by unfold be4; rw [hy0, hy1, hy2, hy3]
            rw [hbe] at hstep
            have HST := Lib.hid hstep
            clear hstep hbe hy0 hy1 hy2 hy3
            obtain ⟨wx, hwx⟩ : ∃ wx, wx = wr.alloc (.cells #[.int .u8 (y0.toNat : Int), .int .u8 (y1.toNat : Int), .int .u8 (y2.toNat : Int), .int .u8 (y3.toNat : Int)] 5) := ⟨_, rfl⟩
            have hbx : Below wr.heap.size wr wx := by rw [hwx]; exact (Below.refl _ _).alloc (Nat.le_refl _) _
            have hgx : wx.heap[wr.heap.size]? = some (.cells #[.int .u8 (y0.toNat : Int), .int .u8 (y1.toNat : Int), .int .u8 (y2.toNat : Int), .int .u8 (y3.toNat : Int)] 5 (0, 0)) := by rw [hwx]; exact heap_alloc_new _ _
            have gix := (hbx.block _ (lt_of_get gi)).trans gi
            have HWX := Lib.hid hwx
            have hbx' : Below w7.heap.size wr wx := hbx.mono (Nat.le_of_lt (lt_of_get gi))
            have hmin : Nat.min 4 (32 - 4 * k) = 4 := Nat.min_eq_left (by omega)
            have hcs : (u8v [y0, y1, y2, y3]).length = Nat.min 4 (32 - 4 * k) := by rw [hmin]; rfl
            have hfit : 4 * k + (u8v [y0, y1, y2, y3]).length ≤ (u8v (bytesK st k)).length := by rw [u8v_length, u8v_length, bytesK_length _ _ hk]; show 4 * k + 4 ≤ 32; omega
            have hpos : 0 < (u8v [y0, y1, y2, y3]).length → (some (⟨w7.heap.size, 4 * k, none⟩ : Addr)) = some ⟨w7.heap.size, 4 * k, none⟩ ∧ ∃ ad, (some (⟨wr.heap.size, 0, none⟩ : Addr)) = some ad ∧ ∀ j v, (u8v [y0, y1, y2, y3])[j]? = some v → wx.cell? (ad.add j) = some v := fun _ => ⟨rfl, _, rfl, fun j v hj => by
              rw [addr_add_plain, Nat.zero_add, cell_of_row _ _ _ _ _ _ hgx, ← hj, ← Array.getElem?_toList]
              rfl⟩
            have hb7 : w.heap.size + 2 ≤ w7.heap.size := by omega
            have HC := Lib.hid hcs
            clear hwx hmin hcs
            have hgx' : wx.heap[w7.heap.size]? = some (.cells (u8v (bytesK st k)).toArray 25 (0, 0)) := gix
            go_wp2_with (first
              | (rw [← HWX.out]; refine wpList_copy_splice rfl (.tmp 55) (.tmp 67) 22 22 rfl 5 Tryd.underlying22 (by kernel_rfl) (some ⟨w7.heap.size, 4 * k, none⟩) (some ⟨wr.heap.size, 0, none⟩) (32 - 4 * k) (32 - 4 * k) 4 4 rfl rfl w7.heap.size (4 * k) (u8v (bytesK st k)) 25 hgx' (u8v [y0, y1, y2, y3]) HC.out hpos hfit (u8v_one _) w7.heap.size wr hbx' (Nat.le_refl _) ?_; intro wn hgn hbn)
              | fail)
            have gin := hgn.out
            rw [HST.out] at gin
            have g0n := (hbn.block _ (by omega)).trans g0
            have gbn : Below w.heap.size w wn := ⟨hbn.os.trans gb.os, hbn.tape.trans gb.tape, hbn.output.trans gb.output, Nat.le_trans gb.size hbn.size, fun j hj => (hbn.block j (by omega)).trans (gb.block j hj)⟩
            exact ⟨⟨k + 1, by omega, rfl, gin, g0n, gbn⟩, by simp [intOf]; omega⟩
          · obtain rfl : k = 8 := by omega
            rw [bytesK_full, ← HSH.out] at gi
            obtain ⟨D, hD, hDs, hD1⟩ : ∃ D : Array Value, Hid (D = idC (sha l)) ∧ D.size = 32 ∧ (∀ u ∈ D.toList, u.oneCell' = true) := ⟨_, rfl, by rw [idC_size]; rfl, by simpa [idC] using u8v_one (sha l)⟩
            rw [← hD.out] at gi
            have hDi : (Tryd.prog.info? 25).map (·.size) = some D.size := by rw [hDs]; exact size_id
            have hDz : D.size = Z.size := by rw [hDs, hZ.out, idC_size]; rfl
            have gr := setRow_heap wr w.heap.size _ D _ _ g0
            have gbr := below_setRow gb (Nat.le_refl w.heap.size) D
            go_wp2_with (first
              | (with_reducible refine wpList_load_row rfl 25 (.tmp 7) rfl _ rfl 25 D _ _ gi Tryd.underlying25 rfl hDi ?_)
              | (with_reducible refine wpList_store_z rfl 25 (.tmp 2) (.tmp 70) rfl _ rfl D rfl Z _ g0 hDz hDi hD1 ?_)
              | fail)
            exact bodyPost_ret (results_cell_row rfl _ _ w.heap.size 25 D (0, 0) _ rfl gr Tryd.underlying25 rfl hDi) rfl ⟨by rw [hD.out], gbr⟩
theorem sum_anyF (F : Nat → Prop) (g : Nat) (b : Bool) (l : List UInt8) (w : World) (hR : RunAtF F g b l w) (hT : TabsOK w) (hlen : l.length ≤ 900000) :
    Calls Tryd.prog 10 #[.pointer (some ⟨g, 0, none⟩)] w fun e w' => e = .returned (.agg (idC (sha l))) ∧ Below w.heap.size w w' := sum_both _ b l w (.inr ⟨F, g, rfl, hR⟩) hT hlen
theorem sum_any (B g : Nat) (b : Bool) (l : List UInt8) (w : World) (hR : RunAt B g b l w) (hT : TabsOK w) (hlen : l.length ≤ 900000) :
    Calls Tryd.prog 10 #[.pointer (some ⟨g, 0, none⟩)] w fun e w' => e = .returned (.agg (idC (sha l))) ∧ Below w.heap.size w w' := sum_anyF _ g b l w hR hT hlen
theorem sum_nil (w : World) (hT : TabsOK w) :
    Calls Tryd.prog 10 #[.pointer none] w fun e w' => e = .returned (.agg (idC (sha []))) ∧ Below w.heap.size w w' := sum_both _ false [] w (.inl ⟨rfl, rfl, rfl⟩) hT (by simp)
end Go.Proofs.YtcdnbidenaljlaaDoor
