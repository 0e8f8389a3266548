/- The law NetNames, walked (printed by gen_netnames.py). -/
import Derived.Test.YtfojlmnlolnilaaNetNz
namespace Go.Proofs.Ytfojlmnlolnilaa
open Go.RowKit
attribute [local go_sem] Oper.semAt_some

theorem nn1 : spoilL [98] false 0 3 = [97] := by decide
theorem nn2 : spoilL [97, 98, 99, 100, 101, 102, 103] false 2 67305985 = [97, 98, 98, 102, 102, 98, 103] := by decide
theorem nn3 : spoilL [97, 98, 99] false 2 67305985 = [97, 98, 98] := by decide
theorem nn4 : spoilL [] false 0 1 = [] := by decide
theorem nn5 : spoilL [97] true 5 0 = [] := by decide
theorem lit_str (cs : Array Value) (l : List UInt8) (n : Nat) (h : cs.toList = u8v l) (hn : l.length = n) (W : World) : (convert 22 9 (.slice (some ⟨W.heap.size, 0, none⟩) n n)).run Try.prog (W.alloc (.cells cs 5)) = .ok (.string (bstr l)) (W.alloc (.cells cs 5)) := by
  subst hn
  exact run_string_of (P := Try.prog) _ 22 9 5 Try.underlying22 Try.underlying5 Try.underlying9 _ l l.length (rd_lit (heap_alloc_new _ _) h)
set_option maxRecDepth 100000 in
set_option maxHeartbeats 32000000 in
theorem netNames_walk (w : World) : Calls Try.prog 8 #[] w fun e w' => e = .returned (.bool true) ∧ Below w.heap.size w w' := by
  obtain ⟨w0, hw0⟩ : ∃ w0, w0 = w.alloc (.cells #[.int .i64 3, .slice none 0 0, .int .i64 0, .int .i64 0, .int .i64 0] 70) := ⟨_, rfl⟩
  have hb0 : Below w.heap.size w w0 := by rw [hw0]; exact (Below.refl _ _).alloc (Nat.le_refl _) _
  have hc0 : NetC w.heap.size 3 (.slice none 0 0) 0 0 0 w0 := by rw [hw0]; exact heap_alloc_new _ _
  have hN0 := NetAt.fresh w.heap.size w.heap.size 3 w0 (Nat.le_refl _) hc0
  have hnew := new_ok 3 (by omega) (by omega) w
  rw [← hw0] at hnew
  clear hw0 hc0
  go_enter Try.func8, Try.ntmps8
  go_wp2_with (go_at_call 11; refine hnew.mono ?_; rintro e w' ⟨rfl, hw'⟩; rw [hw']; clear hw')
  clear hnew
  refine (of_any [97] w0).mono ?_
  rintro e w1 ⟨b1, k1, rfl, hr1, hb1, hg1⟩
  have hN1 := hN0.below hb1
  have hz0 := lt_get hN0.c
  go_wp2_with fail
  refine (send_ok w.heap.size w.heap.size 3 _ 0 0 0 [] w1 hN1 (below_then hb0 hb1 (by omega)).size (by omega) (by omega) (by omega) (by omega) (by decide) 0 1 (some ⟨b1, 0, none⟩) _ k1 [97] (by simp) rfl hr1 (fun ad e _ => by cases e; show b1 ≠ _; omega)).mono ?_
  rintro e w2 ⟨rfl, A2, c2, A2', c2', hN2, _, hk2⟩
  replace hN2 : NetAt w.heap.size w.heap.size 3 (.slice A2 1 c2) 1 0 0 [⟨0, 1, A2', 1, c2', [97], false⟩] w2 := hN2
  have hb2 : Below w.heap.size w w2 := below_kept (below_then hb0 hb1 (by omega)) hk2 (fun k e => by omega)
  clear hk2 hN1 hr1 hg1 hb1 hb0 hN0 hz0
  go_wp2_with fail
  refine (of_any [98] w2).mono ?_
  rintro e w3 ⟨b3, k3, rfl, hr3, hb3, hg3⟩
  have hN3 := hN2.below hb3
  have hz2 := lt_get hN2.c
  go_wp2_with fail
  refine (send_ok w.heap.size w.heap.size 3 _ 1 0 0 [⟨0, 1, A2', 1, c2', [97], false⟩] w3 hN3 (below_then hb2 hb3 (by omega)).size (by omega) (by omega) (by omega) (by omega) (by simp) 0 1 (some ⟨b3, 0, none⟩) _ k3 [98] (by simp) rfl hr3 (fun ad e _ => by cases e; show b3 ≠ _; omega)).mono ?_
  rintro e w4 ⟨rfl, A4, c4, A4', c4', hN4, _, hk4⟩
  replace hN4 : NetAt w.heap.size w.heap.size 3 (.slice A4 2 c4) 2 0 0 [⟨0, 1, A2', 1, c2', [97], false⟩, ⟨0, 1, A4', 1, c4', [98], false⟩] w4 := hN4
  have hb4 : Below w.heap.size w w4 := below_kept (below_then hb2 hb3 (by omega)) hk4 (fun k e => by omega)
  clear hk4 hN3 hr3 hg3 hb3 hb2 hN2 hz2
  go_wp2_with fail
  have big2 : ∀ y ∈ [(⟨0, 1, A2', 1, c2', [97], false⟩ : Fl), ⟨0, 1, A4', 1, c4', [98], false⟩], y.n ≤ 100000000 := fun y hy => by
    simp only [List.mem_cons, List.not_mem_nil, or_false] at hy
    rcases hy with rfl | rfl <;> (show 1 ≤ 100000000; omega)
  have hd : Calls Try.prog 15 #[.pointer (some ⟨w.heap.size, 0, none⟩), .int .i64 0] w4 fun e w' => e = .returned (.int .i64 0) ∧ ∃ A2 c2 A' c', NetAt w.heap.size w.heap.size 3 (.slice A2 3 c2) 2 0 0 [⟨0, 1, A2', 1, c2', [97], false⟩, ⟨0, 1, A4', 1, c4', [98], false⟩, ⟨0, 1, A', 1, c', [97], false⟩] w' ∧ Kept (fun k => k = w.heap.size) w4 w' := double_ok w.heap.size w.heap.size 3 _ 2 0 0 _ w4 hN4 hb4.size (by omega) (by omega) (by simp) big2 0 (by simp)
  refine hd.mono ?_
  rintro e w5 ⟨rfl, A5, c5, A5', c5', hN5, hk5⟩
  have hb5 : Below w.heap.size w w5 := below_kept hb4 hk5 (fun k e => by omega)
  clear hd big2 hk5 hb4 hN4
  go_wp2_with fail
  have hd := double_full w.heap.size 3 A5 3 c5 2 0 0 w5 hN5.c (by omega) 1 (by omega) (by omega) (by omega) (by omega)
  refine hd.mono ?_
  rintro e w6 ⟨rfl, hb56⟩
  have hN6 := hN5.below hb56
  have hb6 := below_then hb5 hb56 (Nat.le_refl _)
  clear hd hb56 hN5 hb5
  go_wp2_with fail
  have hd : Calls Try.prog 23 #[.pointer (some ⟨w.heap.size, 0, none⟩), .int .i64 1, .agg #[.bool false, .int .i64 0, .int .u32 3]] w6 fun e w' => e = .returned (.int .i64 0) ∧ ∃ A' c', NetAt w.heap.size w.heap.size 3 (.slice A5 3 c5) 2 0 0 [⟨0, 1, A2', 1, c2', [97], false⟩, ⟨0, 1, A', 1, c', [97], true⟩, ⟨0, 1, A5', 1, c5', [97], false⟩] w' ∧ Kept (fun b => (Value.slice A5 3 c5).ownBlock = some b) w6 w' := spoil_ok w.heap.size w.heap.size 3 _ 2 0 0 _ w6 hN6 hb6.size (by simp) (by omega) 1 (by simp) false 0 3 (by omega) (by omega) (by omega) rfl (show 1 ≤ 100000 by omega) [97] 1 nn1 rfl
  refine hd.mono ?_
  rintro e w7 ⟨rfl, A7, c7, hN7, hk7⟩
  have hb7 : Below w.heap.size w w7 := below_kept hb6 hk7 (fun k e => (hN6.row.lt k e).1)
  clear hd hk7 hb6 hN6
  go_wp2_with fail
  have hd : Calls Try.prog 23 #[.pointer (some ⟨w.heap.size, 0, none⟩), .int .i64 1, .agg #[.bool false, .int .i64 0, .int .u32 3]] w7 fun e w' => e = .returned (.int .i64 280) ∧ Below w7.heap.size w7 w' := spoil_twice w.heap.size w.heap.size 3 _ 2 0 0 _ w7 hN7 (by simp) (by omega) 1 (by simp) false 0 3 rfl
  refine hd.mono ?_
  rintro e w8 ⟨rfl, hb78⟩
  have hN8 := hN7.below hb78
  have hb8 := below_then hb7 hb78 (Nat.le_refl _)
  clear hd hb78 hN7 hb7
  go_wp2_with fail
  have big3 : ∀ y ∈ [(⟨0, 1, A2', 1, c2', [97], false⟩ : Fl), ⟨0, 1, A7, 1, c7, [97], true⟩, ⟨0, 1, A5', 1, c5', [97], false⟩], y.n ≤ 100000000 := fun y hy => by
    simp only [List.mem_cons, List.not_mem_nil, or_false] at hy
    rcases hy with rfl | rfl | rfl <;> (show 1 ≤ 100000000; omega)
  refine (copy_any w.heap.size w.heap.size 3 _ 2 0 0 _ w8 hN8 hb8.size (by omega) (by simp) big3).mono ?_
  rintro e w9 ⟨gc, A9, c9, fl2, rfl, hNc, hkb, hb89⟩
  have hl2 : fl2.length = 3 := by simpa using congrArg List.length hkb
  have hNc9 : NetC gc 3 (.slice A9 3 c9) 2 0 0 w9 := by have := hNc.c; rwa [hl2] at this
  have hgc : w.heap.size < gc := Nat.lt_of_lt_of_le (lt_get hN8.c) hNc.hB
  have hN9 := hN8.below hb89
  have hb9 := below_then hb8 hb89 (Nat.le_refl _)
  clear hNc hkb hb89 hl2 hN8 hb8
  go_wp2_with fail
  have hd : Calls Try.prog 21 #[.pointer (some ⟨w.heap.size, 0, none⟩), .int .i64 0] w9 fun e w' => e = .returned (.int .i64 0) ∧ ∃ A2 c2, NetAt w.heap.size w.heap.size 3 (.slice A2 2 c2) 2 0 1 [⟨0, 1, A7, 1, c7, [97], true⟩, ⟨0, 1, A5', 1, c5', [97], false⟩] w' ∧ Kept (fun k => k = w.heap.size) w9 w' := lose_ok w.heap.size w.heap.size 3 _ 2 0 0 _ w9 hN9 hb9.size (by simp) (by omega) (by omega) (by omega) 0 (by simp)
  refine hd.mono ?_
  rintro e w10 ⟨rfl, A10, c10, hN10, hk10⟩
  have hb10 : Below w.heap.size w w10 := below_kept hb9 hk10 (fun k e => by omega)
  have hNc10 : NetC gc 3 (.slice A9 3 c9) 2 0 0 w10 := (hk10.block gc (lt_get hNc9) (fun e => by omega)).trans hNc9
  clear hd hk10 hb9 hN9 hNc9 big3
  go_wp2_with fail
  have big2 : ∀ y ∈ [(⟨0, 1, A7, 1, c7, [97], true⟩ : Fl), ⟨0, 1, A5', 1, c5', [97], false⟩], y.n ≤ 100000000 := fun y hy => by
    simp only [List.mem_cons, List.not_mem_nil, or_false] at hy
    rcases hy with rfl | rfl <;> (show 1 ≤ 100000000; omega)
  refine (all_any w.heap.size w.heap.size 3 _ 2 0 1 _ w10 hN10 hb10.size (by omega) (by simp) big2).mono ?_
  rintro e w11 ⟨L, uA, uc, rfl, hoL, hkey, hLy, hb11'⟩
  have hl2 : L.length = 2 := by simpa using congrArg List.length hkey
  have hAp : ApRow w11 uA 2 L := ⟨hl2, rd_fls hoL rfl, fun y hy => ⟨(hLy y hy).1, rd_of_own (hLy y hy).2 rfl⟩⟩
  replace hkey : L.map Fl.key = [(0, 1, [97]), (0, 1, [97])] := hkey
  have HL := Lib.hid hkey
  rw [hl2]
  have hN11 : NetC w.heap.size 3 (.slice A10 2 c10) 2 0 1 w11 := (hN10.below hb11').c
  have hNc11 : NetC gc 3 (.slice A9 3 c9) 2 0 0 w11 := (hb11'.block gc (lt_get hNc10)).trans hNc10
  have hb11 := below_then hb10 hb11' (Nat.le_refl _)
  clear hoL hkey hLy hl2 hb11' hN10 hNc10 hb10 big2
  go_upto_region 12 with (go_at_call 18; refine (count_any w.heap.size 3 _ 2 0 1 w11 hN11 (by omega)).mono ?_; rintro e w10 ⟨rfl, nn, hw10⟩; rw [hw10]; clear hw10)
  have hd : Below w11.heap.size w11 (w11.drewN nn) := below_drewN _ _
  have hAp12 := hAp.below hd
  have hN12 : NetC w.heap.size 3 (.slice A10 2 c10) 2 0 1 (w11.drewN nn) := (hd.block _ (lt_get hN11)).trans hN11
  have hNc12 : NetC gc 3 (.slice A9 3 c9) 2 0 0 (w11.drewN nn) := (hd.block gc (lt_get hNc11)).trans hNc11
  have hb12 := below_then hb11 hd (Nat.le_refl _)
  clear hd hAp hN11 hNc11 hb11
  generalize w11.drewN nn = w12 at *
  go_wp2_with fail
  refine (of_any [97] w12).mono ?_
  rintro e w13 ⟨b13, k13, rfl, hr13, hb13, _⟩
  go_wp2_with fail
  refine (of_any [97] w13).mono ?_
  rintro e w14 ⟨b14, k14, rfl, hr14, hb14, _⟩
  obtain ⟨w15, hw15⟩ : ∃ w15, w15 = w14.alloc (.cells #[.int .i64 0, .int .i64 1, .slice (some ⟨b13, 0, none⟩) 1 k13, .int .i64 0, .int .i64 1, .slice (some ⟨b14, 0, none⟩) 1 k14] 38) := ⟨_, rfl⟩
  have hb1415 : Below w14.heap.size w14 w15 := by rw [hw15]; exact (Below.refl _ _).alloc (Nat.le_refl _) _
  have h15 : w15.heap[w14.heap.size]? = some (.cells #[.int .i64 0, .int .i64 1, .slice (some ⟨b13, 0, none⟩) 1 k13, .int .i64 0, .int .i64 1, .slice (some ⟨b14, 0, none⟩) 1 k14] 38 (0, 0)) := by rw [hw15]; exact heap_alloc_new _ _
  have hb1215 := below_then (below_then hb13 hb14 (Nat.le_refl _)) hb1415 (Nat.le_refl _)
  have hsm := same_any uA 2 uc L (some ⟨w14.heap.size, 0, none⟩) 2 2 [⟨0, 1, some ⟨b13, 0, none⟩, 1, k13, [97], false⟩, ⟨0, 1, some ⟨b14, 0, none⟩, 1, k14, [97], false⟩] w15 (hAp12.below hb1215) ⟨rfl, rd_lits (cs := apC [⟨0, 1, some ⟨b13, 0, none⟩, 1, k13, [97], false⟩, ⟨0, 1, some ⟨b14, 0, none⟩, 1, k14, [97], false⟩]) h15, fun y hy => by
    simp only [List.mem_cons, List.not_mem_nil, or_false] at hy
    rcases hy with rfl | rfl
    · exact ⟨rfl, hr13.below (below_then hb14 hb1415 (Nat.le_refl _))⟩
    · exact ⟨rfl, hr14.below hb1415⟩⟩ (by omega) (by omega)
  rw [HL.out, show decide ([((0 : Int), (1 : Int), [(97 : UInt8)]), (0, 1, [97])] = List.map Fl.key [⟨0, 1, some ⟨b13, 0, none⟩, 1, k13, [97], false⟩, ⟨0, 1, some ⟨b14, 0, none⟩, 1, k14, [97], false⟩]) = true from decide_eq_true rfl] at hsm
  have hN15 : NetC w.heap.size 3 (.slice A10 2 c10) 2 0 1 w15 := (hb1215.block _ (lt_get hN12)).trans hN12
  have hNc15 : NetC gc 3 (.slice A9 3 c9) 2 0 0 w15 := (hb1215.block gc (lt_get hNc12)).trans hNc12
  have hb15 := below_then hb12 hb1215 (Nat.le_refl _)
  have HW := Lib.hid hw15
  clear hw15 h15 hb1215 hb1415 hb13 hb14 hr13 hr14 hAp12 hN12 hNc12 hb12 HL
  go_wp2_with fail
  rw [← HW.out]
  refine hsm.mono ?_
  rintro e w16 ⟨rfl, hb16'⟩
  have hN16 : NetC w.heap.size 3 (.slice A10 2 c10) 2 0 1 w16 := (hb16'.block _ (lt_get hN15)).trans hN15
  have hNc16 : NetC gc 3 (.slice A9 3 c9) 2 0 0 w16 := (hb16'.block gc (lt_get hNc15)).trans hNc15
  have hb16 := below_then hb15 hb16' (Nat.le_refl _)
  clear hsm HW hb16' hN15 hNc15 hb15
  go_wp2_with fail
  refine (len_any gc 3 A9 3 c9 2 0 0 w16 hNc16 (by omega)).mono ?_
  rintro e w' ⟨rfl, hw'⟩
  rw [hw']
  clear hw' hNc16
  obtain ⟨w17, hw17⟩ : ∃ w17, w17 = w16.alloc (.cells #[.int .i64 (-1), .int .i64 2, .int .i64 99] 3) := ⟨_, rfl⟩
  have hb1617 : Below w16.heap.size w16 w17 := by rw [hw17]; exact (Below.refl _ _).alloc (Nat.le_refl _) _
  have hrow17 : w17.heap[w16.heap.size]? = some (.cells #[.int .i64 (-1), .int .i64 2, .int .i64 99] 3 (0, 0)) := by rw [hw17]; exact heap_alloc_new _ _
  have hN17 : NetC w.heap.size 3 (.slice A10 2 c10) 2 0 1 w17 := (hb1617.block _ (lt_get hN16)).trans hN16
  have hb17 := below_then hb16 hb1617 (Nat.le_refl _)
  clear hb1617 hN16 hb16
  go_wp2_with fail
  rw [← hw17]
  clear hw17
  generalize w16.heap.size = rb at *
  refine wp_loop_rounds 4 ?_
  rw [rounds_succ]
  have q : w17.cell? ⟨rb, 0, none⟩ = some (.int .i64 (-1)) := by rw [cell_of_row _ _ _ _ _ _ hrow17]; rfl
  go_wp2_with fail
  refine (deliver_bad w.heap.size 3 A10 2 c10 2 0 1 w17 hN17 (by omega) (-1) (by omega) (by omega)).mono ?_
  rintro e w18 ⟨rfl, hbx⟩
  have hN18 : NetC w.heap.size 3 (.slice A10 2 c10) 2 0 1 w18 := (hbx.block _ (lt_get hN17)).trans hN17
  have hrow18 := (hbx.block _ (lt_get hrow17)).trans hrow17
  have hb18 := below_then hb17 hbx (Nat.le_refl _)
  clear hbx hN17 hrow17 hb17
  clear q
  obtain ⟨w19, hwx⟩ : ∃ w', w' = w18.alloc (.cells #[.int .i64 0, .int .i64 0, .slice none 0 0] 38) := ⟨_, rfl⟩
  have hbx : Below w18.heap.size w18 w19 := by rw [hwx]; exact (Below.refl _ _).alloc (Nat.le_refl _) _
  have hN19 : NetC w.heap.size 3 (.slice A10 2 c10) 2 0 1 w19 := (hbx.block _ (lt_get hN18)).trans hN18
  have hrow19 := (hbx.block _ (lt_get hrow18)).trans hrow18
  have hb19 := below_then hb18 hbx (Nat.le_refl _)
  clear hbx hN18 hrow18 hb18
  go_wp2_with fail
  rw [← hwx]
  clear hwx
  refine (lose_bad w.heap.size 3 A10 2 c10 2 0 1 w19 hN19 (by omega) (-1) (by omega) (by omega)).mono ?_
  rintro e w' ⟨rfl, hw'⟩
  rw [hw']
  clear hw'
  go_wp2_with fail
  refine (double_bad w.heap.size 3 A10 2 c10 2 0 1 w19 hN19 (by omega) (-1) (by omega) (by omega)).mono ?_
  rintro e w20 ⟨rfl, hbx⟩
  have hN20 : NetC w.heap.size 3 (.slice A10 2 c10) 2 0 1 w20 := (hbx.block _ (lt_get hN19)).trans hN19
  have hrow20 := (hbx.block _ (lt_get hrow19)).trans hrow19
  have hb20 := below_then hb19 hbx (Nat.le_refl _)
  clear hbx hN19 hrow19 hb19
  go_wp2_with fail
  refine (delay_bad w.heap.size 3 A10 2 c10 2 0 1 w20 hN20 (by omega) (-1) (by omega) (by omega)).mono ?_
  rintro e w' ⟨rfl, hw'⟩
  rw [hw']
  clear hw'
  go_wp2_with fail
  refine (spoil_bad w.heap.size 3 A10 2 c10 2 0 1 w20 hN20 (by omega) (-1) (by omega) (by omega) false 0 0).mono ?_
  rintro e w21 ⟨rfl, hbx⟩
  have hN21 : NetC w.heap.size 3 (.slice A10 2 c10) 2 0 1 w21 := (hbx.block _ (lt_get hN20)).trans hN20
  have hrow21 := (hbx.block _ (lt_get hrow20)).trans hrow20
  have hb21 := below_then hb20 hbx (Nat.le_refl _)
  clear hbx hN20 hrow20 hb20
  go_wp2_with fail
  rw [rounds_succ]
  have q : w21.cell? ⟨rb, 1, none⟩ = some (.int .i64 (2)) := by rw [cell_of_row _ _ _ _ _ _ hrow21]; rfl
  go_wp2_with fail
  refine (deliver_bad w.heap.size 3 A10 2 c10 2 0 1 w21 hN21 (by omega) (2) (by omega) (by omega)).mono ?_
  rintro e w22 ⟨rfl, hbx⟩
  have hN22 : NetC w.heap.size 3 (.slice A10 2 c10) 2 0 1 w22 := (hbx.block _ (lt_get hN21)).trans hN21
  have hrow22 := (hbx.block _ (lt_get hrow21)).trans hrow21
  have hb22 := below_then hb21 hbx (Nat.le_refl _)
  clear hbx hN21 hrow21 hb21
  clear q
  obtain ⟨w23, hwx⟩ : ∃ w', w' = w22.alloc (.cells #[.int .i64 0, .int .i64 0, .slice none 0 0] 38) := ⟨_, rfl⟩
  have hbx : Below w22.heap.size w22 w23 := by rw [hwx]; exact (Below.refl _ _).alloc (Nat.le_refl _) _
  have hN23 : NetC w.heap.size 3 (.slice A10 2 c10) 2 0 1 w23 := (hbx.block _ (lt_get hN22)).trans hN22
  have hrow23 := (hbx.block _ (lt_get hrow22)).trans hrow22
  have hb23 := below_then hb22 hbx (Nat.le_refl _)
  clear hbx hN22 hrow22 hb22
  go_wp2_with fail
  rw [← hwx]
  clear hwx
  refine (lose_bad w.heap.size 3 A10 2 c10 2 0 1 w23 hN23 (by omega) (2) (by omega) (by omega)).mono ?_
  rintro e w' ⟨rfl, hw'⟩
  rw [hw']
  clear hw'
  go_wp2_with fail
  refine (double_bad w.heap.size 3 A10 2 c10 2 0 1 w23 hN23 (by omega) (2) (by omega) (by omega)).mono ?_
  rintro e w24 ⟨rfl, hbx⟩
  have hN24 : NetC w.heap.size 3 (.slice A10 2 c10) 2 0 1 w24 := (hbx.block _ (lt_get hN23)).trans hN23
  have hrow24 := (hbx.block _ (lt_get hrow23)).trans hrow23
  have hb24 := below_then hb23 hbx (Nat.le_refl _)
  clear hbx hN23 hrow23 hb23
  go_wp2_with fail
  refine (delay_bad w.heap.size 3 A10 2 c10 2 0 1 w24 hN24 (by omega) (2) (by omega) (by omega)).mono ?_
  rintro e w' ⟨rfl, hw'⟩
  rw [hw']
  clear hw'
  go_wp2_with fail
  refine (spoil_bad w.heap.size 3 A10 2 c10 2 0 1 w24 hN24 (by omega) (2) (by omega) (by omega) false 0 0).mono ?_
  rintro e w25 ⟨rfl, hbx⟩
  have hN25 : NetC w.heap.size 3 (.slice A10 2 c10) 2 0 1 w25 := (hbx.block _ (lt_get hN24)).trans hN24
  have hrow25 := (hbx.block _ (lt_get hrow24)).trans hrow24
  have hb25 := below_then hb24 hbx (Nat.le_refl _)
  clear hbx hN24 hrow24 hb24
  go_wp2_with fail
  rw [rounds_succ]
  have q : w25.cell? ⟨rb, 2, none⟩ = some (.int .i64 (99)) := by rw [cell_of_row _ _ _ _ _ _ hrow25]; rfl
  go_wp2_with fail
  refine (deliver_bad w.heap.size 3 A10 2 c10 2 0 1 w25 hN25 (by omega) (99) (by omega) (by omega)).mono ?_
  rintro e w26 ⟨rfl, hbx⟩
  have hN26 : NetC w.heap.size 3 (.slice A10 2 c10) 2 0 1 w26 := (hbx.block _ (lt_get hN25)).trans hN25
  have hrow26 := (hbx.block _ (lt_get hrow25)).trans hrow25
  have hb26 := below_then hb25 hbx (Nat.le_refl _)
  clear hbx hN25 hrow25 hb25
  clear q
  obtain ⟨w27, hwx⟩ : ∃ w', w' = w26.alloc (.cells #[.int .i64 0, .int .i64 0, .slice none 0 0] 38) := ⟨_, rfl⟩
  have hbx : Below w26.heap.size w26 w27 := by rw [hwx]; exact (Below.refl _ _).alloc (Nat.le_refl _) _
  have hN27 : NetC w.heap.size 3 (.slice A10 2 c10) 2 0 1 w27 := (hbx.block _ (lt_get hN26)).trans hN26
  have hrow27 := (hbx.block _ (lt_get hrow26)).trans hrow26
  have hb27 := below_then hb26 hbx (Nat.le_refl _)
  clear hbx hN26 hrow26 hb26
  go_wp2_with fail
  rw [← hwx]
  clear hwx
  refine (lose_bad w.heap.size 3 A10 2 c10 2 0 1 w27 hN27 (by omega) (99) (by omega) (by omega)).mono ?_
  rintro e w' ⟨rfl, hw'⟩
  rw [hw']
  clear hw'
  go_wp2_with fail
  refine (double_bad w.heap.size 3 A10 2 c10 2 0 1 w27 hN27 (by omega) (99) (by omega) (by omega)).mono ?_
  rintro e w28 ⟨rfl, hbx⟩
  have hN28 : NetC w.heap.size 3 (.slice A10 2 c10) 2 0 1 w28 := (hbx.block _ (lt_get hN27)).trans hN27
  have hrow28 := (hbx.block _ (lt_get hrow27)).trans hrow27
  have hb28 := below_then hb27 hbx (Nat.le_refl _)
  clear hbx hN27 hrow27 hb27
  go_wp2_with fail
  refine (delay_bad w.heap.size 3 A10 2 c10 2 0 1 w28 hN28 (by omega) (99) (by omega) (by omega)).mono ?_
  rintro e w' ⟨rfl, hw'⟩
  rw [hw']
  clear hw'
  go_wp2_with fail
  refine (spoil_bad w.heap.size 3 A10 2 c10 2 0 1 w28 hN28 (by omega) (99) (by omega) (by omega) false 0 0).mono ?_
  rintro e w29 ⟨rfl, hbx⟩
  have hN29 : NetC w.heap.size 3 (.slice A10 2 c10) 2 0 1 w29 := (hbx.block _ (lt_get hN28)).trans hN28
  have hrow29 := (hbx.block _ (lt_get hrow28)).trans hrow28
  have hb29 := below_then hb28 hbx (Nat.le_refl _)
  clear hbx hN28 hrow28 hb28
  go_wp2_with fail
  rw [rounds_succ]
  go_wp2_with fail
  clear hrow29 hN29
  refine (new_low 0 (by omega) w29).mono ?_
  rintro e w' ⟨rfl, hw'⟩
  rw [hw']
  clear hw'
  go_wp2_with fail
  refine (new_high 4097 (by omega) w29).mono ?_
  rintro e w' ⟨rfl, hw'⟩
  rw [hw']
  clear hw' 
  have kc := fun (w : World) (C : Array Value) (n c : Nat) => Lib.run_convert_bytes_const (P := Try.prog) w 22 5 C n c Try.underlying22 Try.underlying5
  go_wp2_with fail
  refine (spoilt_n (some ⟨w29.heap.size, 0, none⟩) 7 7 [97, 98, 99, 100, 101, 102, 103] rfl (by omega) false 2 67305985 (by omega) (by omega) (by omega) _ (rd_lit (heap_alloc_new _ _) rfl) [97, 98, 98, 102, 102, 98, 103] 7 nn2 rfl).mono ?_
  rintro e w30 ⟨A30, c30, rfl, ho, hbx⟩
  have s30 : (convert 22 9 (.slice A30 7 c30)).run Try.prog w30 = .ok (.string ⟨#[97, 98, 98, 102, 102, 98, 103]⟩) w30 := str_own ho rfl
  have hb30 := below_then (below_then hb29 ((Below.refl _ _).alloc (Nat.le_refl _) _) (Nat.le_refl _)) hbx (Nat.le_refl _)
  clear ho hbx hb29
  go_wp2_with fail
  clear s30
  refine (spoilt_n (some ⟨w30.heap.size, 0, none⟩) 3 3 [97, 98, 99] rfl (by omega) false 2 67305985 (by omega) (by omega) (by omega) _ (rd_lit (heap_alloc_new _ _) rfl) [97, 98, 98] 3 nn3 rfl).mono ?_
  rintro e w31 ⟨A31, c31, rfl, ho, hbx⟩
  have s31 : (convert 22 9 (.slice A31 3 c31)).run Try.prog w31 = .ok (.string ⟨#[97, 98, 98]⟩) w31 := str_own ho rfl
  have hb31 := below_then (below_then hb30 ((Below.refl _ _).alloc (Nat.le_refl _) _) (Nat.le_refl _)) hbx (Nat.le_refl _)
  clear ho hbx hb30
  have t1 : ∀ W : World, (convert 22 9 (.slice (some ⟨W.heap.size, 0, none⟩) 4 4)).run Try.prog (W.alloc (.cells #[.int .u8 98, .int .u8 102, .int .u8 102, .int .u8 98] 5)) = .ok (.string ⟨#[98, 102, 102, 98]⟩) (W.alloc (.cells #[.int .u8 98, .int .u8 102, .int .u8 102, .int .u8 98] 5)) := lit_str #[.int .u8 98, .int .u8 102, .int .u8 102, .int .u8 98] [98, 102, 102, 98] 4 rfl rfl
  have t2 : ∀ (W : World) (X : Obj), (convert 22 9 (.slice (some ⟨W.heap.size + 1, 0, none⟩) 1 1)).run Try.prog ((W.alloc X).alloc (.cells #[.int .u8 98] 5)) = .ok (.string ⟨#[98]⟩) ((W.alloc X).alloc (.cells #[.int .u8 98] 5)) := fun W X => by
    have := lit_str #[.int .u8 98] [98] 1 rfl rfl (W.alloc X)
    rw [show bstr [98] = ⟨#[98]⟩ from rfl] at this
    simpa using this
  have e1 : (⟨#[97, 98]⟩ : ByteArray) ++ ⟨#[98, 102, 102, 98]⟩ = ⟨#[97, 98, 98, 102, 102, 98]⟩ := by rfl
  have e2 : (⟨#[97, 98, 98, 102, 102, 98]⟩ : ByteArray) ++ ⟨#[103]⟩ = ⟨#[97, 98, 98, 102, 102, 98, 103]⟩ := by rfl
  have e3 : (⟨#[97, 98]⟩ : ByteArray) ++ ⟨#[98]⟩ = ⟨#[97, 98, 98]⟩ := by rfl
  have al : ∀ {W : World} (h : Below w.heap.size w W) (o : Obj), Below w.heap.size w (W.alloc o) := fun h o => h.alloc h.size o
  go_wp2_with fail
  clear s31 t1 t2 e1 e2 e3

  refine (spoilt_n none 0 0 [] rfl (by omega) false 0 1 (by omega) (by omega) (by omega) _ (RdC.nil _ _) [] 0 nn4 rfl).mono ?_
  rintro e w32 ⟨A32, c32, rfl, ho, hbx⟩
  have hb32 := below_then (al (al hb31 _) _) hbx (Nat.le_refl _)
  clear ho hbx hb31
  go_wp2_with fail
  refine (spoilt_n (some ⟨w32.heap.size, 0, none⟩) 1 1 [97] rfl (by omega) true 5 0 (by omega) (by omega) (by omega) _ (rd_lit (heap_alloc_new _ _) rfl) [] 0 nn5 rfl).mono ?_
  rintro e w33 ⟨A33, c33, rfl, ho, hbx⟩
  have hb33 := below_then (below_then hb32 ((Below.refl _ _).alloc (Nat.le_refl _) _) (Nat.le_refl _)) hbx (Nat.le_refl _)
  clear ho hbx hb32
  clear kc al
  obtain ⟨wz, hwz⟩ : ∃ w', w' = w33.alloc (.cells #[.int .i64 0, .slice none 0 0, .int .i64 0, .int .i64 0, .int .i64 0] 70) := ⟨_, rfl⟩
  have hbx : Below w33.heap.size w33 wz := by rw [hwz]; exact (Below.refl _ _).alloc (Nat.le_refl _) _
  have hz : NoNet wz (.pointer (some ⟨w33.heap.size, 0, none⟩)) := NoNet.zero (by rw [hwz]; exact heap_alloc_new _ _)
  have hn := NoNet.nil wz
  have hbz := below_then hb33 hbx (Nat.le_refl _)
  clear hbx hb33
  go_wp2_with fail
  rw [← hwz]
  clear hwz
  generalize w33.heap.size = zb at *
  have hb34 := Below.refl wz.heap.size wz
  refine (deliver_none (hn.below hb34) 0).mono ?_
  rintro e w35 ⟨rfl, hbx⟩
  have hb35 := below_then hb34 hbx (Nat.le_refl _)
  clear hbx hb34
  obtain ⟨w36, hwx⟩ : ∃ w', w' = w35.alloc (.cells #[.int .i64 0, .int .i64 0, .slice none 0 0] 38) := ⟨_, rfl⟩
  have hb36 : Below wz.heap.size wz w36 := by rw [hwx]; exact hb35.alloc hb35.size _
  go_wp2_with fail
  rw [← hwx]
  clear hwx hb35
  refine (count_none (hn.below hb36)).mono ?_
  rintro e w' ⟨rfl, hw'⟩
  rw [hw']
  clear hw'
  go_wp2_with fail
  refine (alive_any w36).mono ?_
  rintro e w37 ⟨rfl, hbx⟩
  have hb37 := below_then hb36 hbx (Nat.le_refl _)
  clear hbx hb36
  go_wp2_with fail
  refine (of_any [] w37).mono ?_
  rintro e w38 ⟨bb, kk, rfl, _, hbx, _⟩
  have hb38 := below_then hb37 hbx (Nat.le_refl _)
  clear hbx hb37
  go_wp2_with fail
  refine (send_none (hn.below hb38) 0 1 _ _ _).mono ?_
  rintro e w39 ⟨rfl, hbx⟩
  have hb39 := below_then hb38 hbx (Nat.le_refl _)
  clear hbx hb38
  go_wp2_with fail
  refine (lose_none (hz.below hb39) 0).mono ?_
  rintro e w' ⟨rfl, hw'⟩
  rw [hw']
  clear hw'
  go_wp2_with fail
  refine (double_none (hn.below hb39) 0).mono ?_
  rintro e w40 ⟨rfl, hbx⟩
  have hb40 := below_then hb39 hbx (Nat.le_refl _)
  clear hbx hb39
  go_wp2_with fail
  refine (delay_none (hz.below hb40) 0).mono ?_
  rintro e w' ⟨rfl, hw'⟩
  rw [hw']
  clear hw'
  go_wp2_with fail
  refine (spoil_none (hn.below hb40) 0 false 0 0).mono ?_
  rintro e w41 ⟨rfl, hbx⟩
  have hb41 := below_then hb40 hbx (Nat.le_refl _)
  clear hbx hb40
  go_wp2_with fail
  refine (len_none (hz.below hb41)).mono ?_
  rintro e w' ⟨rfl, hw'⟩
  rw [hw']
  clear hw'
  go_wp2_with fail
  refine (all_none (hn.below hb41)).mono ?_
  rintro e w' ⟨rfl, hw'⟩
  rw [hw']
  clear hw'
  go_wp2_with fail
  refine (copy_none (hz.below hb41)).mono ?_
  rintro e w' ⟨rfl, hw'⟩
  rw [hw']
  clear hw'
  go_wp2_with fail
  go_ret
  exact ⟨rfl, below_then hbz hb41 (Nat.le_refl _)⟩
end Go.Proofs.Ytfojlmnlolnilaa
