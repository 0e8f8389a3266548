/- The law NetOnce, walked. -/
import Derived.Test.YtfojlmnlolnilaaNetGi
namespace Go.Proofs.Ytfojlmnlolnilaa
open Go.RowKit
attribute [local go_sem] Oper.semAt_some

theorem kb_bad {fl2 fl : List Fl} (h : fl2.map Fl.kb = fl.map Fl.kb) (i : Nat) (hi : i < fl2.length) (hi2 : i < fl.length) : (fl2[i]).bad = (fl[i]).bad := by
  have := congrArg (fun l : List ((Int × Int × List UInt8) × Bool) => l[i]?) h
  simp only [List.getElem?_map, List.getElem?_eq_getElem hi, List.getElem?_eq_getElem hi2, Option.map_some, Option.some.injEq] at this
  exact congrArg Prod.snd this
set_option maxRecDepth 100000 in
set_option maxHeartbeats 16000000 in
theorem netOnce_walk (A : Option Addr) (n c : Nat) (l : List UInt8) (cu : Bool) (sx : Int) (sm : Nat) (cu' : Bool) (tx : Int) (tm : Nat) (w : World) (hrow : ByteRow w A n c l) (hsx : -9223372036854775808 ≤ sx ∧ sx ≤ 9223372036854775807) (hsm : sm < 4294967296) (htx : -9223372036854775808 ≤ tx ∧ tx ≤ 9223372036854775807) (htm : tm < 4294967296) :
    Calls Try.prog 6 #[.slice A n c, .agg #[.bool cu, .int .i64 sx, .int .u32 sm], .agg #[.bool cu', .int .i64 tx, .int .u32 tm]] w fun e w' => e = .returned (.bool true) ∧ Below w.heap.size w w' := by
  obtain ⟨hl, hnc, hcm, hr⟩ := hrow
  obtain ⟨hs1, hs2⟩ := hsx
  obtain ⟨ht1, ht2⟩ := htx
  have hcmi : (c : Int) ≤ 9223372036854775807 := by unfold maxLen at hcm; omega
  obtain ⟨w1, hw1⟩ : ∃ w1, w1 = (w.alloc (.cells #[.bool cu, .int .i64 sx, .int .u32 sm] 25)).alloc (.cells #[.bool cu', .int .i64 tx, .int .u32 tm] 25) := ⟨_, rfl⟩
  have hb1 : Below w.heap.size w w1 := by rw [hw1]; exact ((Below.refl _ _).alloc (Nat.le_refl _) _).alloc (by simp) _
  have h4 : w1.heap[w.heap.size]? = some (.cells #[.bool cu, .int .i64 sx, .int .u32 sm] 25 (0, 0)) := by rw [hw1]; exact heap_alloc2_old _ _ _
  have h5 : w1.heap[w.heap.size + 1]? = some (.cells #[.bool cu', .int .i64 tx, .int .u32 tm] 25 (0, 0)) := by rw [hw1]; exact heap_alloc2_new _ _ _
  have hz1 : w.heap.size + 2 ≤ w1.heap.size := lt_get h5
  have hr1 := hr.below hb1
  by_cases h300 : 300 < n
  · have h3i : (300 : Int) < (n : Int) := by omega
    go_enter Try.func6, Try.ntmps6
    go_wp2_with fail
    rw [← hw1]
    clear hw1
    refine (alive_any w1).mono ?_
    rintro e w2 ⟨rfl, hb2⟩
    have hnew := new_ok 10 (by omega) (by omega) w2
    have hb3 := (Below.refl w2.heap.size w2).alloc (Nat.le_refl _) (.cells #[.int .i64 10, .slice none 0 0, .int .i64 0, .int .i64 0, .int .i64 0] 70)
    go_wp2_with fail
    refine hnew.mono ?_
    rintro e w' ⟨rfl, hw'⟩
    rw [hw']
    clear hw' hnew
    go_wp2_with fail
    go_ret
    exact ⟨rfl, below_then (below_then hb1 hb2 (Nat.le_refl _)) hb3 (Nat.le_refl _)⟩
  have h3i : ¬ (300 : Int) < (n : Int) := by omega
  obtain ⟨L1, hL1⟩ : ∃ L1, spoilL l cu sx sm = L1 := ⟨_, rfl⟩
  obtain ⟨k1, hk1⟩ : ∃ k1, L1.length = k1 := ⟨_, rfl⟩
  obtain ⟨L2, hL2⟩ : ∃ L2, spoilL [111, 116, 104, 101, 114] cu' tx tm = L2 := ⟨_, rfl⟩
  obtain ⟨k2, hk2⟩ : ∃ k2, L2.length = k2 := ⟨_, rfl⟩
  have hspl : ∀ (l : List UInt8) (cut : Bool) (x : Int) (m : Nat), (spoilL l cut x m).length ≤ l.length := fun l cut x m => by
    cases cut with
    | false => rw [spoilL_x_length]; exact Nat.le_refl _
    | true =>
      by_cases h : l = []
      · subst h; exact Nat.le_refl _
      · rw [spoilL_cut l x m h, List.length_take]; omega
  have hk1n : k1 ≤ n := by rw [← hk1, ← hL1, ← hl]; exact hspl _ _ _ _
  have hk25 : k2 ≤ 5 := by rw [← hk2, ← hL2]; exact hspl _ _ _ _
  clear hspl
  have kc := fun (w : World) (C : Array Value) (n c : Nat) => Lib.run_convert_bytes_const (P := Try.prog) w 22 5 C n c Try.underlying22 Try.underlying5
  have hcS : ∀ W, Below w1.heap.size w1 W → W.heap[w.heap.size]? = some (.cells #[.bool cu, .int .i64 sx, .int .u32 sm] 25 (0, 0)) := fun W hb => (hb.block _ (by omega)).trans h4
  have hcT : ∀ W, Below w1.heap.size w1 W → W.heap[w.heap.size + 1]? = some (.cells #[.bool cu', .int .i64 tx, .int .u32 tm] 25 (0, 0)) := fun W hb => (hb.block _ (by omega)).trans h5
  have HS := Lib.hid hcS
  have HT := Lib.hid hcT
  obtain ⟨ws, hws⟩ : ∃ ws, ws = w.heap.size := ⟨_, rfl⟩
  clear hcS hcT h4 h5
  go_enter Try.func6, Try.ntmps6
  go_wp2_with fail
  rw [← hw1]
  clear hw1
  refine (alive_any w1).mono ?_
  rintro e w2 ⟨rfl, hb2⟩
  have hnew := new_ok 10 (by omega) (by omega) w2
  obtain ⟨w3, hw3⟩ : ∃ w3, w3 = w2.alloc (.cells #[.int .i64 10, .slice none 0 0, .int .i64 0, .int .i64 0, .int .i64 0] 70) := ⟨_, rfl⟩
  have hb23 : Below w2.heap.size w2 w3 := by rw [hw3]; exact (Below.refl _ _).alloc (Nat.le_refl _) _
  have hc3 : NetC w2.heap.size 10 (.slice none 0 0) 0 0 0 w3 := by rw [hw3]; exact heap_alloc_new _ _
  have hN3 := NetAt.fresh w1.heap.size w2.heap.size 10 w3 hb2.size hc3
  rw [← hw3] at hnew
  have hb3 := below_then hb2 hb23 (Nat.le_refl _)
  have hg1 : w1.heap.size ≤ w2.heap.size := hb2.size
  clear hw3 hc3 hb23 hb2
  generalize w2.heap.size = g at *
  go_wp2_with fail
  refine hnew.mono ?_
  rintro e w' ⟨rfl, hw'⟩
  rw [hw']
  clear hw' hnew
  have hsend := send_ok w1.heap.size g 10 _ 0 0 0 [] w3 hN3 hb3.size (by omega) (by omega) (by omega) (by omega) (by simp) 0 0 A n c l (by omega) hl (hr1.below hb3) (fun ad2 e hne => by
    subst e
    cases l with
    | nil => exact absurd rfl hne
    | cons b t =>
      obtain ⟨ad3, e3, hc3⟩ := hr1 0 _ rfl
      cases e3
      have := World.block_lt_of_cell? w1 _ hc3
      rw [addr_add_block] at this
      omega)
  go_wp2_with fail
  refine hsend.mono ?_
  rintro e w4 ⟨rfl, A4, c4, A4', c4', hN4, _, hk4⟩
  replace hN4 : NetAt w1.heap.size g 10 (.slice A4 1 c4) 1 0 0 [⟨0, 0, A4', n, c4', l, false⟩] w4 := hN4
  have hb4 : Below w1.heap.size w1 w4 := below_kept hb3 hk4 (fun k e => by omega)
  clear hk4 hN3 hb3 hsend
  obtain ⟨w5, hw5⟩ : ∃ w5, w5 = w4.alloc (.cells #[.int .u8 111, .int .u8 116, .int .u8 104, .int .u8 101, .int .u8 114] 5 (5, 6)) := ⟨_, rfl⟩
  have hb45 : Below w4.heap.size w4 w5 := by rw [hw5]; exact (Below.refl _ _).alloc (Nat.le_refl _) _
  have h5 : w5.heap[w4.heap.size]? = some (.cells #[.int .u8 111, .int .u8 116, .int .u8 104, .int .u8 101, .int .u8 114] 5 (5, 6)) := by rw [hw5]; exact heap_alloc_new _ _
  have hN5 := hN4.below hb45
  have hb5 := below_then hb4 hb45 (Nat.le_refl _)
  have hgl4 := lt_get hN4.c
  have hsend := send_ok w1.heap.size g 10 _ 1 0 0 _ w5 hN5 hb5.size (by omega) (by omega) (by omega) (by omega) (by simp) 0 0 (some ⟨w4.heap.size, 0, none⟩) 5 5 [111, 116, 104, 101, 114] (by omega) rfl (rd_lit h5 rfl) (fun ad2 e _ => by cases e; show w4.heap.size ≠ g; omega)
  have HW5 := Lib.hid hw5
  clear hw5 hN4 hb45 h5
  go_wp2_with fail
  rw [← HW5.out]
  refine hsend.mono ?_
  rintro e w6 ⟨rfl, A6, c6, A6', c6', hN6, _, hk6⟩
  replace hN6 : NetAt w1.heap.size g 10 (.slice A6 2 c6) 2 0 0 [⟨0, 0, A4', n, c4', l, false⟩, ⟨0, 0, A6', 5, c6', [111, 116, 104, 101, 114], false⟩] w6 := hN6
  have hb6 : Below w1.heap.size w1 w6 := below_kept hb5 hk6 (fun k e => by omega)
  clear hk6 hN5 hb5 hsend HW5
  have c0 : w6.cell? ⟨w.heap.size, 0, none⟩ = some (.bool cu) := by rw [cell_of_row _ _ _ _ _ _ (HS.out w6 hb6)]; rfl
  have c1 : w6.cell? ⟨w.heap.size, 1, none⟩ = some (.int .i64 sx) := by rw [cell_of_row _ _ _ _ _ _ (HS.out w6 hb6)]; rfl
  have c2 : w6.cell? ⟨w.heap.size, 2, none⟩ = some (.int .u32 (sm : Int)) := by rw [cell_of_row _ _ _ _ _ _ (HS.out w6 hb6)]; rfl
  have hsp := spoil_ok w1.heap.size g 10 _ 2 0 0 _ w6 hN6 hb6.size (by simp) (by omega) 0 (by simp) cu sx sm hs1 hs2 hsm rfl (show n ≤ 100000 by omega) L1 k1 hL1 hk1
  replace hsp : Calls Try.prog 23 #[.pointer (some ⟨g, 0, none⟩), .int .i64 0, .agg #[.bool cu, .int .i64 sx, .int .u32 sm]] w6 fun e w' => e = .returned (.int .i64 0) ∧ ∃ A' c', NetAt w1.heap.size g 10 (.slice A6 2 c6) 2 0 0 [⟨0, 0, A', k1, c', L1, true⟩, ⟨0, 0, A6', 5, c6', [111, 116, 104, 101, 114], false⟩] w' ∧ Kept (fun b => (Value.slice A6 2 c6).ownBlock = some b) w6 w' := hsp
  go_wp2_with fail
  refine hsp.mono ?_
  rintro e w7 ⟨rfl, A7', c7', hN7, hk7⟩
  have hb7 : Below w1.heap.size w1 w7 := below_kept hb6 hk7 (fun k e => (hN6.row.lt k e).1)
  clear hk7 hN6 hb6 hsp c0 c1 c2
  have c0 : w7.cell? ⟨(w.heap.size + 1), 0, none⟩ = some (.bool cu') := by rw [cell_of_row _ _ _ _ _ _ (HT.out w7 hb7)]; rfl
  have c1 : w7.cell? ⟨(w.heap.size + 1), 1, none⟩ = some (.int .i64 tx) := by rw [cell_of_row _ _ _ _ _ _ (HT.out w7 hb7)]; rfl
  have c2 : w7.cell? ⟨(w.heap.size + 1), 2, none⟩ = some (.int .u32 (tm : Int)) := by rw [cell_of_row _ _ _ _ _ _ (HT.out w7 hb7)]; rfl
  have hsp := spoil_twice w1.heap.size g 10 _ 2 0 0 _ w7 hN7 (by simp) (by omega) 0 (by simp) cu' tx tm rfl
  replace hsp : Calls Try.prog 23 #[.pointer (some ⟨g, 0, none⟩), .int .i64 0, .agg #[.bool cu', .int .i64 tx, .int .u32 tm]] w7 fun e w' => e = .returned (.int .i64 280) ∧ Below w7.heap.size w7 w' := hsp
  go_wp2_with fail
  refine hsp.mono ?_
  rintro e w8 ⟨rfl, hbb⟩
  have hN8 := hN7.below hbb
  have hb8 := below_then hb7 hbb (Nat.le_refl _)
  clear hbb hN7 hb7 hsp c0 c1 c2
  have hdb := double_ok w1.heap.size g 10 _ 2 0 0 _ w8 hN8 hb8.size (by omega) (by omega) (by simp) (fun y hy => by
    simp only [List.mem_cons, List.not_mem_nil, or_false] at hy
    rcases hy with rfl | rfl
    · show k1 ≤ 100000000; omega
    · show 5 ≤ 100000000; omega) 0 (by simp)
  replace hdb : Calls Try.prog 15 #[.pointer (some ⟨g, 0, none⟩), .int .i64 0] w8 fun e w' => e = .returned (.int .i64 0) ∧ ∃ A2 c2 A' c', NetAt w1.heap.size g 10 (.slice A2 3 c2) 2 0 0 [⟨0, 0, A7', k1, c7', L1, true⟩, ⟨0, 0, A6', 5, c6', [111, 116, 104, 101, 114], false⟩, ⟨0, 0, A', k1, c', L1, true⟩] w' ∧ Kept (fun k => k = g) w8 w' := hdb
  go_wp2_with fail
  refine hdb.mono ?_
  rintro e w9 ⟨rfl, A9, c9, A9', c9', hN9, hk9⟩
  have hb9 : Below w1.heap.size w1 w9 := below_kept hb8 hk9 (fun k e => by omega)
  clear hk9 hN8 hb8 hdb
  have c0 : w9.cell? ⟨(w.heap.size + 1), 0, none⟩ = some (.bool cu') := by rw [cell_of_row _ _ _ _ _ _ (HT.out w9 hb9)]; rfl
  have c1 : w9.cell? ⟨(w.heap.size + 1), 1, none⟩ = some (.int .i64 tx) := by rw [cell_of_row _ _ _ _ _ _ (HT.out w9 hb9)]; rfl
  have c2 : w9.cell? ⟨(w.heap.size + 1), 2, none⟩ = some (.int .u32 (tm : Int)) := by rw [cell_of_row _ _ _ _ _ _ (HT.out w9 hb9)]; rfl
  have hsp := spoil_twice w1.heap.size g 10 _ 2 0 0 _ w9 hN9 (by simp) (by omega) 2 (by simp) cu' tx tm rfl
  replace hsp : Calls Try.prog 23 #[.pointer (some ⟨g, 0, none⟩), .int .i64 2, .agg #[.bool cu', .int .i64 tx, .int .u32 tm]] w9 fun e w' => e = .returned (.int .i64 280) ∧ Below w9.heap.size w9 w' := hsp
  go_wp2_with fail
  refine hsp.mono ?_
  rintro e w10 ⟨rfl, hbb⟩
  have hN10 := hN9.below hbb
  have hb10 := below_then hb9 hbb (Nat.le_refl _)
  clear hbb hN9 hb9 hsp c0 c1 c2
  have hde := delay_ok w1.heap.size g 10 _ 2 0 0 _ w10 hN10 hb10.size (by simp) (by omega) 0 (by simp)
  replace hde : Calls Try.prog 14 #[.pointer (some ⟨g, 0, none⟩), .int .i64 0] w10 fun e w' => e = .returned (.int .i64 0) ∧ ∃ A2 c2, NetAt w1.heap.size g 10 (.slice A2 3 c2) 2 0 0 [⟨0, 0, A6', 5, c6', [111, 116, 104, 101, 114], false⟩, ⟨0, 0, A9', k1, c9', L1, true⟩, ⟨0, 0, A7', k1, c7', L1, true⟩] w' ∧ Kept (fun k => k = g) w10 w' := hde
  go_wp2_with fail
  refine hde.mono ?_
  rintro e w11 ⟨rfl, A11, c11, hN11, hk11⟩
  have hb11 : Below w1.heap.size w1 w11 := below_kept hb10 hk11 (fun k e => by omega)
  clear hk11 hN10 hb10 hde
  have c0 : w11.cell? ⟨(w.heap.size + 1), 0, none⟩ = some (.bool cu') := by rw [cell_of_row _ _ _ _ _ _ (HT.out w11 hb11)]; rfl
  have c1 : w11.cell? ⟨(w.heap.size + 1), 1, none⟩ = some (.int .i64 tx) := by rw [cell_of_row _ _ _ _ _ _ (HT.out w11 hb11)]; rfl
  have c2 : w11.cell? ⟨(w.heap.size + 1), 2, none⟩ = some (.int .u32 (tm : Int)) := by rw [cell_of_row _ _ _ _ _ _ (HT.out w11 hb11)]; rfl
  have hsp := spoil_twice w1.heap.size g 10 _ 2 0 0 _ w11 hN11 (by simp) (by omega) 2 (by simp) cu' tx tm rfl
  replace hsp : Calls Try.prog 23 #[.pointer (some ⟨g, 0, none⟩), .int .i64 2, .agg #[.bool cu', .int .i64 tx, .int .u32 tm]] w11 fun e w' => e = .returned (.int .i64 280) ∧ Below w11.heap.size w11 w' := hsp
  go_wp2_with fail
  refine hsp.mono ?_
  rintro e w12 ⟨rfl, hbb⟩
  have hN12 := hN11.below hbb
  have hb12 := below_then hb11 hbb (Nat.le_refl _)
  clear hbb hN11 hb11 hsp c0 c1 c2
  have hcp := copy_any w1.heap.size g 10 _ 2 0 0 _ w12 hN12 hb12.size (by omega) (by simp) (fun y hy => by
    simp only [List.mem_cons, List.not_mem_nil, or_false] at hy
    rcases hy with rfl | rfl | rfl
    · show 5 ≤ 100000000; omega
    · show k1 ≤ 100000000; omega
    · show k1 ≤ 100000000; omega)
  go_wp2_with fail
  refine hcp.mono ?_
  rintro e w13 ⟨gc, A13, c13, flc, rfl, hC13, hkb, hbb⟩
  have hN13 := hN12.below hbb
  have hb13 := below_then hb12 hbb (Nat.le_refl _)
  have hflc : flc.length = 3 := by have := congrArg List.length hkb; simpa using this
  have hbad : (flc[2]'(by omega)).bad = true := kb_bad hkb 2 (by omega) (by simp)
  clear hbb hN12 hb12 hcp
  have c0 : w13.cell? ⟨(w.heap.size + 1), 0, none⟩ = some (.bool cu') := by rw [cell_of_row _ _ _ _ _ _ (HT.out w13 hb13)]; rfl
  have c1 : w13.cell? ⟨(w.heap.size + 1), 1, none⟩ = some (.int .i64 tx) := by rw [cell_of_row _ _ _ _ _ _ (HT.out w13 hb13)]; rfl
  have c2 : w13.cell? ⟨(w.heap.size + 1), 2, none⟩ = some (.int .u32 (tm : Int)) := by rw [cell_of_row _ _ _ _ _ _ (HT.out w13 hb13)]; rfl
  have hsp := spoil_twice w12.heap.size gc 10 _ 2 0 0 _ w13 hC13 (by omega) (by omega) 2 (by omega) cu' tx tm hbad
  replace hsp : Calls Try.prog 23 #[.pointer (some ⟨gc, 0, none⟩), .int .i64 2, .agg #[.bool cu', .int .i64 tx, .int .u32 tm]] w13 fun e w' => e = .returned (.int .i64 280) ∧ Below w13.heap.size w13 w' := hsp
  go_wp2_with fail
  refine hsp.mono ?_
  rintro e w14 ⟨rfl, hbb⟩
  have hN14 := hN13.below hbb
  have hb14 := below_then hb13 hbb (Nat.le_refl _)
  clear hbb hN13 hb13 hsp c0 c1 c2 hC13 hbad hkb hflc
  have c0 : w14.cell? ⟨(w.heap.size + 1), 0, none⟩ = some (.bool cu') := by rw [cell_of_row _ _ _ _ _ _ (HT.out w14 hb14)]; rfl
  have c1 : w14.cell? ⟨(w.heap.size + 1), 1, none⟩ = some (.int .i64 tx) := by rw [cell_of_row _ _ _ _ _ _ (HT.out w14 hb14)]; rfl
  have c2 : w14.cell? ⟨(w.heap.size + 1), 2, none⟩ = some (.int .u32 (tm : Int)) := by rw [cell_of_row _ _ _ _ _ _ (HT.out w14 hb14)]; rfl
  have hsp := spoil_ok w1.heap.size g 10 _ 2 0 0 _ w14 hN14 hb14.size (by simp) (by omega) 0 (by simp) cu' tx tm ht1 ht2 htm rfl (show 5 ≤ 100000 by omega) L2 k2 hL2 hk2
  replace hsp : Calls Try.prog 23 #[.pointer (some ⟨g, 0, none⟩), .int .i64 0, .agg #[.bool cu', .int .i64 tx, .int .u32 tm]] w14 fun e w' => e = .returned (.int .i64 0) ∧ ∃ A' c', NetAt w1.heap.size g 10 (.slice A11 3 c11) 2 0 0 [⟨0, 0, A', k2, c', L2, true⟩, ⟨0, 0, A9', k1, c9', L1, true⟩, ⟨0, 0, A7', k1, c7', L1, true⟩] w' ∧ Kept (fun b => (Value.slice A11 3 c11).ownBlock = some b) w14 w' := hsp
  go_wp2_with fail
  refine hsp.mono ?_
  rintro e w15 ⟨rfl, A15', c15', hN15, hk15⟩
  have hb15 : Below w1.heap.size w1 w15 := below_kept hb14 hk15 (fun k e => (hN14.row.lt k e).1)
  clear hk15 hN14 hb14 hsp c0 c1 c2
  have hal := all_any w1.heap.size g 10 _ 2 0 0 _ w15 hN15 hb15.size (by omega) (by simp) (fun y hy => by
    simp only [List.mem_cons, List.not_mem_nil, or_false] at hy
    rcases hy with rfl | rfl | rfl
    · show k2 ≤ 100000000; omega
    · show k1 ≤ 100000000; omega
    · show k1 ≤ 100000000; omega)
  go_wp2_with fail
  refine hal.mono ?_
  rintro e w16 ⟨G, gA, gc2, rfl, hG, hGk, hGr, hbb⟩
  have hb16 := below_then hb15 hbb (Nat.le_refl _)
  have hGl : G.length = 3 := by have := congrArg List.length hGk; simpa using this
  clear hbb hN15 hb15 hal
  obtain ⟨y0, y1, y2, rfl⟩ : ∃ y0 y1 y2, G = [y0, y1, y2] := by
    match G, hGl with
    | [y0, y1, y2], _ => exact ⟨y0, y1, y2, rfl⟩
  have hy0 := hGr y0 (by simp)
  have hy1 := hGr y1 (by simp)
  have hy2 := hGr y2 (by simp)
  obtain ⟨e0, e1, e2⟩ : y0.l = L2 ∧ y1.l = L1 ∧ y2.l = L1 := by
    simp only [List.map_cons, List.map_nil, Fl.key, List.cons.injEq, Prod.mk.injEq] at hGk
    exact ⟨hGk.1.2.2, hGk.2.1.2.2, hGk.2.2.1.2.2⟩
  rw [e0] at hy0
  rw [e1] at hy1
  rw [e2] at hy2
  clear hGr hGk hGl e0 e1 e2
  have c0 : w16.cell? ⟨w.heap.size, 0, none⟩ = some (.bool cu) := by rw [cell_of_row _ _ _ _ _ _ (HS.out w16 hb16)]; rfl
  have c1 : w16.cell? ⟨w.heap.size, 1, none⟩ = some (.int .i64 sx) := by rw [cell_of_row _ _ _ _ _ _ (HS.out w16 hb16)]; rfl
  have c2 : w16.cell? ⟨w.heap.size, 2, none⟩ = some (.int .u32 (sm : Int)) := by rw [cell_of_row _ _ _ _ _ _ (HS.out w16 hb16)]; rfl
  have hsp := spoilt_n A n c l hl (by omega) cu sx sm hs1 hs2 hsm w16 (hr1.below hb16) L1 k1 hL1 hk1
  go_wp2_with fail
  refine hsp.mono ?_
  rintro e w17 ⟨A17, c17, rfl, ho17, hbb⟩
  have s1 : (convert 22 9 (.slice A17 k1 c17)).run Try.prog w17 = .ok (.string (bstr L1)) w17 := str_own ho17 hk1
  have hb17 := below_then hb16 hbb (Nat.le_refl _)
  have hG17 := own_below hG hbb
  have hy0' := own_below hy0.2 hbb
  have hy1' := own_below hy1.2 hbb
  have hy2' := own_below hy2.2 hbb
  clear hbb hb16 hsp c0 c1 c2 ho17 hG
  rcases hG17.2 with ⟨_, h0⟩ | ⟨pb, gcap, cur, e, _, hpb, _⟩
  · cases h0
  obtain ⟨rfl, rfl⟩ : gA = some ⟨pb, 0, none⟩ ∧ gc2 = gcap := by cases e; exact ⟨rfl, rfl⟩
  clear e
  have hrd := rd_fls hG17 rfl
  have q0 := hrd 2 (.slice y0.A y0.n y0.c) rfl
  have q1 := hrd 5 (.slice y1.A y1.n y1.c) rfl
  have q2 := hrd 8 (.slice y2.A y2.n y2.c) rfl
  have hq : ∀ j u, (∃ ad, some (⟨pb, 0, none⟩ : Addr) = some ad ∧ w17.cell? (ad.add j) = some u) → ∀ W, Below w17.heap.size w17 W → W.cell? ⟨pb, j, none⟩ = some u := fun j u h W hb => by
    obtain ⟨ad, e, hc⟩ := h
    cases e
    rw [addr_add_plain, Nat.zero_add] at hc
    exact (hb.cell (World.block_lt_of_cell? w17 _ hc)).trans hc
  go_upto_region 14 with fail
  refine nonce14 w17.heap.size (w.heap.size + 1) gc2 k2 y0.n y0.c y1.n y1.c y2.n y2.c tm pb y0.A y1.A y2.A cu' tx L1 L2 w17 rfl (fun W hb => str_own (own_below hy0' hb) hy0.1) (fun W hb => str_own (own_below hy1' hb) hy1.1) (fun W hb => str_own (own_below hy2' hb) hy2.1) (fun W b hb hc => ?_) hk2 (fun W hb => HT.out W (below_then hb17 hb (Nat.le_refl _))) (fun W hb => hq 2 _ q0 W hb) (fun W hb => hq 5 _ q1 W hb) (fun W hb => hq 8 _ q2 W hb) ?_
  · refine (spoilt_n (some ⟨b, 0, none⟩) 5 5 [111, 116, 104, 101, 114] rfl (by omega) cu' tx tm ht1 ht2 htm W (rd_lit hc rfl) L2 k2 hL2 hk2).mono ?_
    rintro e w' ⟨A_, c_, rfl, ho, hb'⟩
    exact ⟨A_, c_, rfl, rd_of_own ho rfl, hb'⟩
  intros
  rename_i hbz
  go_wp2_with fail
  go_ret
  exact ⟨rfl, below_then hb1 ((below_then hb17 hbz (Nat.le_refl _))) (Nat.le_refl _)⟩
end Go.Proofs.Ytfojlmnlolnilaa
