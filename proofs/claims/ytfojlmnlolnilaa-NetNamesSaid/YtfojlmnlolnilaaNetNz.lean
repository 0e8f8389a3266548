/- net's methods on no net (nil, or a zero one). -/
import Derived.Test.YtfojlmnlolnilaaMark
namespace Go.Proofs.Ytfojlmnlolnilaa
open Go.RowKit
attribute [local go_sem] Oper.semAt_some

def NoNet (w : World) (p : Value) : Prop := ∀ W, Below w.heap.size w W → Calls Try.prog 31 #[p] W fun e w' => e = .returned (.bool true) ∧ w' = W
theorem NoNet.nil (w : World) : NoNet w (.pointer none) := fun W _ => none_nil W
theorem NoNet.below {w W : World} {p : Value} (h : NoNet w p) (hb : Below w.heap.size w W) : NoNet W p := fun W' hb' => h W' (below_then hb hb' (Nat.le_refl _))
set_option maxHeartbeats 1000000 in
theorem NoNet.zero {g : Nat} {w : World} (h : NetC g 0 (.slice none 0 0) 0 0 0 w) : NoNet w (.pointer (some ⟨g, 0, none⟩)) := fun W hb => by
  have h1 : NetC g 0 (.slice none 0 0) 0 0 0 W := (hb.block g (lt_get h)).trans h
  have c0 := h1.c0
  go_enter Try.func31, Try.ntmps31
  go_wp2
  go_ret
  exact ⟨rfl, rfl⟩
section
variable {w : World} {p : Option Addr} (h : NoNet w (.pointer p))
include h
theorem ready_none (i : Int) : ∀ W, Below w.heap.size w W → Calls Try.prog 34 #[.pointer p, .int .i64 i] W fun e w' => e = .returned (.int .i64 1) ∧ w' = W := fun W hb => by
  have hno := h W hb
  go_enter Try.func34, Try.ntmps34
  go_wp2_with (go_at_call 31; refine hno.mono ?_; rintro e w' ⟨rfl, hw'⟩; rw [hw']; clear hw')
  go_ret
  exact ⟨rfl, rfl⟩
theorem delay_none (i : Int) : Calls Try.prog 14 #[.pointer p, .int .i64 i] w fun e w' => e = .returned (.int .i64 1) ∧ w' = w := by
  have hrdy := ready_none h i w (Below.refl _ _)
  go_enter Try.func14, Try.ntmps14
  go_wp2_with (go_at_call 34; refine hrdy.mono ?_; rintro e w' ⟨rfl, hw'⟩; rw [hw']; clear hw')
  go_ret
  exact ⟨rfl, rfl⟩
theorem lose_none (i : Int) : Calls Try.prog 21 #[.pointer p, .int .i64 i] w fun e w' => e = .returned (.int .i64 1) ∧ w' = w := by
  have hrdy := ready_none h i w (Below.refl _ _)
  go_enter Try.func21, Try.ntmps21
  go_wp2_with (go_at_call 34; refine hrdy.mono ?_; rintro e w' ⟨rfl, hw'⟩; rw [hw']; clear hw')
  go_ret
  exact ⟨rfl, rfl⟩
set_option maxHeartbeats 1000000 in
theorem deliver_none (i : Int) : Calls Try.prog 17 #[.pointer p, .int .i64 i] w fun e w' => e = .returned (.tuple #[.agg #[.int .i64 0, .int .i64 0, .slice none 0 0], .int .i64 1]) ∧ Below w.heap.size w w' := by
  obtain ⟨w1, hw1⟩ : ∃ w1, w1 = w.alloc (.cells #[.int .i64 0, .int .i64 0, .slice none 0 0] 38) := ⟨_, rfl⟩
  have hb1 : Below w.heap.size w w1 := by rw [hw1]; exact (Below.refl _ _).alloc (Nat.le_refl _) _
  have h1 : w1.heap[w.heap.size]? = some (.cells #[.int .i64 0, .int .i64 0, .slice none 0 0] 38 (0, 0)) := by rw [hw1]; exact heap_alloc_new _ _
  have b0 : w1.cell? ⟨w.heap.size, 0, none⟩ = some (.int .i64 0) := by rw [cell_of_row _ _ _ _ _ _ h1]; rfl
  have b1 : w1.cell? ⟨w.heap.size, 1, none⟩ = some (.int .i64 0) := by rw [cell_of_row _ _ _ _ _ _ h1]; rfl
  have b2 : w1.cell? ⟨w.heap.size, 2, none⟩ = some (.slice none 0 0) := by rw [cell_of_row _ _ _ _ _ _ h1]; rfl
  have f0 := frozen_of_row _ _ 0 _ _ h1
  have f1 := frozen_of_row _ _ 1 _ _ h1
  have f2 := frozen_of_row _ _ 2 _ _ h1
  have hrdy := ready_none h i w1 hb1
  go_enter Try.func17, Try.ntmps17
  go_wp2_with fail
  rw [← hw1]
  refine hrdy.mono ?_
  rintro e w' ⟨rfl, hw'⟩
  rw [hw']
  clear hw' hw1
  go_wp2_with fail
  refine bodyPost_ret (v := .tuple #[.agg #[.int .i64 0, .int .i64 0, .slice none 0 0], .int .i64 1]) (by simp [results, Try.results17, go_sem, b0, b1, b2]) rfl ?_
  exact ⟨rfl, ((hb1.setCell (Nat.le_refl _) _).setCell (Nat.le_refl _) _).setCell (Nat.le_refl _) _⟩
set_option maxRecDepth 100000 in
set_option maxHeartbeats 4000000 in
theorem double_none (i : Int) : Calls Try.prog 15 #[.pointer p, .int .i64 i] w fun e w' => e = .returned (.int .i64 1) ∧ Below w.heap.size w w' := by
  obtain ⟨w1, hw1⟩ : ∃ w1, w1 = (w.alloc (.cells #[.pointer p] 30)).alloc (.cells #[.int .i64 i] 3) := ⟨_, rfl⟩
  have hb1 : Below w.heap.size w w1 := by rw [hw1]; exact ((Below.refl _ _).alloc (Nat.le_refl _) _).alloc (by simp) _
  have hx0 : Boxed w1 w.heap.size 30 (.pointer p) := by rw [hw1]; exact heap_alloc2_old _ _ _
  have hx1 : Boxed w1 (w.heap.size + 1) 3 (.int .i64 i) := by rw [hw1]; exact heap_alloc2_new _ _ _
  have x0 := hx0.cell
  have x1 := hx1.cell
  have hrdy := ready_none h i w1 hb1
  refine (callsIn_wide (n := 5)).1 ?_
  refine callsIn_of_wp_marks Try.func15 rfl trivial ?_ rfl
  simp only [Try.ntmps15, List.size_toArray, List.length_cons, List.length_nil, Nat.reduceAdd, Nat.reduceSub, Array.replicate_succ, Array.replicate_zero, List.push_toArray, List.append_toArray, List.nil_append, List.cons_append]
  gi_wp2_with fail
  rw [← hw1]
  clear hw1
  refine wpIn_wide.2 (wp_scope_straight ((wpIn_wide (n := 5)).1 ?_))
  gi_wp2_with (first
    | (refine ⟨trivial, ?_⟩; gi_at_call 34; refine (callsIn_wide.2 hrdy).mono ?_; rintro e w' ⟨rfl, hw'⟩; rw [hw']; clear hw')
    | fail)
  rw [Exit.noGoto_ret]
  gi_wp2_with fail
  exact ⟨_, results_tmp rfl _ _ _, rfl, hb1⟩
theorem spoil_none (i : Int) (cut : Bool) (sx : Int) (sm : Nat) : Calls Try.prog 23 #[.pointer p, .int .i64 i, .agg #[.bool cut, .int .i64 sx, .int .u32 sm]] w fun e w' => e = .returned (.int .i64 1) ∧ Below w.heap.size w w' := by
  obtain ⟨w1, hw1⟩ : ∃ w1, w1 = w.alloc (.cells #[.bool cut, .int .i64 sx, .int .u32 sm] 25) := ⟨_, rfl⟩
  have hb1 : Below w.heap.size w w1 := by rw [hw1]; exact (Below.refl _ _).alloc (Nat.le_refl _) _
  have hrdy := ready_none h i w1 hb1
  go_enter Try.func23, Try.ntmps23
  go_wp2_with fail
  rw [← hw1]
  clear hw1
  refine hrdy.mono ?_
  rintro e w' ⟨rfl, hw'⟩
  rw [hw']
  clear hw' hrdy
  go_wp2_with fail
  go_ret
  exact ⟨rfl, hb1⟩
theorem send_none (ff tt : Int) (RA : Option Addr) (rn rc : Nat) : Calls Try.prog 13 #[.pointer p, .agg #[.int .i64 ff, .int .i64 tt, .slice RA rn rc]] w fun e w' => e = .returned (.int .i64 1) ∧ Below w.heap.size w w' := by
  obtain ⟨w1, hw1⟩ : ∃ w1, w1 = w.alloc (.cells #[.int .i64 ff, .int .i64 tt, .slice RA rn rc] 38) := ⟨_, rfl⟩
  have hb1 : Below w.heap.size w w1 := by rw [hw1]; exact (Below.refl _ _).alloc (Nat.le_refl _) _
  have hno := h w1 hb1
  go_enter Try.func13, Try.ntmps13
  go_wp2_with fail
  rw [← hw1]
  clear hw1
  refine hno.mono ?_
  rintro e w' ⟨rfl, hw'⟩
  rw [hw']
  clear hw' hno
  go_wp2_with fail
  go_ret
  exact ⟨rfl, hb1⟩
theorem len_none : Calls Try.prog 16 #[.pointer p] w fun e w' => e = .returned (.int .i64 0) ∧ w' = w := by
  have hno := h w (Below.refl _ _)
  go_enter Try.func16, Try.ntmps16
  go_wp2_with (go_at_call 31; refine hno.mono ?_; rintro e w' ⟨rfl, hw'⟩; rw [hw']; clear hw')
  go_ret
  exact ⟨rfl, rfl⟩
theorem count_none : Calls Try.prog 18 #[.pointer p] w fun e w' => e = .returned (.tuple #[.int .i64 0, .int .i64 0, .int .i64 0]) ∧ w' = w := by
  have hno := h w (Below.refl _ _)
  go_enter Try.func18, Try.ntmps18
  go_wp2_with (go_at_call 31; refine hno.mono ?_; rintro e w' ⟨rfl, hw'⟩; rw [hw']; clear hw')
  go_ret3
  exact ⟨rfl, rfl⟩
set_option maxHeartbeats 1000000 in
theorem all_none : Calls Try.prog 20 #[.pointer p] w fun e w' => e = .returned (.slice none 0 0) ∧ w' = w := by
  have hno := h w (Below.refl _ _)
  refine (callsIn_wide (n := 5)).1 ?_
  refine callsIn_of_wp_marks Try.func20 rfl trivial ?_ rfl
  simp only [Try.ntmps20, List.size_toArray, List.length_cons, List.length_nil, Nat.reduceAdd, Nat.reduceSub, Array.replicate_succ, Array.replicate_zero, List.push_toArray, List.append_toArray, List.nil_append, List.cons_append]
  gi_wp2_with (first
    | (refine ⟨trivial, ?_⟩; gi_at_call 31; refine (callsIn_wide.2 hno).mono ?_; rintro e w' ⟨rfl, hw'⟩; rw [hw']; clear hw')
    | fail)
  exact ⟨_, results_tmp rfl _ _ _, rfl, rfl⟩
set_option maxHeartbeats 1000000 in
theorem copy_none : Calls Try.prog 24 #[.pointer p] w fun e w' => e = .returned (.pointer none) ∧ w' = w := by
  have hno := h w (Below.refl _ _)
  refine (callsIn_wide (n := 5)).1 ?_
  refine callsIn_of_wp_marks Try.func24 rfl trivial ?_ rfl
  simp only [Try.ntmps24, List.size_toArray, List.length_cons, List.length_nil, Nat.reduceAdd, Nat.reduceSub, Array.replicate_succ, Array.replicate_zero, List.push_toArray, List.append_toArray, List.nil_append, List.cons_append]
  gi_wp2_with (first
    | (refine ⟨trivial, ?_⟩; gi_at_call 31; refine (callsIn_wide.2 hno).mono ?_; rintro e w' ⟨rfl, hw'⟩; rw [hw']; clear hw')
    | fail)
  exact ⟨_, results_tmp rfl _ _ _, rfl, rfl⟩
end
end Go.Proofs.Ytfojlmnlolnilaa
