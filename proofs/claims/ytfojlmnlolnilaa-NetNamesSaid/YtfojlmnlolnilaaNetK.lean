/- net: Double, refused; Great's plain law. -/
import Derived.Test.YtfojlmnlolnilaaNetJ
import Derived.Deep.QuietTactic
import Derived.BigQuiet
namespace Go.Proofs.Ytfojlmnlolnilaa
open Go.RowKit Go.Shelf
attribute [local go_sem] Oper.semAt_some

set_option maxRecDepth 100000 in
set_option maxHeartbeats 4000000 in
theorem double_bad (g : Nat) (room : Int) (A : Option Addr) (n c : Nat) (s d x : Int) (w : World) (h : NetC g room (.slice A n c) s d x w) (hr : 1 ≤ room) (i : Int) (hn : (n : Int) ≤ 9223372036854775807) (hbad : i < 0 ∨ (n : Int) ≤ i) :
    Calls Try.prog 15 #[.pointer (some ⟨g, 0, none⟩), .int .i64 i] w fun e w' => e = .returned (.int .i64 280) ∧ Below w.heap.size w w' := by
  obtain ⟨w1, hw1⟩ : ∃ w1, w1 = (w.alloc (.cells #[.pointer (some ⟨g, 0, none⟩)] 30)).alloc (.cells #[.int .i64 i] 3) := ⟨_, rfl⟩
  have hb1 : Below w.heap.size w w1 := by rw [hw1]; exact ((Below.refl _ _).alloc (Nat.le_refl _) _).alloc (by simp) _
  have hx0 : Boxed w1 w.heap.size 30 (.pointer (some ⟨g, 0, none⟩)) := by rw [hw1]; exact heap_alloc2_old _ _ _
  have hx1 : Boxed w1 (w.heap.size + 1) 3 (.int .i64 i) := by rw [hw1]; exact heap_alloc2_new _ _ _
  have x0 := hx0.cell
  have x1 := hx1.cell
  have hrdy := ready_any g room A n c s d x w1 ((hb1.block g (lt_get h)).trans h) hr i hn
  rw [show readyE n i = 280 from if_pos hbad] at hrdy
  refine (callsIn_wide (n := 5)).1 ?_
  refine callsIn_of_wp_marks Try.func15 rfl trivial ?_ rfl
  simp only [Try.ntmps15, List.size_toArray, List.length_cons, List.length_nil, Nat.reduceAdd, Nat.reduceSub, Array.replicate_succ, Array.replicate_zero, List.push_toArray, List.append_toArray, List.nil_append, List.cons_append]
  gi_wp2_with fail
  rw [← hw1]
  clear hw1
  refine wpIn_wide.2 (wp_scope_straight ((wpIn_wide (n := 5)).1 ?_))
  gi_wp2_with (first
    | (refine ⟨trivial, ?_⟩; gi_at_call 34; refine (callsIn_wide.2 hrdy).mono ?_; rintro e w' ⟨rfl, hw'⟩; rw [hw']; clear hw')
    | fail)
  rw [Exit.noGoto_ret]
  gi_wp2_with fail
  exact ⟨_, results_tmp rfl _ _ _, rfl, hb1⟩
set_option maxRecDepth 100000 in
set_option maxHeartbeats 4000000 in
theorem double_full (g : Nat) (room : Int) (A : Option Addr) (n c : Nat) (s d x : Int) (w : World) (h : NetC g room (.slice A n c) s d x w) (hr : 1 ≤ room) (i : Int) (hn : (n : Int) ≤ 9223372036854775807) (h0 : 0 ≤ i) (hin : i < (n : Int)) (hfull : room ≤ (n : Int)) :
    Calls Try.prog 15 #[.pointer (some ⟨g, 0, none⟩), .int .i64 i] w fun e w' => e = .returned (.int .i64 280) ∧ Below w.heap.size w w' := by
  obtain ⟨w1, hw1⟩ : ∃ w1, w1 = (w.alloc (.cells #[.pointer (some ⟨g, 0, none⟩)] 30)).alloc (.cells #[.int .i64 i] 3) := ⟨_, rfl⟩
  have hb1 : Below w.heap.size w w1 := by rw [hw1]; exact ((Below.refl _ _).alloc (Nat.le_refl _) _).alloc (by simp) _
  have hx0 : Boxed w1 w.heap.size 30 (.pointer (some ⟨g, 0, none⟩)) := by rw [hw1]; exact heap_alloc2_old _ _ _
  have hx1 : Boxed w1 (w.heap.size + 1) 3 (.int .i64 i) := by rw [hw1]; exact heap_alloc2_new _ _ _
  have x0 := hx0.cell
  have x1 := hx1.cell
  have hrdy := ready_any g room A n c s d x w1 ((hb1.block g (lt_get h)).trans h) hr i hn
  rw [show readyE n i = 0 from if_neg (by omega)] at hrdy
  have hc1 := (hb1.block g (lt_get h)).trans h
  have c0 := NetC.c0 hc1
  have c1 := NetC.c1 hc1
  refine (callsIn_wide (n := 5)).1 ?_
  refine callsIn_of_wp_marks Try.func15 rfl trivial ?_ rfl
  simp only [Try.ntmps15, List.size_toArray, List.length_cons, List.length_nil, Nat.reduceAdd, Nat.reduceSub, Array.replicate_succ, Array.replicate_zero, List.push_toArray, List.append_toArray, List.nil_append, List.cons_append]
  gi_wp2_with fail
  rw [← hw1]
  clear hw1
  refine wpIn_wide.2 (wp_scope_straight ((wpIn_wide (n := 5)).1 ?_))
  gi_wp2_with (first
    | (refine ⟨trivial, ?_⟩; gi_at_call 34; refine (callsIn_wide.2 hrdy).mono ?_; rintro e w' ⟨rfl, hw'⟩; rw [hw']; clear hw')
    | fail)
  refine wpIn_wide.2 ?_
  go_quiet (fail)
  have hb2 := below_then hb1 (below_drewN w1 nq) (Nat.le_refl _)
  gi_wp2_with fail
  rw [Exit.noGoto_ret]
  gi_wp2_with fail
  exact ⟨_, results_tmp rfl _ _ _, rfl, hb2⟩
end Go.Proofs.Ytfojlmnlolnilaa
