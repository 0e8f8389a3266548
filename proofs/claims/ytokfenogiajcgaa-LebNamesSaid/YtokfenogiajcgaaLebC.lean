/- leb: a number's bytes as a string; the chapter's first examples. -/
import Derived.Test.YtokfenogiajcgaaLebPl
import Derived.Test.YtokfenogiajcgaaLebR2
namespace Go.Proofs.Ytokfenogiajcgaa
open Go.RowKit
attribute [local go_sem] Oper.semAt_some

set_option maxHeartbeats 2000000 in
theorem number_str (n : Nat) (hn : n < 18446744073709551616) (w : World) : Calls Try.prog 30 #[.int .u64 (n : Int)] w fun e w' => e = .returned (.string (bstr (numB n))) ∧ Below w.heap.size w w' := by
  have hS0 : SinkAt w.heap.size (.slice none 0 0) [] (w.alloc (.cells #[.slice none 0 0] 26)) := ⟨heap_alloc_new _ _, World.ownsRow_nil ..⟩
  have hb0 : Below w.heap.size w (w.alloc (.cells #[.slice none 0 0] 26)) := (Below.refl _ _).alloc (Nat.le_refl _) _
  have h10 := numB_ten n hn
  have hnum := number_any w.heap.size n hn [] (by simp) _ _ hS0
  go_enter Try.func30, Try.ntmps30
  go_wp2_with fail
  refine hnum.mono ?_
  rintro e w1 ⟨rfl, v1, hs1⟩
  rw [List.nil_append] at hs1
  have hb1 := below_kept hb0 hs1.2.2 (fun k e => e.elim (fun e => by omega) fun e => by cases e)
  go_wp2_with fail
  refine (all_any w.heap.size v1 (numB n) (by omega) w1 hs1.1).mono ?_
  rintro e w2 ⟨va, rfl, hna⟩
  obtain ⟨Aa, ca, rfl, _, _, hr, _⟩ := RdC.of_own hna.1
  have k1 := run_string_of (P := Try.prog) w2 24 9 5 Try.underlying24 Try.underlying5 Try.underlying9 Aa (numB n) ca hr
  go_wp2_with fail
  go_ret
  exact ⟨rfl, below_then hb1 hna.2 (Nat.le_refl _)⟩
theorem numB_0 : bstr (numB 0) = ⟨#[0]⟩ := by rw [numB_small (by omega)]; rfl
theorem numB_127 : bstr (numB 127) = ⟨#[127]⟩ := by rw [numB_small (by omega)]; rfl
theorem numB_128 : bstr (numB 128) = ⟨#[128, 1]⟩ := by rw [numB_big (by omega), numB_small (by omega)]; rfl
theorem numB_300 : bstr (numB 300) = ⟨#[172, 2]⟩ := by rw [numB_big (by omega), numB_small (by omega)]; rfl
set_option maxHeartbeats 2000000 in
theorem alive_any (w : World) : Calls Try.prog 29 #[] w fun e w' => e = .returned (.bool true) ∧ Below w.heap.size w w' := by
  have q1 := fun W => number_str 0 (by omega) W
  have q2 := fun W => number_str 127 (by omega) W
  have q3 := fun W => number_str 128 (by omega) W
  have q4 := fun W => number_str 300 (by omega) W
  rw [numB_0] at q1
  rw [numB_127] at q2
  rw [numB_128] at q3
  rw [numB_300] at q4
  go_enter Try.func29, Try.ntmps29
  go_wp2_with fail
  refine (q1 _).mono ?_
  rintro e w1 ⟨rfl, hb1⟩
  go_wp2_with fail
  refine (q2 _).mono ?_
  rintro e w2 ⟨rfl, hb2⟩
  replace hb2 := below_then hb1 hb2 (Nat.le_refl _)
  go_wp2_with fail
  refine (q3 _).mono ?_
  rintro e w3 ⟨rfl, hb3⟩
  replace hb3 := below_then hb2 hb3 (Nat.le_refl _)
  go_wp2_with fail
  refine (q4 _).mono ?_
  rintro e w4 ⟨rfl, hb4⟩
  replace hb4 := below_then hb3 hb4 (Nat.le_refl _)
  go_wp2_with fail
  go_ret
  exact ⟨rfl, hb4⟩
end Go.Proofs.Ytokfenogiajcgaa
