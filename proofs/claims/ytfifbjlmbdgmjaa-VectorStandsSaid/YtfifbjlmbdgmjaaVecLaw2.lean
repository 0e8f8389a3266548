/- The law VectorStands, walked. -/
import Derived.Test.YtfifbjlmbdgmjaaVecGe
import Derived.Test.YtfifbjlmbdgmjaaVecI
import Derived.Test.YtfifbjlmbdgmjaaVecT
namespace Go.Proofs.Ytfifbjlmbdgmjaa
open Go.RowKit

set_option maxRecDepth 20000 in
set_option maxHeartbeats 8000000 in
theorem stands_list (a b c : List Nat) (ha : a.length = 16) (hb : b.length = 16) (hc : c.length = 16) (sa : small a) (sb : small b) (w : World) :
    Calls Try.prog 4 #[.agg (vC a), .agg (vC b), .agg (vC c)] w fun e w' => e = .returned (.bool true) ∧ Below w.heap.size w w' := by
  obtain ⟨w1, hw1⟩ : ∃ w1, w1 = ((w.alloc (.cells (vC a) 24)).alloc (.cells (vC b) 24)).alloc (.cells (vC c) 24) := ⟨_, rfl⟩
  obtain ⟨g1, g2, g3, hb0⟩ := three_blocks w (vC a) (vC b) (vC c) w1 hw1
  have hu := maxV_length ha hb
  have su := maxV_small sa sb
  obtain ⟨xn, yn, zn, f1, f2, f3, x4, ht, h1z, hac⟩ := stand_facts_ (a := a) (b := b) (c := c) ha hb hc
  have hd := stand_d f1
  have hd1 := stand_le hb f1
  have hl := lack_zero ha hb
  have hlm := lack_max ha hb
  have za := vec_size ha
  have zb := vec_size hb
  have zc := vec_size hc
  go_enter Try.func4, Try.ntmps4
  go_wp2_with fail
  rw [← hw1]
  clear hw1
  have hup : ∀ (w0 W : World) g o, Below w0.heap.size w0 W → w0.heap[g]? = some o → W.heap[g]? = some o := fun w0 W g o h hg => (h.block _ (lt_of_get hg)).trans hg
  refine (alive_any w1).mono ?_
  rintro e w2 ⟨rfl, h2⟩
  replace g1 := hup _ _ _ _ h2 g1
  replace g2 := hup _ _ _ _ h2 g2
  replace g3 := hup _ _ _ _ h2 g3
  replace hb0 := below_then hb0 h2 (Nat.le_refl _)
  clear h2
  go_wp2_with fail
  refine stands2 a b c w.heap.size (w.heap.size + 1) (w.heap.size + 1 + 1) xn yn zn w2 ha hb hc f1 f2 f3 (fun W h => hup _ W _ _ h g1) (fun W h => hup _ W _ _ h g2) (fun W h => hup _ W _ _ h g3) fun w3 h3 => ?_
  replace g1 := hup _ _ _ _ h3 g1
  replace g2 := hup _ _ _ _ h3 g2
  replace g3 := hup _ _ _ _ h3 g3
  replace hb0 := below_then hb0 h3 (Nat.le_refl _)
  clear h3
  have g4 : (w3.alloc (.cells #[.int .i64 0, .int .i64 2, .int .i64 1, .int .i64 3] 3)).heap[w3.heap.size]? = some (.cells #[.int .i64 0, .int .i64 2, .int .i64 1, .int .i64 3] 3 (0, 0)) := heap_alloc_new _ _
  have h4 : Below w3.heap.size w3 (w3.alloc (.cells #[.int .i64 0, .int .i64 2, .int .i64 1, .int .i64 3] 3)) := (Below.refl _ w3).alloc (Nat.le_refl _) _
  go_wp2_with fail
  obtain ⟨w4, hw4⟩ : ∃ w4, w4 = w3.alloc (.cells #[.int .i64 0, .int .i64 2, .int .i64 1, .int .i64 3] 3) := ⟨_, rfl⟩
  rw [← hw4] at g4 h4 ⊢
  clear hw4
  replace g1 := hup _ _ _ _ h4 g1
  replace g2 := hup _ _ _ _ h4 g2
  replace g3 := hup _ _ _ _ h4 g3
  replace hb0 := below_then hb0 h4 (Nat.le_refl _)
  clear h4
  obtain ⟨d, e0⟩ : ∃ d, ((xn : Int) == 0) = d := ⟨_, rfl⟩
  obtain ⟨d2, e2⟩ : ∃ d, ((lackV a b : Int) == 0) = d := ⟨_, rfl⟩
  have mt : ∀ W, Below w4.heap.size w4 W → W.cell? ⟨w3.heap.size, xn, none⟩ = some (.int .i64 (yn : Int)) := fun W h => by
    have := (hup _ W _ _ h g4)
    rw [cell_of_row _ _ _ _ _ _ this]
    exact ht
  refine stands4 a b w.heap.size (w.heap.size + 1) w3.heap.size xn yn (lackV a b) d d2 w4 ha hb sa sb (eq_false (by omega)) (eq_false (by omega)) (by omega) (by omega) e0 (by rw [← e0, hd]) rfl e2 (by rw [← e2, hl]) mt (fun W h => hup _ W _ _ h g1) (fun W h => hup _ W _ _ h g2) fun w5 h5 => ?_
  replace g1 := hup _ _ _ _ h5 g1
  replace g2 := hup _ _ _ _ h5 g2
  replace g3 := hup _ _ _ _ h5 g3
  replace hb0 := below_then hb0 h5 (Nat.le_refl _)
  clear h5 mt g4
  obtain ⟨d1, e1⟩ : ∃ d, ((xn : Int) == 1) = d := ⟨_, rfl⟩
  obtain ⟨dz, ez⟩ : ∃ d, ((zn : Int) == 1) = d := ⟨_, rfl⟩
  have hac2 : d1 = true → dz = true → cmpV a c = 1 := fun h h' => hac (by rw [h] at e1; simpa using e1) (by rw [h'] at ez; simpa using ez)
  have e0' := Lib.hid e0
  have hd1' := Lib.hid hd1
  have e1' := Lib.hid e1
  clear e0 hd hd1 ht hac h1z hl e2
  cases d1
  case' false => go_wp2_with fail
  case' true => cases dz
  case' true.false => go_wp2_with fail
  case' true.true =>
    have hq := compare_any a c ha hc
    rw [hac2 rfl rfl] at hq
    go_wp2_with (first
      | ((with_reducible refine wpList_load_rowW ?hw 24 (.tmp 3) rfl _ rfl 24 (vC a) _ _ g1 Try.underlying24 rfl za ?_); case hw => rfl)
      | ((with_reducible refine wpList_load_rowW ?hw 24 (.tmp 5) rfl _ rfl 24 (vC c) _ _ g3 Try.underlying24 rfl zc ?_); case hw => rfl)
      | fail)
    refine (hq w5).mono ?_
    rintro e w6 ⟨rfl, h6⟩
    replace g1 := hup _ _ _ _ h6 g1
    replace g2 := hup _ _ _ _ h6 g2
    replace hb0 := below_then hb0 h6 (Nat.le_refl _)
    clear h6 hq
    go_wp2_with fail
  all_goals
    replace e0' := e0'.out
    replace e1' := e1'.out
    replace hd1' := hd1'.out
    rw [e0', e1'] at hd1'
    cases d
    · refine stands8_f a b (maxV a b) w.heap.size (w.heap.size + 1) xn (lackV a b) _ true _ ha hb hu sa sb su e0' e1' hd1' hlm rfl rfl (fun W h => hup _ W _ _ h g1) (fun W h => hup _ W _ _ h g2) fun wz => ?_
      intros
      rename_i hz
      go_wp2_with fail
      go_ret
      exact ⟨rfl, below_then hb0 hz (Nat.le_refl _)⟩
    · refine stands8_t a b (maxV a b) w.heap.size (w.heap.size + 1) xn (lackV a b) _ true _ ha hb hu sa sb su e0' e1' (by simpa using hd1') hlm rfl rfl (fun W h => hup _ W _ _ h g1) (fun W h => hup _ W _ _ h g2) fun wz => ?_
      intros
      rename_i hz
      go_wp2_with fail
      go_ret
      exact ⟨rfl, below_then hb0 hz (Nat.le_refl _)⟩
theorem vectorStands_walk (a b c : List Nat) (w : World) (ha : VecOK a) (hb : VecOK b) (hc : VecOK c) :
    Calls Try.prog 4 #[.agg (vC a), .agg (vC b), .agg (vC c)] w fun e w' => e = .returned (.bool true) ∧ Below w.heap.size w w' := stands_list a b c ha.1 hb.1 hc.1 ha.2 hb.2 w
end Go.Proofs.Ytfifbjlmbdgmjaa
