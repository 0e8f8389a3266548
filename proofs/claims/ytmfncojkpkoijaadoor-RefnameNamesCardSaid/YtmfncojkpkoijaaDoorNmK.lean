/- Names of refs: the laws' own helpers: names that break just a rule; the chapter's first examples. -/
import Derived.Test.YtmfncojkpkoijaaDoorNmE
namespace Go.Proofs.YtmfncojkpkoijaaDoor
open Go.RowKit
set_option linter.unusedVariables false

set_option maxRecDepth 20000 in
set_option maxHeartbeats 4000000 in
theorem breaks_row (k : Nat) (hk8 : k ≤ 8) (ns : List (List UInt8)) (hns : ∀ x ∈ ns, x.length ≤ 1000 ∧ brL x = k) (hn : ns.length ≤ 1000) (w0 : World) (hm : MaxOK w0) :
    Calls Tryd.prog 26 #[.int .i64 (k : Int), .slice (some ⟨w0.heap.size, 0, none⟩) ns.length ns.length] (w0.alloc (.cells (strC ns).toArray 9)) fun e w' => e = .returned (.bool true) ∧ Below w0.heap.size w0 w' := by
  have hb0 : Below w0.heap.size w0 (w0.alloc (.cells (strC ns).toArray 9)) := (Below.refl _ _).alloc (Nat.le_refl _) _
  have hg0 : (w0.alloc (.cells (strC ns).toArray 9)).heap[w0.heap.size]? = some (.cells (strC ns).toArray 9 (0, 0)) := heap_alloc_new _ _
  have hm0 := hm.below hb0
  obtain ⟨w, hw⟩ : ∃ w, w = w0.alloc (.cells (strC ns).toArray 9) := ⟨_, rfl⟩
  rw [← hw] at hb0 hg0 hm0 ⊢
  clear hw hm
  go_enter Tryd.func26, Tryd.ntmps26
  go_wp2_with fail
  go_loopw [9] (fun i wr => ∃ j : Nat, j ≤ ns.length ∧ i = .int .i64 j ∧ Below w.heap.size w wr) (fun i _ => ns.length - (intOf i).toNat)
  case atStart => exact ⟨0, by omega, rfl, Below.refl _ _⟩
  case round =>
    obtain ⟨j, hj, rfl, hbr⟩ := hrel
    have hg1 := get_below hbr hg0
    have hm1 := hm0.below hbr
    by_cases hlt : j < ns.length
    · have c1 : (j : Int) < (ns.length : Int) := by omega
      have hA : wr.cell? ⟨w0.heap.size, j, none⟩ = some (.string (bstr ns[j])) := by
        rw [cell_of_row _ _ _ _ _ _ hg1]
        simp [strC, hlt]
      obtain ⟨hx1, hx2⟩ := hns ns[j] (List.getElem_mem hlt)
      generalize ns[j] = x at *
      have cb := breaks_any x hx1
      have cc := check_any x hx1
      have cp := parts_any x hx1
      rw [hx2] at cb
      unfold chkN at cc
      unfold prtL at cp
      rw [hx2] at cc cp
      by_cases h0 : k = 0
      · rw [if_pos h0] at cc cp
        subst h0
        have hpos : decide (0 < (partsL x).length) = true := decide_eq_true (List.length_pos_iff.2 (partsL_ne x))
        generalize partsL x = ps at *
        clear hns hx1 hx2 hk8
        go_wp2_with (first
          | (go_at_call 9; refine (cb _ hm1).mono ?_; rintro e w1 ⟨rfl, hb⟩; replace hm1 := hm1.below hb; replace hbr := below_then hbr hb (Nat.le_refl _))
          | (go_at_call 11; refine (cc _ hm1).mono ?_; rintro e w2 ⟨rfl, hb⟩; replace hm1 := hm1.below hb; replace hbr := below_then hbr hb (Nat.le_refl _))
          | (go_at_call 14; refine (cp _ hm1).mono ?_; rintro e w3 ⟨⟨v, rfl, A, c, rfl, q1, q2, q3⟩, hb⟩; replace hbr := below_then hbr hb (Nat.le_refl _))
          | fail)
        go_roundw
        case rel => first | exact ⟨j + 1, by omega, by go_num, hbr⟩ | ((repeat apply Exists.intro); exact ⟨⟨j + 1, by omega, by go_num, hbr⟩, rfl⟩)
        case measure => simp [intOf]; omega
      · rw [if_neg h0] at cc cp
        have hk0 : ((k : Int) == 0) = false := by rw [beq_eq_false_iff_ne]; omega
        clear hns hx1 hx2
        go_wp2_with (first
          | (go_at_call 9; refine (cb _ hm1).mono ?_; rintro e w1 ⟨rfl, hb⟩; replace hm1 := hm1.below hb; replace hbr := below_then hbr hb (Nat.le_refl _))
          | (go_at_call 11; refine (cc _ hm1).mono ?_; rintro e w2 ⟨rfl, hb⟩; replace hm1 := hm1.below hb; replace hbr := below_then hbr hb (Nat.le_refl _))
          | (go_at_call 14; refine (cp _ hm1).mono ?_; rintro e w3 ⟨⟨v, rfl, A, c, rfl, q1, q2, q3⟩, hb⟩; replace hbr := below_then hbr hb (Nat.le_refl _))
          | fail)
        go_roundw
        case rel => first | exact ⟨j + 1, by omega, by go_num, hbr⟩ | ((repeat apply Exists.intro); exact ⟨⟨j + 1, by omega, by go_num, hbr⟩, rfl⟩)
        case measure => simp [intOf]; omega
    · obtain rfl : j = ns.length := by omega
      go_wp2_with fail
      go_ret
      exact ⟨rfl, below_then hb0 hbr (Nat.le_refl _)⟩
/-- Whether a list of names breaks just that rule, reckoned. -/
def brkB (k : Nat) (ns : List (List UInt8)) : Bool := decide (k ≤ 8) && (decide (ns.length ≤ 1000) && ns.all fun x => decide (x.length ≤ 1000) && brL x == k)
theorem breaks_new (k : Nat) (ns : List (List UInt8)) (hB : brkB k ns = true) (w0 : World) (hm : MaxOK w0) :
    Calls Tryd.prog 26 #[.int .i64 (k : Int), .slice (some ⟨w0.heap.size, 0, none⟩) ns.length ns.length] (w0.alloc (.cells (strC ns).toArray 9)) fun e w' => e = .returned (.bool true) ∧ Below w0.heap.size w0 w' := by
  unfold brkB at hB
  simp only [Bool.and_eq_true, decide_eq_true_eq, List.all_eq_true, beq_iff_eq] at hB
  exact breaks_row k hB.1 ns hB.2.2 hB.2.1 w0 hm
set_option maxRecDepth 20000 in
set_option maxHeartbeats 4000000 in
theorem alive_any (w : World) (hm : MaxOK w) : Calls Tryd.prog 22 #[] w fun e w' => e = .returned (.bool true) ∧ Below w.heap.size w w' := by
  have c0 := breaks_new 0 [[109, 97, 105, 110], [114, 101, 102, 115, 47, 104, 101, 97, 100, 115, 47, 97, 46, 98]] (by decide +kernel)
  have c1 := breaks_new 1 [[]] (by decide +kernel)
  have c2 := breaks_new 2 [[97, 32, 98], [97, 126, 98]] (by decide +kernel)
  have c3 := breaks_new 3 [[97, 47, 47, 98]] (by decide +kernel)
  have c4 := breaks_new 4 [[46, 97]] (by decide +kernel)
  have c5 := breaks_new 5 [[97, 46, 46, 98]] (by decide +kernel)
  have c6 := breaks_new 6 [[120, 46, 108, 111, 99, 107, 47, 121]] (by decide +kernel)
  have c7 := breaks_new 7 [[97, 46]] (by decide +kernel)
  have c8 := breaks_new 8 [[97, 64, 123, 98]] (by decide +kernel)
  go_enter Tryd.func22, Tryd.ntmps22
  go_wp2_with (first
    | (go_at_call 26; refine (c0 _ hm).mono ?_; clear c0; rintro e w0 ⟨rfl, hb⟩; replace hm := hm.below hb; have hB := hb)
    | (go_at_call 26; refine (c1 _ hm).mono ?_; clear c1; rintro e w1 ⟨rfl, hb⟩; replace hm := hm.below hb; replace hB := below_then hB hb (Nat.le_refl _))
    | (go_at_call 26; refine (c2 _ hm).mono ?_; clear c2; rintro e w2 ⟨rfl, hb⟩; replace hm := hm.below hb; replace hB := below_then hB hb (Nat.le_refl _))
    | (go_at_call 26; refine (c3 _ hm).mono ?_; clear c3; rintro e w3 ⟨rfl, hb⟩; replace hm := hm.below hb; replace hB := below_then hB hb (Nat.le_refl _))
    | (go_at_call 26; refine (c4 _ hm).mono ?_; clear c4; rintro e w4 ⟨rfl, hb⟩; replace hm := hm.below hb; replace hB := below_then hB hb (Nat.le_refl _))
    | (go_at_call 26; refine (c5 _ hm).mono ?_; clear c5; rintro e w5 ⟨rfl, hb⟩; replace hm := hm.below hb; replace hB := below_then hB hb (Nat.le_refl _))
    | (go_at_call 26; refine (c6 _ hm).mono ?_; clear c6; rintro e w6 ⟨rfl, hb⟩; replace hm := hm.below hb; replace hB := below_then hB hb (Nat.le_refl _))
    | (go_at_call 26; refine (c7 _ hm).mono ?_; clear c7; rintro e w7 ⟨rfl, hb⟩; replace hm := hm.below hb; replace hB := below_then hB hb (Nat.le_refl _))
    | (go_at_call 26; refine (c8 _ hm).mono ?_; clear c8; rintro e w8 ⟨rfl, hb⟩; replace hB := below_then hB hb (Nat.le_refl _))
    | fail)
  go_ret
  exact ⟨rfl, hB⟩
end Go.Proofs.YtmfncojkpkoijaaDoor
