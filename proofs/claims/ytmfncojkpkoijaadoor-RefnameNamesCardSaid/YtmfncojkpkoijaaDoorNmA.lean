/- Names of refs: the rules' own functions. -/
import Derived.Test.YtmfncojkpkoijaaDoorNmQ
import Derived.Test.YtmfncojkpkoijaaDoorShelf
import Derived.Laws.Runes
import Derived.Laws.RangeAny
import Derived.Laws.RangeString
namespace Go.Proofs.YtmfncojkpkoijaaDoor
open Go.RowKit
set_option linter.unusedVariables false

/-- The library's variable MaxLen holds some number. -/
def MaxOK (w : World) : Prop := ∃ m : Int, w.cell? ⟨1, 0, none⟩ = some (.int .i64 m)
theorem MaxOK.below {w w' : World} (h : MaxOK w) (hb : Below w.heap.size w w') : MaxOK w' := by
  obtain ⟨m, hm⟩ := h
  exact ⟨m, (hb.cell (World.block_lt_of_cell? w _ hm)).trans hm⟩
theorem str_data (l : List UInt8) : (bstr l).data.toList = l := rfl

theorem hasPrefix_any (l p : List UInt8) (w : World) : Calls Tryd.prog 29 #[.string (bstr l), .string (bstr p)] w fun e w' => e = .returned (.bool (Lib.hasPrefix l p)) ∧ w' = w := Tryd.strings_HasPrefix (bstr l) (bstr p) w
theorem hasSuffix_any (l p : List UInt8) (hl : l.length ≤ 100000) (w : World) : Calls Tryd.prog 24 #[.string (bstr l), .string (bstr p)] w fun e w' => e = .returned (.bool (Lib.hasSuffix l p)) ∧ w' = w := Tryd.strings_HasSuffix (bstr l) (bstr p) w (by rw [bstr_size]; omega)
theorem contains_any (l p : List UInt8) (hl : l.length ≤ 100000) (w : World) (hm : MaxOK w) : Calls Tryd.prog 70 #[.string (bstr l), .string (bstr p)] w fun e w' => e = .returned (.bool (Lib.contains l p)) ∧ w' = w := by
  obtain ⟨m, hm⟩ := hm
  exact Tryd.strings_Contains (bstr l) (bstr p) m w (by rw [bstr_size]; omega) hm
theorem split_any (l : List UInt8) (hl : l.length ≤ 100000) (w : World) (hm : MaxOK w) : Calls Tryd.prog 33 #[.string (bstr l), .string (bstr [47])] w fun e w' => e = .returned (.slice (some ⟨w.heap.size, 0, none⟩) (partsL l).length (partsL l).length) ∧ w' = w.alloc (.cells (strC (partsL l)).toArray 9) := by
  obtain ⟨m, hm⟩ := hm
  have h := Tryd.strings_Split (bstr l) (bstr [47]) m w (by rw [bstr_size]; omega) hm (Nat.le_refl _)
  rw [splitB_parts l _ rfl, splitB_parts_len, List.map_map] at h
  exact h

/-! ### The plain rules -/
def longB (l : List UInt8) : Bool := decide (l.length < 1 ∨ 100 < l.length)
theorem r1_any (l : List UInt8) (w : World) : Calls Tryd.prog 48 #[.string (bstr l)] w fun e w' => e = .returned (.bool (longB l)) ∧ w' = w := by
  have hsz : ((bstr l).size : Int) = (l.length : Int) := by rw [bstr_size]
  have he : (bstr l).toList = l := bstr_toList l
  by_cases h0 : l = []
  · subst h0
    go_enter Tryd.func48, Tryd.ntmps48
    go_wp2
    go_ret
    exact ⟨rfl, rfl⟩
  · have h2 : (bstr l).toList.isEmpty = false := by
      rw [he]
      cases l with
      | nil => exact absurd rfl h0
      | cons c r => rfl
    have h7 : l.length ≠ 0 := fun h => h0 (List.eq_nil_of_length_eq_zero h)
    clear he
    by_cases h3 : 100 < l.length
    · have h4 : longB l = true := decide_eq_true (.inr h3)
      have h5 : decide ((100 : Int) < ((bstr l).size : Int)) = true := decide_eq_true (by omega)
      rw [h4]
      clear h4 h3 h7 hsz
      go_enter Tryd.func48, Tryd.ntmps48
      go_wp2
      go_ret
      exact ⟨rfl, rfl⟩
    · have h4 : longB l = false := decide_eq_false (by omega)
      have h5 : decide ((100 : Int) < ((bstr l).size : Int)) = false := decide_eq_false (by omega)
      rw [h4]
      clear h4 h3 h7 hsz
      go_enter Tryd.func48, Tryd.ntmps48
      go_wp2
      go_ret
      exact ⟨rfl, rfl⟩
theorem r2_any (p : List UInt8) (w : World) : Calls Tryd.prog 51 #[.string (bstr p)] w fun e w' => e = .returned (.bool p.isEmpty) ∧ w' = w := by
  go_enter Tryd.func51, Tryd.ntmps51
  go_wp2
  go_ret
  refine ⟨?_, rfl⟩
  show Ending.returned (.bool (bstr p).toList.isEmpty) = _
  rw [bstr_toList]
theorem r3_any (p : List UInt8) (w : World) : Calls Tryd.prog 52 #[.string (bstr p)] w fun e w' => e = .returned (.bool (p.head? == some 46)) ∧ w' = w := by
  have c := hasPrefix_any p [46]
  rw [head_dot] at c
  go_enter Tryd.func52, Tryd.ntmps52
  go_wp2_with (go_at_call 29; refine (c _).mono ?_; rintro e w' ⟨rfl, rfl⟩)
  go_ret
  exact ⟨rfl, rfl⟩
theorem r4_any (p : List UInt8) (hl : p.length ≤ 100000) (w : World) : Calls Tryd.prog 54 #[.string (bstr p)] w fun e w' => e = .returned (.bool (lockL.isSuffixOf p)) ∧ w' = w := by
  have c := hasSuffix_any p lockL hl
  clear hl
  go_enter Tryd.func54, Tryd.ntmps54
  go_wp2_with (go_at_call 24; refine (c _).mono ?_; rintro e w' ⟨rfl, rfl⟩)
  go_ret
  exact ⟨rfl, rfl⟩
theorem r5_any (p : List UInt8) (hl : p.length ≤ 100000) (w : World) : Calls Tryd.prog 55 #[.string (bstr p)] w fun e w' => e = .returned (.bool (p.getLast? == some 46)) ∧ w' = w := by
  have c := hasSuffix_any p [46] hl
  rw [last_dot] at c
  clear hl
  go_enter Tryd.func55, Tryd.ntmps55
  go_wp2_with (go_at_call 24; refine (c _).mono ?_; rintro e w' ⟨rfl, rfl⟩)
  go_ret
  exact ⟨rfl, rfl⟩
theorem has1_any (l : List UInt8) (a b : UInt8) (g : Nat) (hl : l.length ≤ 100000) (w : World) (hm : MaxOK w) (hc : w.cell? ⟨g, 0, none⟩ = some (.string (bstr [a, b]))) :
    Calls Tryd.prog 72 #[.string (bstr l), .pointer (some ⟨g, 0, none⟩)] w fun e w' => e = .returned (.bool (pairL a b l)) ∧ w' = w := by
  have c := contains_any l [a, b] hl w hm
  rw [contains_two] at c
  clear hl
  go_enter Tryd.func72, Tryd.ntmps72
  go_wp2_with (go_at_call 70; refine c.mono ?_; rintro e w' ⟨rfl, rfl⟩)
  go_ret
  exact ⟨rfl, rfl⟩
end Go.Proofs.YtmfncojkpkoijaaDoor
