/- The law RefnameRules: walked. -/
import Derived.Test.YtmfncojkpkoijaaDoorNmE
namespace Go.Proofs.YtmfncojkpkoijaaDoor
open Go.RowKit
set_option linter.unusedVariables false

theorem str_of_bytes (s : ByteArray) : s = bstr s.toList := by rw [ByteArray.toList_eq]; rfl
theorem prtL_len (l : List UInt8) : (prtL l).length ≤ l.length + 1 := by
  unfold prtL
  split
  · exact (partsL_len l).1
  · simp
set_option maxRecDepth 20000 in
set_option maxHeartbeats 2000000 in
theorem refnameRules_list (n f : List UInt8) (w : World) (hm : MaxOK w) :
    Calls Tryd.prog 3 #[.string (bstr n), .string (bstr f)] w fun e w' => e = .returned (.bool true) ∧ Below w.heap.size w w' := by
  have hs1 : ((bstr n).size : Int) = (n.length : Int) := by rw [bstr_size]
  have hs2 : ((bstr f).size : Int) = (f.length : Int) := by rw [bstr_size]
  by_cases h1 : 300 < n.length
  · have c1 : (300 : Int) < (n.length : Int) := by omega
    clear h1
    go_enter Tryd.func3, Tryd.ntmps3
    go_wp2
    go_ret
    exact ⟨rfl, Below.refl _ _⟩
  · have c1 : ¬ (300 : Int) < (n.length : Int) := by omega
    by_cases h2 : 300 < f.length
    · have c2 : (300 : Int) < (f.length : Int) := by omega
      clear h1 h2
      go_enter Tryd.func3, Tryd.ntmps3
      go_wp2
      go_ret
      exact ⟨rfl, Below.refl _ _⟩
    · have c2 : ¬ (300 : Int) < (f.length : Int) := by omega
      have b := fun w' (hm : MaxOK w') => breaks_any n (by omega) w' hm
      have rb := fun w' => rbreaks_any n (by omega) w'
      have k := fun w' (hm : MaxOK w') => check_any n (by omega) w' hm
      have rk := fun w' => rcheck_any n (by omega) w'
      have p := fun w' (hm : MaxOK w') => parts_any n (by omega) w' hm
      have rp := fun w' => rParts_any n (by omega) w'
      have wi := fun w' (hm : MaxOK w') => within_any n f (by omega) (by omega) w' hm
      have rw' := fun w' => rwithin_any n f (by omega) (by omega) w'
      have hlen := prtL_len n
      have tx := fun v v' w' => texts_same (prtL n) (by omega) v v' w'
      clear h1 h2 hlen
      generalize (brL n : Int) = x1 at *
      generalize (chkN n : Int) = x2 at *
      generalize prtL n = x3 at *
      generalize witB n f = x4 at *
      go_enter Tryd.func3, Tryd.ntmps3
      go_wp2_with (first
        | (go_at_call 9; refine (b _ hm).mono ?_; rintro e w1 ⟨rfl, hb⟩; replace hm := hm.below hb; have hB := hb)
        | (go_at_call 10; refine (rb _).mono ?_; rintro e w2 ⟨rfl, hb⟩; replace hm := hm.below hb; replace hB := below_then hB hb (Nat.le_refl _))
        | (go_at_call 11; refine (k _ hm).mono ?_; rintro e w3 ⟨rfl, hb⟩; replace hm := hm.below hb; replace hB := below_then hB hb (Nat.le_refl _))
        | (go_at_call 12; refine (rk _).mono ?_; rintro e w4 ⟨rfl, hb⟩; replace hm := hm.below hb; replace hB := below_then hB hb (Nat.le_refl _))
        | (go_at_call 14; refine (p _ hm).mono ?_; rintro e w5 ⟨⟨v1, rfl, hv1⟩, hb⟩; replace hm := hm.below hb; replace hB := below_then hB hb (Nat.le_refl _))
        | (go_at_call 15; refine (rp _).mono ?_; rintro e w6 ⟨⟨v2, rfl, hv2⟩, hb⟩; replace hm := hm.below hb; replace hv1 := hv1.below hb; replace hB := below_then hB hb (Nat.le_refl _))
        | (go_at_call 13; refine (tx _ _ _ hv1 hv2).mono ?_; rintro e w7 ⟨rfl, hb⟩; replace hm := hm.below hb; replace hB := below_then hB hb (Nat.le_refl _))
        | (go_at_call 16; refine (wi _ hm).mono ?_; rintro e w8 ⟨rfl, hb⟩; replace hm := hm.below hb; replace hB := below_then hB hb (Nat.le_refl _))
        | (go_at_call 17; refine (rw' _).mono ?_; rintro e w9 ⟨rfl, hb⟩; replace hB := below_then hB hb (Nat.le_refl _))
        | fail)
      go_ret
      exact ⟨by first | rfl | simp, hB⟩
theorem refnameRules_walk (s t : ByteArray) (w : World) (_ : s.size ≤ maxLen) (_ : t.size ≤ maxLen) (hm : MaxOK w) :
    Calls Tryd.prog 3 #[.string s, .string t] w fun e w' => e = .returned (.bool true) ∧ Below w.heap.size w w' := by
  rw [str_of_bytes s, str_of_bytes t]
  exact refnameRules_list _ _ w hm
end Go.Proofs.YtmfncojkpkoijaaDoor
