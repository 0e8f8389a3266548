/- The law RefnameSplits: walked. -/
import Derived.Test.YtmfncojkpkoijaaDoorNmJ
import Derived.Test.YtmfncojkpkoijaaDoorNmK
import Derived.Test.YtmfncojkpkoijaaDoorNmL
namespace Go.Proofs.YtmfncojkpkoijaaDoor
open Go.RowKit
set_option linter.unusedVariables false

set_option maxRecDepth 20000 in
set_option maxHeartbeats 4000000 in
theorem refnameSplits_list (n : List UInt8) (w : World) (hm : MaxOK w) :
    Calls Tryd.prog 6 #[.string (bstr n)] w fun e w' => e = .returned (.bool true) ∧ Below w.heap.size w w' := by
  obtain ⟨Z, hz0, hZs, hZ1, HZ⟩ : ∃ Z : Array Value, (Tryd.prog.info? 30).bind (fun i => i.zero.map Value.cells) = some Z ∧ Z.size = 32 ∧ (∀ u ∈ Z.toList, u.oneCell' = true) ∧ Hid (Z = idC zeros) := ⟨idC zeros, zero_id, by rw [idC_size]; rfl, by simpa [idC] using u8v_one zeros, rfl⟩
  have hs1 : ((bstr n).size : Int) = (n.length : Int) := by rw [bstr_size]
  have cal := alive_any w hm
  by_cases h1 : 300 < n.length
  · have c1 : (300 : Int) < (n.length : Int) := by omega
    clear h1
    go_enter Tryd.func6, Tryd.ntmps6
    go_wp2_with (go_at_call 22; refine cal.mono ?_; rintro e w1 ⟨rfl, hB⟩)
    go_ret
    exact ⟨rfl, hB⟩
  · have c1 : ¬ (300 : Int) < (n.length : Int) := by omega
    have cs := fun w' (hm : MaxOK w') => nsplit_any n (by omega) w' hm
    have cb := fun w' (hm : MaxOK w') => breaks_any n (by omega) w' hm
    unfold spV at cs
    have hVl := splL_tip n
    have hal : (splL n).2.2.2 = 0 → (splL n).1.length ≤ n.length := fun h => by
      obtain ⟨_, q1, q2⟩ := spl_back h
      cases hb : (splL n).2.2.1 with
      | false => rw [q1 hb]; exact Nat.le_refl _
      | true =>
        have := congrArg List.length (q2 hb)
        unfold confL at this
        rw [List.length_append] at this
        omega
    have hback := @spl_back n
    have herr := @spl_err n
    generalize splL n = S at *
    obtain ⟨a, t, is, e⟩ := S
    dsimp only at *
    obtain ⟨V, hV⟩ : ∃ V, V = idC t := ⟨_, rfl⟩
    have hVs : V.size = Z.size := by rw [hV, idC_size, hVl, hZs]
    have hV1 : ∀ u ∈ V.toList, u.oneCell' = true := by rw [hV]; simpa [idC] using u8v_one _
    have hsv : (Tryd.prog.info? 30).map (·.size) = some V.size := by rw [hVs, hZs]; exact size_id
    by_cases he : e = 0
    · subst he
      obtain ⟨hba, hf, ht⟩ := hback rfl
      have hal2 := hal rfl
      have ca := fun w' (hm : MaxOK w') => conflict_any a t (by omega) hVl w' hm
      have ck := fun w' (hm : MaxOK w') => check_any a (by omega) w' hm
      unfold chkN at ca ck
      unfold conS at ca
      rw [if_pos hba] at ca ck
      rw [if_pos hba] at ca
      rw [← hV] at cs ca
      clear hback herr hal hal2 hVl hV cb
      cases is with
      | false =>
        have ea := hf rfl
        subst ea
        have htl : ((bstr a).toList == (bstr a).toList) = true := beq_self_eq_true _
        clear hf ht ca h1
        go_enter Tryd.func6, Tryd.ntmps6
        go_wp2_with (first
          | (go_at_call 22; refine cal.mono ?_; rintro e w1 ⟨rfl, hB⟩; replace hm := hm.below hB)
          | (go_at_call 20; refine (cs _ hm).mono ?_; rintro e w3 ⟨rfl, hb⟩; replace hm := (hm.below hb).below (new_set_below w3 Z V 30); replace hB := below_then (below_then hB hb (Nat.le_refl _)) (new_set_below w3 Z V 30) (Nat.le_refl _); have hq3 := heap_alloc_new w3 (.cells Z 30); have hg3 := new_set_own w3 Z V 30)
          | (with_reducible refine wpList_alloc_z rfl 30 rfl Z hz0 ?_)
          | (with_reducible refine wpList_store_z rfl 30 (.tmp 5) (.tmp 22) rfl _ rfl V rfl Z _ hq3 hVs hsv hV1 ?_)
          | (go_at_call 11; refine (ck _ hm).mono ?_; rintro e w4 ⟨rfl, hb⟩; replace hB := below_then hB hb (Nat.le_refl _))
          | fail)
        go_ret
        exact ⟨by first | rfl | simp, hB⟩
      | true =>
        have ec := ht rfl
        rw [ec] at ca
        have htl : ((bstr n).toList == (bstr n).toList) = true := beq_self_eq_true _
        clear hf ht h1 ec
        go_enter Tryd.func6, Tryd.ntmps6
        go_wp2_with (first
          | (go_at_call 22; refine cal.mono ?_; rintro e w1 ⟨rfl, hB⟩; replace hm := hm.below hB)
          | (go_at_call 20; refine (cs _ hm).mono ?_; rintro e w3 ⟨rfl, hb⟩; replace hm := (hm.below hb).below (new_set_below w3 Z V 30); replace hB := below_then (below_then hB hb (Nat.le_refl _)) (new_set_below w3 Z V 30) (Nat.le_refl _); have hq3 := heap_alloc_new w3 (.cells Z 30); have hg3 := new_set_own w3 Z V 30)
          | (with_reducible refine wpList_alloc_z rfl 30 rfl Z hz0 ?_)
          | (with_reducible refine wpList_store_z rfl 30 (.tmp 5) (.tmp 22) rfl _ rfl V rfl Z _ hq3 hVs hsv hV1 ?_)
          | (with_reducible refine wpList_load_row rfl 30 (.tmp 5) rfl _ rfl 30 V _ _ hg3 Tryd.underlying30 rfl hsv ?_)
          | (go_at_call 18; refine (ca _ hm).mono ?_; rintro e w5 ⟨rfl, hb⟩; replace hm := hm.below hb; replace hB := below_then hB hb (Nat.le_refl _))
          | (go_at_call 11; refine (ck _ hm).mono ?_; rintro e w4 ⟨rfl, hb⟩; replace hB := below_then hB hb (Nat.le_refl _))
          | fail)
        go_ret
        exact ⟨by first | rfl | simp, hB⟩
    · have e1 : ((e : Int) != 0) = true := by simp; omega
      have e2 := br_neq (herr he)
      rw [← hV] at cs
      clear hback herr hal hVl hV he h1
      go_enter Tryd.func6, Tryd.ntmps6
      go_wp2_with (first
        | (go_at_call 22; refine cal.mono ?_; rintro e w1 ⟨rfl, hB⟩; replace hm := hm.below hB)
        | (go_at_call 20; refine (cs _ hm).mono ?_; rintro e w3 ⟨rfl, hb⟩; replace hm := (hm.below hb).below (new_set_below w3 Z V 30); replace hB := below_then (below_then hB hb (Nat.le_refl _)) (new_set_below w3 Z V 30) (Nat.le_refl _); have hq3 := heap_alloc_new w3 (.cells Z 30))
        | (with_reducible refine wpList_alloc_z rfl 30 rfl Z hz0 ?_)
        | (with_reducible refine wpList_store_z rfl 30 (.tmp 5) (.tmp 22) rfl _ rfl V rfl Z _ hq3 hVs hsv hV1 ?_)
        | (go_at_call 9; refine (cb _ hm).mono ?_; rintro e w4 ⟨rfl, hb⟩; replace hB := below_then hB hb (Nat.le_refl _))
        | fail)
      go_ret
      exact ⟨by first | rfl | simp, hB⟩
theorem refnameSplits_walk (s : ByteArray) (w : World) (_ : s.size ≤ maxLen) (hm : MaxOK w) :
    Calls Tryd.prog 6 #[.string s] w fun e w' => e = .returned (.bool true) ∧ Below w.heap.size w w' := by
  rw [str_of_bytes s]
  exact refnameSplits_list _ w hm
end Go.Proofs.YtmfncojkpkoijaaDoor
