/- The law RefnameConflicts: walked. -/
import Derived.Test.YtmfncojkpkoijaaDoorNmJ
namespace Go.Proofs.YtmfncojkpkoijaaDoor
open Go.RowKit
set_option linter.unusedVariables false

set_option maxRecDepth 20000 in
set_option maxHeartbeats 4000000 in
theorem refnameConflicts_list (r : List UInt8) (t : List UInt8) (ht : t.length = 32) (n : List UInt8) (w : World) (hm : MaxOK w) :
    Calls Tryd.prog 4 #[.string (bstr r), .agg (idC t), .string (bstr n)] w fun e w' => e = .returned (.bool true) ∧ Below w.heap.size w w' := by
  obtain ⟨Z, hz0, hZs, hZ1, HZ⟩ : ∃ Z : Array Value, (Tryd.prog.info? 30).bind (fun i => i.zero.map Value.cells) = some Z ∧ Z.size = 32 ∧ (∀ u ∈ Z.toList, u.oneCell' = true) ∧ Hid (Z = idC zeros) := ⟨idC zeros, zero_id, by rw [idC_size]; rfl, by simpa [idC] using u8v_one zeros, rfl⟩
  have hs1 : ((bstr r).size : Int) = (r.length : Int) := by rw [bstr_size]
  have hs2 : ((bstr n).size : Int) = (n.length : Int) := by rw [bstr_size]
  have hst : (Tryd.prog.info? 30).map (·.size) = some (idC t).size := by rw [idC_size, ht]; exact size_id
  have hB : Below w.heap.size w (w.alloc (.cells (idC t) 30)) := (Below.refl _ w).alloc (Nat.le_refl _) _
  have hg : (w.alloc (.cells (idC t) 30)).heap[w.heap.size]? = some (.cells (idC t) 30 (0, 0)) := heap_alloc_new _ _
  replace hm := hm.below hB
  by_cases h1 : 300 < r.length
  · have c1 : (300 : Int) < (r.length : Int) := by omega
    clear h1
    generalize idC t = T at *
    go_enter Tryd.func4, Tryd.ntmps4
    go_wp2
    go_ret
    exact ⟨rfl, hB⟩
  · have c1 : ¬ (300 : Int) < (r.length : Int) := by omega
    by_cases h2 : 300 < n.length
    · have c2 : (300 : Int) < (n.length : Int) := by omega
      clear h1 h2
      generalize idC t = T at *
      go_enter Tryd.func4, Tryd.ntmps4
      go_wp2
      go_ret
      exact ⟨rfl, hB⟩
    · have c2 : ¬ (300 : Int) < (n.length : Int) := by omega
      have ca := fun w' (hm : MaxOK w') => conflict_any r t (by omega) ht w' hm
      have cb := fun w' => rconflict_any r t (by omega) ht w'
      have cs := fun w' (hm : MaxOK w') => nsplit_any n (by omega) w' hm
      have cr := fun w' => rsplit_any n (by omega) w'
      unfold spV at cs cr
      have hVl := splL_tip n
      obtain ⟨V, hV⟩ : ∃ V, V = idC (splL n).2.1 := ⟨_, rfl⟩
      have hVs : V.size = Z.size := by rw [hV, idC_size, hVl, hZs]
      have hV1 : ∀ u ∈ V.toList, u.oneCell' = true := by rw [hV]; simpa [idC] using u8v_one _
      have hsv : (Tryd.prog.info? 30).map (·.size) = some V.size := by rw [hVs, hZs]; exact size_id
      have EQ : ∀ W, (Op.equalIn 10000 30 (.agg V) (.agg V)).run Tryd.prog W = .ok true W := fun W => by
        have := run_eq_id W _ _ hVl hVl
        rw [← hV] at this
        simpa using this
      rw [← hV] at cs cr
      clear hV hVl h1 h2
      generalize bstr (conS r t) = S1 at *
      generalize (chkN r : Int) = E1 at *
      generalize bstr (splL n).1 = S2 at *
      generalize (splL n).2.2.1 = b2 at *
      generalize ((splL n).2.2.2 : Int) = E2 at *
      generalize idC t = T at *
      go_enter Tryd.func4, Tryd.ntmps4
      go_wp2_with (first
        | (with_reducible refine wpList_load_row rfl 30 (.tmp 4) rfl _ rfl 30 T _ _ hg Tryd.underlying30 rfl hst ?_)
        | (go_at_call 18; refine (ca _ hm).mono ?_; rintro e w1 ⟨rfl, hb⟩; replace hm := hm.below hb; replace hg := get_below hb hg; replace hB := below_then hB hb (Nat.le_refl _))
        | (go_at_call 19; refine (cb _).mono ?_; rintro e w2 ⟨rfl, hb⟩; replace hm := hm.below hb; replace hB := below_then hB hb (Nat.le_refl _))
        | (go_at_call 20; refine (cs _ hm).mono ?_; rintro e w3 ⟨rfl, hb⟩; replace hB := below_then (below_then hB hb (Nat.le_refl _)) (new_set_below w3 Z V 30) (Nat.le_refl _); have hq3 := heap_alloc_new w3 (.cells Z 30); have hg3 := new_set_own w3 Z V 30)
        | (with_reducible refine wpList_alloc_z rfl 30 rfl Z hz0 ?_)
        | (with_reducible refine wpList_store_z rfl 30 (.tmp 12) (.tmp 43) rfl _ rfl V rfl Z _ hq3 hVs hsv hV1 ?_)
        | (go_at_call 21; refine (cr _).mono ?_; rintro e w4 ⟨rfl, hb⟩; replace hB := below_then (below_then hB hb (Nat.le_refl _)) (new_set_below w4 Z V 30) (Nat.le_refl _); have hq4 := heap_alloc_new w4 (.cells Z 30); have hg4 := new_set_own w4 Z V 30; have hg5 := new_set Z V 30 (get_below hb hg3))
        | (with_reducible refine wpList_store_z rfl 30 (.tmp 16) (.tmp 50) rfl _ rfl V rfl Z _ hq4 hVs hsv hV1 ?_)
        | ((with_reducible refine wpList_load_rowW ?hw 30 (.tmp 12) rfl _ rfl 30 V _ _ hg5 Tryd.underlying30 rfl hsv ?_); case hw => rfl)
        | ((with_reducible refine wpList_load_rowW ?hw 30 (.tmp 16) rfl _ rfl 30 V _ _ hg4 Tryd.underlying30 rfl hsv ?_); case hw => rfl)
        | fail)
      go_ret
      exact ⟨by first | rfl | simp, hB⟩
theorem refnameConflicts_walk (s : ByteArray) (t : List UInt8) (u : ByteArray) (w : World) (_ : s.size ≤ maxLen) (ht : t.length = 32) (_ : u.size ≤ maxLen) (hm : MaxOK w) :
    Calls Tryd.prog 4 #[.string s, .agg (idC t), .string u] w fun e w' => e = .returned (.bool true) ∧ Below w.heap.size w w' := by
  rw [str_of_bytes s, str_of_bytes u]
  exact refnameConflicts_list _ t ht _ w hm
end Go.Proofs.YtmfncojkpkoijaaDoor
