/- The law RefnameApart: walked (printed by genapart.py). -/
import Derived.Test.YtmfncojkpkoijaaDoorNmJ
import Derived.Test.YtmfncojkpkoijaaDoorNmK
import Derived.Test.YtmfncojkpkoijaaDoorNmL
namespace Go.Proofs.YtmfncojkpkoijaaDoor
open Go.RowKit
set_option linter.unusedVariables false

theorem wpList_build_zW {P : Program} {ops : Array Oper} {rest : List Oper} {o : Oper} {a : Act} {w : World} {Q : Exit → Act → World → Prop} (hw : Region.wanted o (yielded ops a.tmps) = true) (ty : TypeId) (ho : o.op = .build ty #[]) (Z : Array Value) (hr : (Instr.build ty #[]).run P w = .ok (.agg Z) w)
    (h : wpList P ops Q rest (a.put o.dst (.agg Z)) w) : wpList P ops Q (o :: rest) a w :=
  wpList_step fun K hK => by
    rw [if_pos hw]
    unfold Oper.wp execOp
    simp only [ho, Array.map_empty, Sem.run_bind, hr]
    exact hK _ _ h
theorem tl_eq (a b : List UInt8) : ((bstr a).toList == (bstr b).toList) = decide (a = b) := by
  rw [bstr_toList, bstr_toList]
  by_cases h : a = b
  · subst h; simp
  · rw [decide_eq_false h, beq_eq_false_iff_ne]; exact h
set_option maxRecDepth 20000 in
set_option maxHeartbeats 8000000 in
theorem refnameApart_list (a b x y : List UInt8) (hx : x.length = 32) (hy : y.length = 32) (w : World) (hm : MaxOK w) :
    Calls Tryd.prog 5 #[.string (bstr a), .string (bstr b), .agg (idC x), .agg (idC y)] w fun e w' => e = .returned (.bool true) ∧ Below w.heap.size w w' := by
  obtain ⟨Z, hz0, hZs, hZ1, HZ⟩ : ∃ Z : Array Value, (Tryd.prog.info? 30).bind (fun i => i.zero.map Value.cells) = some Z ∧ Z.size = 32 ∧ (∀ u ∈ Z.toList, u.oneCell' = true) ∧ Hid (Z = idC zeros) := ⟨idC zeros, zero_id, by rw [idC_size]; rfl, by simpa [idC] using u8v_one zeros, rfl⟩
  have bz := fun W => run_build_z (P := Tryd.prog) W 30 5 32 Z hz0 Tryd.underlying30 ⟨_, Tryd.sizeOf5 W⟩
  have hsi : (Tryd.prog.info? 30).map (·.size) = some Z.size := by rw [hZs]; exact size_id
  have hs1 : ((bstr a).size : Int) = (a.length : Int) := by rw [bstr_size]
  have hs2 : ((bstr b).size : Int) = (b.length : Int) := by rw [bstr_size]
  have hsx : (Tryd.prog.info? 30).map (·.size) = some (idC x).size := by rw [idC_size, hx]; exact size_id
  have hsy : (Tryd.prog.info? 30).map (·.size) = some (idC y).size := by rw [idC_size, hy]; exact size_id
  have hXZ : (idC x).size = Z.size := by rw [idC_size, hx, hZs]
  have hX1 : ∀ u ∈ (idC x).toList, u.oneCell' = true := by simpa [idC] using u8v_one x
  have EXX : ∀ W, (Op.equalIn 10000 30 (.agg (idC x)) (.agg (idC x))).run Tryd.prog W = .ok true W := fun W => by simpa using run_eq_id W x x hx hx
  have EXY : ∀ W, (Op.equalIn 10000 30 (.agg (idC x)) (.agg (idC y))).run Tryd.prog W = .ok (decide (x = y)) W := fun W => run_eq_id W x y hx hy
  have EZZ : ∀ W, (Op.equalIn 10000 30 (.agg Z) (.agg Z)).run Tryd.prog W = .ok true W := fun W => by
    rw [HZ.out]
    simpa using run_eq_id W zeros zeros rfl rfl
  have hB : Below w.heap.size w ((w.alloc (.cells (idC x) 30)).alloc (.cells (idC y) 30)) := ((Below.refl _ w).alloc (Nat.le_refl _) _).alloc (by simp) _
  have hgx : ((w.alloc (.cells (idC x) 30)).alloc (.cells (idC y) 30)).heap[w.heap.size]? = some (.cells (idC x) 30 (0, 0)) := heap_alloc2_old _ _ _
  have hgy : ((w.alloc (.cells (idC x) 30)).alloc (.cells (idC y) 30)).heap[w.heap.size + 1]? = some (.cells (idC y) 30 (0, 0)) := heap_alloc2_new _ _ _
  have cal := alive_any
  replace hm := hm.below hB
  by_cases h1 : 200 < a.length
  · have c1 : (200 : Int) < (a.length : Int) := by omega
    clear h1
    generalize idC x = X at *
    generalize idC y = Y at *
    go_enter Tryd.func5, Tryd.ntmps5
    go_wp2_with (first
      | (go_at_call 22; refine (cal _ hm).mono ?_; rintro e w1 ⟨rfl, hb⟩; replace hm := hm.below hb; replace hgx := get_below hb hgx; replace hgy := get_below hb hgy; replace hB := below_then hB hb (Nat.le_refl _))
      | fail)
    go_ret
    exact ⟨by first | rfl | simp, hB⟩
  have c1 : ¬ (200 : Int) < (a.length : Int) := by omega
  by_cases h2 : 200 < b.length
  · have c2 : (200 : Int) < (b.length : Int) := by omega
    clear h1 h2
    generalize idC x = X at *
    generalize idC y = Y at *
    go_enter Tryd.func5, Tryd.ntmps5
    go_wp2_with (first
      | (go_at_call 22; refine (cal _ hm).mono ?_; rintro e w1 ⟨rfl, hb⟩; replace hm := hm.below hb; replace hgx := get_below hb hgx; replace hgy := get_below hb hgy; replace hB := below_then hB hb (Nat.le_refl _))
      | fail)
    go_ret
    exact ⟨by first | rfl | simp, hB⟩
  have c2 : ¬ (200 : Int) < (b.length : Int) := by omega
  have ca := fun w' (hm : MaxOK w') => conflict_any a x (by omega) hx w' hm
  have cb := fun w' (hm : MaxOK w') => conflict_any b y (by omega) hy w' hm
  have ba := fun w' (hm : MaxOK w') => breaks_any a (by omega) w' hm
  have bb := fun w' (hm : MaxOK w') => breaks_any b (by omega) w' hm
  unfold chkN conS at ca cb
  by_cases h3 : brL a = 0
  · rw [if_pos h3, if_pos h3] at ca
    by_cases h4 : brL b = 0
    · rw [if_pos h4, if_pos h4] at cb
      have hlc : (confL a x).length ≤ 1000 := by
        unfold confL
        rw [List.length_append, List.length_cons, textB_length, hx]
        omega
      have cs := fun w' (hm : MaxOK w') => nsplit_any (confL a x) hlc w' hm
      have cr := fun w' (hm : MaxOK w') => nsplit_any a (by omega) w' hm
      have bc := fun w' (hm : MaxOK w') => breaks_any (confL a x) hlc w' hm
      rw [splL_conf h3 hx] at cs
      rw [splL_ok h3] at cr
      unfold spV at cs cr
      dsimp only at cs cr
      rw [← HZ.out] at cr
      have bcn := br_neq (br_tilde (conf_tilde a x))
      have haa : ((bstr a).toList == (bstr a).toList) = true := beq_self_eq_true _
      have hab := tl_eq a b
      have hcd : ((bstr (confL a x)).toList == (bstr (confL b y)).toList) = (decide (a = b) && decide (x = y)) := by
        rw [tl_eq, ← Bool.decide_and]
        refine decide_eq_decide.2 ⟨fun h => conf_inj h3 h4 hx hy h, fun h => by rw [h.1, h.2]⟩
      clear h1 h2 h3 h4 ba bb hlc
      generalize idC x = X at *
      generalize idC y = Y at *
      generalize decide (x = y) = q at *
      generalize bstr (confL a x) = C1 at *
      generalize bstr (confL b y) = C2 at *
      generalize (brL (confL a x) : Int) = nb at *
      cases hq : decide (a = b) with
      | true =>
        rw [hq] at hab hcd
        rw [Bool.true_and] at hcd
        clear hq
        go_enter Tryd.func5, Tryd.ntmps5
        go_wp2_with (first
          | (go_at_call 22; refine (cal _ hm).mono ?_; rintro e w1 ⟨rfl, hb⟩; replace hm := hm.below hb; replace hgx := get_below hb hgx; replace hgy := get_below hb hgy; replace hB := below_then hB hb (Nat.le_refl _))
          | (with_reducible refine wpList_load_row rfl 30 (.tmp 6) rfl _ rfl 30 X _ _ hgx Tryd.underlying30 rfl hsx ?_)
          | (go_at_call 18; refine (ca _ hm).mono ?_; clear ca; rintro e w2 ⟨rfl, hb⟩; replace hm := hm.below hb; replace hgx := get_below hb hgx; replace hgy := get_below hb hgy; replace hB := below_then hB hb (Nat.le_refl _))
          | (with_reducible refine wpList_load_row rfl 30 (.tmp 7) rfl _ rfl 30 Y _ _ hgy Tryd.underlying30 rfl hsy ?_)
          | (go_at_call 18; refine (cb _ hm).mono ?_; clear cb; rintro e w3 ⟨rfl, hb⟩; replace hm := hm.below hb; replace hgx := get_below hb hgx; replace hgy := get_below hb hgy; replace hB := below_then hB hb (Nat.le_refl _))
          | (go_at_call 20; refine (cs _ hm).mono ?_; clear cs; rintro e w6 ⟨rfl, hb⟩; replace hm := (hm.below hb).below (new_set_below w6 Z X 30); replace hgx := new_set Z X 30 (get_below hb hgx); replace hgy := new_set Z X 30 (get_below hb hgy); replace hB := below_then (below_then hB hb (Nat.le_refl _)) (new_set_below w6 Z X 30) (Nat.le_refl _); have hq6 := heap_alloc_new w6 (.cells Z 30); have hg6 := new_set_own w6 Z X 30)
          | (with_reducible refine wpList_alloc_z rfl 30 rfl Z hz0 ?_)
          | (with_reducible refine wpList_store_z rfl 30 (.tmp 15) (.tmp 75) rfl _ rfl X rfl Z _ hq6 hXZ hsx hX1 ?_)
          | (go_at_call 20; refine (cr _ hm).mono ?_; clear cr; rintro e w7 ⟨rfl, hb⟩; replace hm := (hm.below hb).below (new_set_below w7 Z Z 30); replace hgx := new_set Z Z 30 (get_below hb hgx); replace hgy := new_set Z Z 30 (get_below hb hgy); replace hg6 := new_set Z Z 30 (get_below hb hg6); replace hB := below_then (below_then hB hb (Nat.le_refl _)) (new_set_below w7 Z Z 30) (Nat.le_refl _); have hq7 := heap_alloc_new w7 (.cells Z 30); have hg7 := new_set_own w7 Z Z 30)
          | (with_reducible refine wpList_store_z rfl 30 (.tmp 19) (.tmp 82) rfl _ rfl Z rfl Z _ hq7 rfl hsi hZ1 ?_)
          | ((with_reducible refine wpList_load_rowW ?hw 30 (.tmp 15) rfl _ rfl 30 X _ _ hg6 Tryd.underlying30 rfl hsx ?_); case hw => rfl)
          | ((with_reducible refine wpList_load_rowW ?hw 30 (.tmp 6) rfl _ rfl 30 X _ _ hgx Tryd.underlying30 rfl hsx ?_); case hw => rfl)
          | ((with_reducible refine wpList_load_rowW ?hw 30 (.tmp 7) rfl _ rfl 30 Y _ _ hgy Tryd.underlying30 rfl hsy ?_); case hw => rfl)
          | (go_at_call 9; refine (bc _ hm).mono ?_; clear bc; rintro e w8 ⟨rfl, hb⟩; replace hm := hm.below hb; replace hgx := get_below hb hgx; replace hgy := get_below hb hgy; replace hg7 := get_below hb hg7; replace hB := below_then hB hb (Nat.le_refl _))
          | ((with_reducible refine wpList_load_rowW ?hw 30 (.tmp 19) rfl _ rfl 30 Z _ _ hg7 Tryd.underlying30 rfl hsi ?_); case hw => rfl)
          | ((with_reducible refine wpList_build_zW ?hw 30 rfl Z (bz _) ?_); case hw => rfl)
          | fail)
        go_ret
        exact ⟨by first | rfl | simp, hB⟩
      | false =>
        rw [hq] at hab hcd
        rw [Bool.false_and] at hcd
        clear hq
        go_enter Tryd.func5, Tryd.ntmps5
        go_wp2_with (first
          | (go_at_call 22; refine (cal _ hm).mono ?_; rintro e w1 ⟨rfl, hb⟩; replace hm := hm.below hb; replace hgx := get_below hb hgx; replace hgy := get_below hb hgy; replace hB := below_then hB hb (Nat.le_refl _))
          | (with_reducible refine wpList_load_row rfl 30 (.tmp 6) rfl _ rfl 30 X _ _ hgx Tryd.underlying30 rfl hsx ?_)
          | (go_at_call 18; refine (ca _ hm).mono ?_; clear ca; rintro e w2 ⟨rfl, hb⟩; replace hm := hm.below hb; replace hgx := get_below hb hgx; replace hgy := get_below hb hgy; replace hB := below_then hB hb (Nat.le_refl _))
          | (with_reducible refine wpList_load_row rfl 30 (.tmp 7) rfl _ rfl 30 Y _ _ hgy Tryd.underlying30 rfl hsy ?_)
          | (go_at_call 18; refine (cb _ hm).mono ?_; clear cb; rintro e w3 ⟨rfl, hb⟩; replace hm := hm.below hb; replace hgx := get_below hb hgx; replace hgy := get_below hb hgy; replace hB := below_then hB hb (Nat.le_refl _))
          | (go_at_call 20; refine (cs _ hm).mono ?_; clear cs; rintro e w6 ⟨rfl, hb⟩; replace hm := (hm.below hb).below (new_set_below w6 Z X 30); replace hgx := new_set Z X 30 (get_below hb hgx); replace hgy := new_set Z X 30 (get_below hb hgy); replace hB := below_then (below_then hB hb (Nat.le_refl _)) (new_set_below w6 Z X 30) (Nat.le_refl _); have hq6 := heap_alloc_new w6 (.cells Z 30); have hg6 := new_set_own w6 Z X 30)
          | (with_reducible refine wpList_alloc_z rfl 30 rfl Z hz0 ?_)
          | (with_reducible refine wpList_store_z rfl 30 (.tmp 15) (.tmp 75) rfl _ rfl X rfl Z _ hq6 hXZ hsx hX1 ?_)
          | (go_at_call 20; refine (cr _ hm).mono ?_; clear cr; rintro e w7 ⟨rfl, hb⟩; replace hm := (hm.below hb).below (new_set_below w7 Z Z 30); replace hgx := new_set Z Z 30 (get_below hb hgx); replace hgy := new_set Z Z 30 (get_below hb hgy); replace hg6 := new_set Z Z 30 (get_below hb hg6); replace hB := below_then (below_then hB hb (Nat.le_refl _)) (new_set_below w7 Z Z 30) (Nat.le_refl _); have hq7 := heap_alloc_new w7 (.cells Z 30); have hg7 := new_set_own w7 Z Z 30)
          | (with_reducible refine wpList_store_z rfl 30 (.tmp 19) (.tmp 82) rfl _ rfl Z rfl Z _ hq7 rfl hsi hZ1 ?_)
          | ((with_reducible refine wpList_load_rowW ?hw 30 (.tmp 15) rfl _ rfl 30 X _ _ hg6 Tryd.underlying30 rfl hsx ?_); case hw => rfl)
          | ((with_reducible refine wpList_load_rowW ?hw 30 (.tmp 6) rfl _ rfl 30 X _ _ hgx Tryd.underlying30 rfl hsx ?_); case hw => rfl)
          | ((with_reducible refine wpList_load_rowW ?hw 30 (.tmp 7) rfl _ rfl 30 Y _ _ hgy Tryd.underlying30 rfl hsy ?_); case hw => rfl)
          | (go_at_call 9; refine (bc _ hm).mono ?_; clear bc; rintro e w8 ⟨rfl, hb⟩; replace hm := hm.below hb; replace hgx := get_below hb hgx; replace hgy := get_below hb hgy; replace hg7 := get_below hb hg7; replace hB := below_then hB hb (Nat.le_refl _))
          | ((with_reducible refine wpList_load_rowW ?hw 30 (.tmp 19) rfl _ rfl 30 Z _ _ hg7 Tryd.underlying30 rfl hsi ?_); case hw => rfl)
          | ((with_reducible refine wpList_build_zW ?hw 30 rfl Z (bz _) ?_); case hw => rfl)
          | fail)
        go_ret
        exact ⟨by first | rfl | simp, hB⟩
    · rw [if_neg h4, if_neg h4] at cb
      have e3 : ((brL a : Int) == 0) = true := by rw [h3]; rfl
      have e4 : ((brL b : Int) == 0) = false := by rw [beq_eq_false_iff_ne]; omega
      clear h1 h2 h3 h4
      generalize idC x = X at *
      generalize idC y = Y at *
      go_enter Tryd.func5, Tryd.ntmps5
      go_wp2_with (first
        | (go_at_call 22; refine (cal _ hm).mono ?_; rintro e w1 ⟨rfl, hb⟩; replace hm := hm.below hb; replace hgx := get_below hb hgx; replace hgy := get_below hb hgy; replace hB := below_then hB hb (Nat.le_refl _))
        | (with_reducible refine wpList_load_row rfl 30 (.tmp 6) rfl _ rfl 30 X _ _ hgx Tryd.underlying30 rfl hsx ?_)
        | (go_at_call 18; refine (ca _ hm).mono ?_; clear ca; rintro e w2 ⟨rfl, hb⟩; replace hm := hm.below hb; replace hgx := get_below hb hgx; replace hgy := get_below hb hgy; replace hB := below_then hB hb (Nat.le_refl _))
        | (with_reducible refine wpList_load_row rfl 30 (.tmp 7) rfl _ rfl 30 Y _ _ hgy Tryd.underlying30 rfl hsy ?_)
        | (go_at_call 18; refine (cb _ hm).mono ?_; clear cb; rintro e w3 ⟨rfl, hb⟩; replace hm := hm.below hb; replace hgx := get_below hb hgx; replace hgy := get_below hb hgy; replace hB := below_then hB hb (Nat.le_refl _))
        | (go_at_call 9; refine (ba _ hm).mono ?_; clear ba; rintro e w4 ⟨rfl, hb⟩; replace hm := hm.below hb; replace hB := below_then hB hb (Nat.le_refl _))
        | (go_at_call 9; refine (bb _ hm).mono ?_; clear bb; rintro e w5 ⟨rfl, hb⟩; replace hB := below_then hB hb (Nat.le_refl _))
        | fail)
      go_ret
      exact ⟨by first | rfl | simp, hB⟩
  · rw [if_neg h3, if_neg h3] at ca
    have e3 : ((brL a : Int) == 0) = false := by rw [beq_eq_false_iff_ne]; omega
    by_cases h4 : brL b = 0
    · rw [if_pos h4, if_pos h4] at cb
      have e4 : ((brL b : Int) == 0) = true := by rw [h4]; rfl
      clear h1 h2 h3 h4
      generalize idC x = X at *
      generalize idC y = Y at *
      go_enter Tryd.func5, Tryd.ntmps5
      go_wp2_with (first
        | (go_at_call 22; refine (cal _ hm).mono ?_; rintro e w1 ⟨rfl, hb⟩; replace hm := hm.below hb; replace hgx := get_below hb hgx; replace hgy := get_below hb hgy; replace hB := below_then hB hb (Nat.le_refl _))
        | (with_reducible refine wpList_load_row rfl 30 (.tmp 6) rfl _ rfl 30 X _ _ hgx Tryd.underlying30 rfl hsx ?_)
        | (go_at_call 18; refine (ca _ hm).mono ?_; clear ca; rintro e w2 ⟨rfl, hb⟩; replace hm := hm.below hb; replace hgx := get_below hb hgx; replace hgy := get_below hb hgy; replace hB := below_then hB hb (Nat.le_refl _))
        | (with_reducible refine wpList_load_row rfl 30 (.tmp 7) rfl _ rfl 30 Y _ _ hgy Tryd.underlying30 rfl hsy ?_)
        | (go_at_call 18; refine (cb _ hm).mono ?_; clear cb; rintro e w3 ⟨rfl, hb⟩; replace hm := hm.below hb; replace hgx := get_below hb hgx; replace hgy := get_below hb hgy; replace hB := below_then hB hb (Nat.le_refl _))
        | (go_at_call 9; refine (ba _ hm).mono ?_; clear ba; rintro e w4 ⟨rfl, hb⟩; replace hm := hm.below hb; replace hB := below_then hB hb (Nat.le_refl _))
        | (go_at_call 9; refine (bb _ hm).mono ?_; clear bb; rintro e w5 ⟨rfl, hb⟩; replace hB := below_then hB hb (Nat.le_refl _))
        | fail)
      go_ret
      exact ⟨by first | rfl | simp, hB⟩
    · rw [if_neg h4, if_neg h4] at cb
      have e4 : ((brL b : Int) == 0) = false := by rw [beq_eq_false_iff_ne]; omega
      clear h1 h2 h3 h4
      generalize idC x = X at *
      generalize idC y = Y at *
      go_enter Tryd.func5, Tryd.ntmps5
      go_wp2_with (first
        | (go_at_call 22; refine (cal _ hm).mono ?_; rintro e w1 ⟨rfl, hb⟩; replace hm := hm.below hb; replace hgx := get_below hb hgx; replace hgy := get_below hb hgy; replace hB := below_then hB hb (Nat.le_refl _))
        | (with_reducible refine wpList_load_row rfl 30 (.tmp 6) rfl _ rfl 30 X _ _ hgx Tryd.underlying30 rfl hsx ?_)
        | (go_at_call 18; refine (ca _ hm).mono ?_; clear ca; rintro e w2 ⟨rfl, hb⟩; replace hm := hm.below hb; replace hgx := get_below hb hgx; replace hgy := get_below hb hgy; replace hB := below_then hB hb (Nat.le_refl _))
        | (with_reducible refine wpList_load_row rfl 30 (.tmp 7) rfl _ rfl 30 Y _ _ hgy Tryd.underlying30 rfl hsy ?_)
        | (go_at_call 18; refine (cb _ hm).mono ?_; clear cb; rintro e w3 ⟨rfl, hb⟩; replace hm := hm.below hb; replace hgx := get_below hb hgx; replace hgy := get_below hb hgy; replace hB := below_then hB hb (Nat.le_refl _))
        | (go_at_call 9; refine (ba _ hm).mono ?_; clear ba; rintro e w4 ⟨rfl, hb⟩; replace hm := hm.below hb; replace hB := below_then hB hb (Nat.le_refl _))
        | (go_at_call 9; refine (bb _ hm).mono ?_; clear bb; rintro e w5 ⟨rfl, hb⟩; replace hB := below_then hB hb (Nat.le_refl _))
        | fail)
      go_ret
      exact ⟨by first | rfl | simp, hB⟩
theorem refnameApart_walk (s u : ByteArray) (x y : List UInt8) (w : World) (_ : s.size ≤ maxLen) (_ : u.size ≤ maxLen) (hx : x.length = 32) (hy : y.length = 32) (hm : MaxOK w) :
    Calls Tryd.prog 5 #[.string s, .string u, .agg (idC x), .agg (idC y)] w fun e w' => e = .returned (.bool true) ∧ Below w.heap.size w w' := by
  rw [str_of_bytes s, str_of_bytes u]
  exact refnameApart_list _ _ x y hx hy w hm
end Go.Proofs.YtmfncojkpkoijaaDoor
