/- The law HashBack, walked. -/
import Derived.Test.YtcdnbidenaljlaaDoorShaGb
import Derived.Test.YtcdnbidenaljlaaDoorShaBp
import Derived.Test.YtcdnbidenaljlaaDoorHashO
namespace Go.Proofs.YtcdnbidenaljlaaDoor
open Go.RowKit

theorem wpList_load_rowW {P : Program} {ops : Array Oper} {rest : List Oper} {o : Oper} {a : Act} {w : World} {Q : Exit → Act → World → Prop} (hw : Region.wanted o (yielded ops a.tmps) = true) (ty : TypeId) (x : Operand) (ho : o.op = .load ty x) (g : Nat) (hx : a.eval x = .pointer (some ⟨g, 0, none⟩)) (t : TypeId) (cs : Array Value) (fr : Nat × Nat) (d : TypeDesc)
    (hg : w.heap[g]? = some (.cells cs t fr)) (hu : P.underlying ty = some d) (hd : (match d with | .struct _ | .array _ _ => true | _ => false) = true) (hi : (P.info? ty).map (·.size) = some cs.size)
    (h : wpList P ops Q rest (a.put o.dst (.agg cs)) w) : wpList P ops Q (o :: rest) a w :=
  wpList_step fun K hK => by
    rw [if_pos hw]
    exact wp_load_row ty x ho g hx t cs fr d hg hu hd hi (hK _ _ h)
set_option maxRecDepth 100000 in
set_option maxHeartbeats 2000000 in
theorem hashBack_list (a b s : List UInt8) (ha : a.length = 32) (hb : b.length = 32) (w : World) (hT : TabsOK w) :
    Calls Tryd.prog 5 #[.agg (idC a), .agg (idC b), .string (bstr s)] w fun e w' => e = .returned (.bool true) ∧ Below w.heap.size w w' := by
  obtain ⟨CA, hCA, hCAs, hCA1⟩ : ∃ C : Array Value, Hid (C = idC a) ∧ C.size = 32 ∧ (∀ u ∈ C.toList, u.oneCell' = true) := ⟨_, rfl, by rw [idC_size, ha], by simpa [idC] using u8v_one a⟩
  obtain ⟨CB, hCB, hCBs, hCB1⟩ : ∃ C : Array Value, Hid (C = idC b) ∧ C.size = 32 ∧ (∀ u ∈ C.toList, u.oneCell' = true) := ⟨_, rfl, by rw [idC_size, hb], by simpa [idC] using u8v_one b⟩
  obtain ⟨Z, hZ0, hZs⟩ : ∃ Z : Array Value, (Tryd.prog.info? 25).bind (fun i => i.zero.map Value.cells) = some Z ∧ Z.size = 32 := ⟨_, zero_id, by rw [idC_size]; rfl⟩
  have hAi : (Tryd.prog.info? 25).map (·.size) = some CA.size := by rw [hCAs]; exact size_id
  have hBi : (Tryd.prog.info? 25).map (·.size) = some CB.size := by rw [hCBs]; exact size_id
  have hAz : CA.size = Z.size := by rw [hCAs, hZs]
  have hta : ∀ W, Calls Tryd.prog 15 #[.agg CA] W fun e w' => e = .returned (.string (bstr (textB a))) ∧ Below W.heap.size W w' := fun W => by rw [hCA.out]; exact text_any a ha W
  have htb : ∀ W, Calls Tryd.prog 15 #[.agg CB] W fun e w' => e = .returned (.string (bstr (textB b))) ∧ Below W.heap.size W w' := fun W => by rw [hCB.out]; exact text_any b hb W
  have hpa : ∀ W, Calls Tryd.prog 14 #[.string (bstr (textB a))] W fun e w' => e = .returned (.tuple #[.agg CA, .int .i64 0]) ∧ Below W.heap.size W w' := fun W => by
    have := parse_any (textB a) (by rw [textB_length, ha]; omega) W
    rw [(parse_text a ha).1, (parse_text a ha).2] at this
    rw [hCA.out]
    exact this
  have hlen : (bstr (textB a)).size = 64 := by rw [bstr_size, textB_length, ha]
  rw [← hCA.out, ← hCB.out]
  obtain ⟨w1, hw1⟩ : ∃ w1, w1 = (w.alloc (.cells CA 25)).alloc (.cells CB 25) := ⟨_, rfl⟩
  have hb1 : Below w.heap.size w w1 := by rw [hw1]; exact ((Below.refl _ w).alloc (Nat.le_refl _) _).alloc (by simp) _
  have q0 : w1.heap[w.heap.size]? = some (.cells CA 25 (0, 0)) := by rw [hw1]; exact heap_alloc2_old _ _ _
  have q1 : w1.heap[w.heap.size + 1]? = some (.cells CB 25 (0, 0)) := by rw [hw1]; exact heap_alloc2_new _ _ _
  have hal := alive_any w1 (hT.below hb1)
  have HW1 := Lib.hid hw1
  clear hw1
  go_enter Tryd.func5, Tryd.ntmps5
  go_wp2_with fail
  rw [← HW1.out]
  refine hal.mono ?_
  rintro e w2 ⟨rfl, hb2⟩
  have q02 := (hb2.block _ (lt_of_get q0)).trans q0
  have q12 := (hb2.block _ (lt_of_get q1)).trans q1
  have hb02 := below_then hb1 hb2 (Nat.le_refl _)
  clear q0 q1 hb1 hal HW1 hb2 hT
  go_wp2_with (first
    | (with_reducible refine wpList_load_row rfl 25 (.tmp 3) rfl _ rfl 25 CA _ _ q02 Tryd.underlying25 rfl hAi ?_)
    | fail)
  refine (hta w2).mono ?_
  rintro e w3 ⟨rfl, hb3⟩
  go_wp2_with fail
  refine (hpa w3).mono ?_
  rintro e w4 ⟨rfl, hb4⟩
  have hb24 := below_then hb3 hb4 (Nat.le_refl _)
  have q04 := (hb24.block _ (lt_of_get q02)).trans q02
  have q14 := (hb24.block _ (lt_of_get q12)).trans q12
  have hb04 := below_then hb02 hb24 (Nat.le_refl _)
  clear q02 q12 hb02 hb3 hb4 hb24
  obtain ⟨w5, hw5⟩ : ∃ w5, w5 = (w4.alloc (.cells Z 25)).setRow w4.heap.size CA := ⟨_, rfl⟩
  have qn : (w4.alloc (.cells Z 25)).heap[w4.heap.size]? = some (.cells Z 25 (0, 0)) := heap_alloc_new _ _
  have hb5 : Below w4.heap.size w4 w5 := by rw [hw5]; exact below_setRow ((Below.refl _ w4).alloc (Nat.le_refl _) _) (Nat.le_refl _) CA
  have qx5 : w5.heap[w4.heap.size]? = some (.cells CA 25 (0, 0)) := by rw [hw5]; exact setRow_heap _ _ _ _ _ _ qn
  have HW5 := Lib.hid hw5
  clear hw5
  have q05 := (hb5.block _ (lt_of_get q04)).trans q04
  have q15 := (hb5.block _ (lt_of_get q14)).trans q14
  have hb05 := below_then hb04 hb5 (Nat.le_refl _)
  have heq : ∀ W, (Op.equalIn 10000 25 (.agg CA) (.agg CA)).run Tryd.prog W = .ok true W := fun W => by
    rw [hCA.out]
    have := run_eq_id W a a ha ha
    simpa using this
  go_upto_region 3 with (first
    | (with_reducible refine wpList_alloc_z rfl 25 rfl Z hZ0 ?_)
    | (with_reducible refine wpList_store_z rfl 25 (.tmp 8) (.tmp 20) rfl _ rfl CA rfl Z _ qn hAz hAi hCA1 ?_)
    | fail)
  rw [← HW5.out]
  clear q04 q14 hb04 hb5 qn HW5
  have hsz : (bstr s).size = s.length := bstr_size s
  by_cases h100 : 100 < s.length
  · have h100i : (100 : Int) < (s.length : Int) := by omega
    go_wp2_with (first
      | ((with_reducible refine wpList_load_rowW ?hw 25 (.tmp 3) rfl _ rfl 25 CA _ _ q05 Tryd.underlying25 rfl hAi ?_); case hw => rfl)
      | ((with_reducible refine wpList_load_rowW ?hw 25 (.tmp 8) rfl _ rfl 25 CA _ _ qx5 Tryd.underlying25 rfl hAi ?_); case hw => rfl)
      | fail)
    go_ret
    exact ⟨rfl, hb05⟩
  · have h100i : ¬ (100 : Int) < (s.length : Int) := by omega
    have hps := fun W => parse_any s (by omega) W
    go_upto_region 5 with (first
      | ((with_reducible refine wpList_load_rowW ?hw 25 (.tmp 3) rfl _ rfl 25 CA _ _ q05 Tryd.underlying25 rfl hAi ?_); case hw => rfl)
      | ((with_reducible refine wpList_load_rowW ?hw 25 (.tmp 8) rfl _ rfl 25 CA _ _ qx5 Tryd.underlying25 rfl hAi ?_); case hw => rfl)
      | fail)
    refine hback5 w.heap.size (w.heap.size + 1) CA CB (bstr (textB a)) (bstr (textB b)) w5 hAi hBi (fun W _ => hta W) (fun W _ => htb W) (fun W hW => (hW.block _ (lt_of_get q05)).trans q05) (fun W hW => (hW.block _ (lt_of_get q15)).trans q15) fun w6 hb6 => ?_
    have q06 := (hb6.block _ (lt_of_get q05)).trans q05
    have q16 := (hb6.block _ (lt_of_get q15)).trans q15
    have hb06 := below_then hb05 hb6 (Nat.le_refl _)
    clear q05 q15 hb05 hb6 qx5 hpa
    go_wp2_with fail
    refine (hps w6).mono ?_
    rintro e w7 ⟨rfl, hb7⟩
    obtain ⟨D, hD, hDs, hD1⟩ : ∃ D : Array Value, Hid (D = idC (parseL s)) ∧ D.size = 32 ∧ (∀ u ∈ D.toList, u.oneCell' = true) := ⟨_, rfl, by rw [idC_size, parseL_length], by simpa [idC] using u8v_one (parseL s)⟩
    rw [← hD.out]
    have hDi : (Tryd.prog.info? 25).map (·.size) = some D.size := by rw [hDs]; exact size_id
    have hDz : D.size = Z.size := by rw [hDs, hZs]
    have q07 := (hb7.block _ (lt_of_get q06)).trans q06
    have q17 := (hb7.block _ (lt_of_get q16)).trans q16
    have hb07 := below_then hb06 hb7 (Nat.le_refl _)
    clear q06 q16 hb06 hb7
    obtain ⟨w8, hw8⟩ : ∃ w8, w8 = (w7.alloc (.cells Z 25)).setRow w7.heap.size D := ⟨_, rfl⟩
    have qn : (w7.alloc (.cells Z 25)).heap[w7.heap.size]? = some (.cells Z 25 (0, 0)) := heap_alloc_new _ _
    have hb8 : Below w7.heap.size w7 w8 := by rw [hw8]; exact below_setRow ((Below.refl _ w7).alloc (Nat.le_refl _) _) (Nat.le_refl _) D
    have qy8 : w8.heap[w7.heap.size]? = some (.cells D 25 (0, 0)) := by rw [hw8]; exact setRow_heap _ _ _ _ _ _ qn
    have HW8 := Lib.hid hw8
    clear hw8
    have q08 := (hb8.block _ (lt_of_get q07)).trans q07
    have q18 := (hb8.block _ (lt_of_get q17)).trans q17
    have hb08 := below_then hb07 hb8 (Nat.le_refl _)
    clear q07 q17 hb07 hb8
    have hcab : ∀ W, Calls Tryd.prog 16 #[.agg CA, .agg CB] W fun e w' => e = .returned (.int .i64 (Lib.compareBytes a b)) ∧ Below W.heap.size W w' := fun W => by rw [hCA.out, hCB.out]; exact compare_any a b ha hb W
    have hcba : ∀ W, Calls Tryd.prog 16 #[.agg CB, .agg CA] W fun e w' => e = .returned (.int .i64 (Lib.compareBytes b a)) ∧ Below W.heap.size W w' := fun W => by rw [hCA.out, hCB.out]; exact compare_any b a hb ha W
    have hord : Op.bytesLess (bstr (textB a)).toList (bstr (textB b)).toList = decide (Lib.compareBytes a b < 0) := by rw [bstr_toList, bstr_toList]; exact textB_order a b (by rw [ha, hb])
    have heqab : ∀ W, (Op.equalIn 10000 25 (.agg CA) (.agg CB)).run Tryd.prog W = .ok (Lib.compareBytes a b == 0) W := fun W => by
      rw [hCA.out, hCB.out, cmp_zero a b (by rw [ha, hb])]
      exact run_eq_id W a b ha hb
    have hx3 : Lib.compareBytes a b = -1 ∨ Lib.compareBytes a b = 0 ∨ Lib.compareBytes a b = 1 := by have := cmp_range a b; omega
    have htD : ∀ W, Calls Tryd.prog 15 #[.agg D] W fun e w' => e = .returned (.string (bstr (textB (parseL s)))) ∧ Below W.heap.size W w' := fun W => by rw [hD.out]; exact text_any _ (parseL_length s) W
    have hpe : (parseE s = 0 ∧ textB (parseL s) = s) ∨ parseE s = 30 := by
      by_cases hok : okB s = true
      · exact .inl ⟨by unfold parseE; rw [if_pos hok], text_parse s hok⟩
      · exact .inr (by unfold parseE; rw [if_neg hok])
    generalize parseE s = pe at *
    rw [cmp_neg a b] at hcba
    generalize Lib.compareBytes a b = x at *
    go_upto_region 8 with (first
      | (with_reducible refine wpList_alloc_z rfl 25 rfl Z hZ0 ?_)
      | (with_reducible refine wpList_store_z rfl 25 (.tmp 12) (.tmp 51) rfl _ rfl D rfl Z _ qn hDz hDi hD1 ?_; rw [← HW8.out])
      | (with_reducible refine wpList_load_row rfl 25 (.tmp 3) rfl _ rfl 25 CA _ _ q08 Tryd.underlying25 rfl hAi ?_)
      | (with_reducible refine wpList_load_row rfl 25 (.tmp 4) rfl _ rfl 25 CB _ _ q18 Tryd.underlying25 rfl hBi ?_)
      | (go_at_call 16; refine (hcab _).mono ?_; rintro e w9 ⟨rfl, hb9⟩)
      | fail)
    have q09 := (hb9.block _ (lt_of_get q08)).trans q08
    have q19 := (hb9.block _ (lt_of_get q18)).trans q18
    have qy9 := (hb9.block _ (lt_of_get qy8)).trans qy8
    have hb09 := below_then hb08 hb9 (Nat.le_refl _)
    clear q08 q18 qy8 hb08 hb9 qn HW8 hcab
    rcases hpe with ⟨hp0, hts⟩ | hp1
    · subst hp0
      rw [hts] at htD
      rcases hx3 with h3 | h3 | h3
      · subst h3
        go_wp2_with (first
          | ((with_reducible refine wpList_load_rowW ?hw 25 (.tmp 3) rfl _ rfl 25 CA _ _ q09 Tryd.underlying25 rfl hAi ?_); case hw => rfl)
          | ((with_reducible refine wpList_load_rowW ?hw 25 (.tmp 4) rfl _ rfl 25 CB _ _ q19 Tryd.underlying25 rfl hBi ?_); case hw => rfl)
          | fail)
        refine (hcba w9).mono ?_
        rintro e w10 ⟨rfl, hb10⟩
        have qy10 := (hb10.block _ (lt_of_get qy9)).trans qy9
        have hb010 := below_then hb09 hb10 (Nat.le_refl _)
        clear hcba q09 q19 qy9 hb09 hb10
        go_wp2_with (first
          | ((with_reducible refine wpList_load_rowW ?hw 25 (.tmp 12) rfl _ rfl 25 D _ _ qy10 Tryd.underlying25 rfl hDi ?_); case hw => rfl)
          | fail)
        refine (htD w10).mono ?_
        rintro e w11 ⟨rfl, hb11⟩
        go_wp2_with fail
        go_ret
        exact ⟨rfl, below_then hb010 hb11 (Nat.le_refl _)⟩
      · subst h3
        go_wp2_with (first
          | ((with_reducible refine wpList_load_rowW ?hw 25 (.tmp 3) rfl _ rfl 25 CA _ _ q09 Tryd.underlying25 rfl hAi ?_); case hw => rfl)
          | ((with_reducible refine wpList_load_rowW ?hw 25 (.tmp 4) rfl _ rfl 25 CB _ _ q19 Tryd.underlying25 rfl hBi ?_); case hw => rfl)
          | fail)
        refine (hcba w9).mono ?_
        rintro e w10 ⟨rfl, hb10⟩
        have qy10 := (hb10.block _ (lt_of_get qy9)).trans qy9
        have hb010 := below_then hb09 hb10 (Nat.le_refl _)
        clear hcba q09 q19 qy9 hb09 hb10
        go_wp2_with (first
          | ((with_reducible refine wpList_load_rowW ?hw 25 (.tmp 12) rfl _ rfl 25 D _ _ qy10 Tryd.underlying25 rfl hDi ?_); case hw => rfl)
          | fail)
        refine (htD w10).mono ?_
        rintro e w11 ⟨rfl, hb11⟩
        go_wp2_with fail
        go_ret
        exact ⟨rfl, below_then hb010 hb11 (Nat.le_refl _)⟩
      · subst h3
        go_wp2_with (first
          | ((with_reducible refine wpList_load_rowW ?hw 25 (.tmp 3) rfl _ rfl 25 CA _ _ q09 Tryd.underlying25 rfl hAi ?_); case hw => rfl)
          | ((with_reducible refine wpList_load_rowW ?hw 25 (.tmp 4) rfl _ rfl 25 CB _ _ q19 Tryd.underlying25 rfl hBi ?_); case hw => rfl)
          | fail)
        refine (hcba w9).mono ?_
        rintro e w10 ⟨rfl, hb10⟩
        have qy10 := (hb10.block _ (lt_of_get qy9)).trans qy9
        have hb010 := below_then hb09 hb10 (Nat.le_refl _)
        clear hcba q09 q19 qy9 hb09 hb10
        go_wp2_with (first
          | ((with_reducible refine wpList_load_rowW ?hw 25 (.tmp 12) rfl _ rfl 25 D _ _ qy10 Tryd.underlying25 rfl hDi ?_); case hw => rfl)
          | fail)
        refine (htD w10).mono ?_
        rintro e w11 ⟨rfl, hb11⟩
        go_wp2_with fail
        go_ret
        exact ⟨rfl, below_then hb010 hb11 (Nat.le_refl _)⟩
    · subst hp1
      rcases hx3 with h3 | h3 | h3
      · subst h3
        go_wp2_with (first
          | ((with_reducible refine wpList_load_rowW ?hw 25 (.tmp 3) rfl _ rfl 25 CA _ _ q09 Tryd.underlying25 rfl hAi ?_); case hw => rfl)
          | ((with_reducible refine wpList_load_rowW ?hw 25 (.tmp 4) rfl _ rfl 25 CB _ _ q19 Tryd.underlying25 rfl hBi ?_); case hw => rfl)
          | fail)
        refine (hcba w9).mono ?_
        rintro e w10 ⟨rfl, hb10⟩
        have hb010 := below_then hb09 hb10 (Nat.le_refl _)
        go_wp2_with fail
        go_ret
        exact ⟨rfl, hb010⟩
      · subst h3
        go_wp2_with (first
          | ((with_reducible refine wpList_load_rowW ?hw 25 (.tmp 3) rfl _ rfl 25 CA _ _ q09 Tryd.underlying25 rfl hAi ?_); case hw => rfl)
          | ((with_reducible refine wpList_load_rowW ?hw 25 (.tmp 4) rfl _ rfl 25 CB _ _ q19 Tryd.underlying25 rfl hBi ?_); case hw => rfl)
          | fail)
        refine (hcba w9).mono ?_
        rintro e w10 ⟨rfl, hb10⟩
        have hb010 := below_then hb09 hb10 (Nat.le_refl _)
        go_wp2_with fail
        go_ret
        exact ⟨rfl, hb010⟩
      · subst h3
        go_wp2_with (first
          | ((with_reducible refine wpList_load_rowW ?hw 25 (.tmp 3) rfl _ rfl 25 CA _ _ q09 Tryd.underlying25 rfl hAi ?_); case hw => rfl)
          | ((with_reducible refine wpList_load_rowW ?hw 25 (.tmp 4) rfl _ rfl 25 CB _ _ q19 Tryd.underlying25 rfl hBi ?_); case hw => rfl)
          | fail)
        refine (hcba w9).mono ?_
        rintro e w10 ⟨rfl, hb10⟩
        have hb010 := below_then hb09 hb10 (Nat.le_refl _)
        go_wp2_with fail
        go_ret
        exact ⟨rfl, hb010⟩
theorem hashBack_walk (a b : List UInt8) (s : ByteArray) (w : World) (ha : a.length = 32) (hb : b.length = 32) (_ : s.size ≤ maxLen) (hT : TabsOK w) :
    Calls Tryd.prog 5 #[.agg (idC a), .agg (idC b), .string s] w fun e w' => e = .returned (.bool true) ∧ Below w.heap.size w w' := by
  have : s = bstr s.toList := by rw [ByteArray.toList_eq]; rfl
  rw [this]
  exact hashBack_list a b s.toList ha hb w hT
end Go.Proofs.YtcdnbidenaljlaaDoor
