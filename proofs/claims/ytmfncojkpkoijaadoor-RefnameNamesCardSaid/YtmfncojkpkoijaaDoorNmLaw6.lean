/- The law RefnameNames: walked (printed by gennn.py). -/
import Derived.Test.YtmfncojkpkoijaaDoorNmGn
import Derived.Test.YtmfncojkpkoijaaDoorNmLaw3
namespace Go.Proofs.YtmfncojkpkoijaaDoor
open Go.RowKit
set_option linter.unusedVariables false

theorem wpList_build_k {P : Program} {ops : Array Oper} {rest : List Oper} {o : Oper} {a : Act} {w : World} {Q : Exit → Act → World → Prop} (hgd : o.guard = none) (ty : TypeId) (args : Array (Nat × Operand)) (ho : o.op = .build ty args) (vs : Array (Nat × Value)) (he : args = vs.map fun x => (x.1, .const x.2)) (V : Array Value) (hr : (Instr.build ty vs).run P w = .ok (.agg V) w)
    (h : wpList P ops Q rest (a.put o.dst (.agg V)) w) : wpList P ops Q (o :: rest) a w :=
  wpList_build_v hgd ty args ho vs (by
    subst he
    rw [Array.map_map]
    exact (Array.map_congr_left fun x _ => rfl).trans (Array.map_id _)) V hr h
def longS : List UInt8 := Lib.repeatL [32] 101
theorem badN_get (k : Nat) (hk : k < badN.length) : splL badN[k] = ([], zeros, false, 40) ∧ badN[k].length ≤ 1000 := by
  have h := List.all_eq_true.1 badN_ok badN[k] (List.getElem_mem hk)
  simpa using h
theorem conf_ab : conS [97, 32, 98] idN = [] := by decide +kernel
theorem chk_ab : chkN [97, 32, 98] = 40 := by decide +kernel
theorem conf_main : conS mainL idN = cN := by decide +kernel
theorem chk_main : chkN mainL = 0 := by decide +kernel
theorem chk_c : chkN cN = 40 := by decide +kernel
theorem spl_c : splL cN = (mainL, idN, true, 0) := by decide +kernel
theorem spl_xy : splL [120, 47, 121] = ([120, 47, 121], zeros, false, 0) := by decide +kernel
theorem prt_abc : (prtL [97, 47, 98, 47, 99]).length = 3 := by decide +kernel
theorem pre_c : Lib.hasPrefix cN [109, 97, 105, 110, 126, 97, 98, 48, 49, 48, 48] = true := by decide +kernel

theorem nnB0 : brkB 0 [longL, [97], [33], [45], [97, 46, 108, 111, 99, 107, 120], [108, 111, 99, 107], [97, 64, 98], [64], [123], [97, 123, 64], [120, 47, 121, 47, 122]] = true := by decide +kernel
theorem nnB1 : brkB 1 [longL ++ [97], longS] = true := by decide +kernel
theorem nnB2 : brkB 2 [[32], [97, 127], [97, 128], [97, 92, 98], [97, 94], [97, 58], [97, 63], [97, 42], [97, 91], [32, 46], [195, 169]] = true := by decide +kernel
theorem nnB3 : brkB 3 [[47], [47, 97], [97, 47], [97, 47, 47, 46, 98]] = true := by decide +kernel
theorem nnB4 : brkB 4 [[97, 47, 46, 98], [46], [46, 46], [46, 47, 46, 46]] = true := by decide +kernel
theorem nnB5 : brkB 5 [[97, 46, 46, 108, 111, 99, 107], [98, 47, 97, 46, 46]] = true := by decide +kernel
theorem nnB6 : brkB 6 [[97, 46, 108, 111, 99, 107], [97, 47, 98, 46, 108, 111, 99, 107], [97, 46, 108, 111, 99, 107, 46, 108, 111, 99, 107], [97, 46, 108, 111, 99, 107, 47, 98, 46]] = true := by decide +kernel
theorem nnB7 : brkB 7 [[97, 64, 123, 46]] = true := by decide +kernel
theorem nnB8 : brkB 8 [[64, 123], [97, 64, 123, 125]] = true := by decide +kernel
theorem nnW0 : witB [97, 47, 98] [97] = true := by decide +kernel
theorem nnW1 : witB [97] [97] = true := by decide +kernel
theorem nnW2 : witB [97, 98] [97] = false := by decide +kernel
theorem nnW3 : witB [97] [97, 47, 98] = false := by decide +kernel
theorem nnW4 : witB [97, 47, 47, 98] [97] = false := by decide +kernel
theorem nnW5 : witB [97, 47, 98] [97, 47] = false := by decide +kernel
theorem nn_slice (W : World) : (Instr.slice 9 (.string (bstr cN)) none (some (.int .i64 68)) none).run Tryd.prog W = .ok (.string (bstr (cN.take 68))) W := by
  rw [run_slice_string_h (P := Tryd.prog) W 9 (bstr cN) Tryd.underlying9 .i64 68 (by omega) (by rw [bstr_size, cN_len]; omega)]
  show Result.ok (Value.string ((bstr cN).extract 0 68)) W = _
  rw [bstr_extract]
  rfl
theorem tb_len : (textB idN).length = 64 := by rw [textB_length]; rfl
set_option maxRecDepth 100000 in
set_option maxHeartbeats 16000000 in
theorem refnameNames_walk (w : World) (hm : MaxOK w) :
    Calls Tryd.prog 8 #[] w fun e w' => e = .returned (.bool true) ∧ Below w.heap.size w w' := by
  obtain ⟨Z, hz0, hZs, hZ1, HZ⟩ : ∃ Z : Array Value, (Tryd.prog.info? 30).bind (fun i => i.zero.map Value.cells) = some Z ∧ Z.size = 32 ∧ (∀ u ∈ Z.toList, u.oneCell' = true) ∧ Hid (Z = idC zeros) := ⟨idC zeros, zero_id, by rw [idC_size]; rfl, by simpa [idC] using u8v_one zeros, rfl⟩
  have bz := fun W => run_build_z (P := Tryd.prog) W 30 5 32 Z hz0 Tryd.underlying30 ⟨_, Tryd.sizeOf5 W⟩
  have hsi : (Tryd.prog.info? 30).map (·.size) = some Z.size := by rw [hZs]; exact size_id
  have hidl : idN.length = 32 := rfl
  obtain ⟨X, HX⟩ : ∃ X, Hid (X = idC idN) := ⟨_, rfl⟩
  have hXs : X.size = 32 := by rw [HX.out, idC_size, hidl]
  have hsx : (Tryd.prog.info? 30).map (·.size) = some X.size := by rw [hXs]; exact size_id
  have hXZ : X.size = Z.size := by rw [hXs, hZs]
  have hX1 : ∀ u ∈ X.toList, u.oneCell' = true := by rw [HX.out]; simpa [idC] using u8v_one idN
  have EXX : ∀ W, (Op.equalIn 10000 30 (.agg X) (.agg X)).run Tryd.prog W = .ok true W := fun W => by rw [HX.out]; simpa using run_eq_id W idN idN hidl hidl
  have EZZ : ∀ W, (Op.equalIn 10000 30 (.agg Z) (.agg Z)).run Tryd.prog W = .ok true W := fun W => by
    rw [HZ.out]
    simpa using run_eq_id W zeros zeros rfl rfl
  have hbX : ∀ w, (Instr.build 30 #[(0, .int .u8 171), (1, .int .u8 1)]).run Tryd.prog w = .ok (.agg X) w := by rw [HX.out]; exact idN_built
  have r1 : ∀ w, Calls Tryd.prog 25 #[.string ⟨#[97]⟩, .int .i64 100] w fun e w' => e = .returned (.string (bstr longL)) ∧ Below w.heap.size w w' := fun w => repeat_any [97] 100 (by decide) (by decide) w
  have r2 : ∀ w, Calls Tryd.prog 25 #[.string ⟨#[32]⟩, .int .i64 101] w fun e w' => e = .returned (.string (bstr longS)) ∧ Below w.heap.size w w' := fun w => repeat_any [32] 101 (by decide) (by decide) w
  have ka : bstr longL ++ (⟨#[97]⟩ : ByteArray) = bstr (longL ++ [97]) := bstr_app longL [97]
  have ba : ¬ 9223372036854775807 < (bstr longL).size + 1 := by rw [bstr_size]; decide +kernel
  have c0 := breaks_new 0 [longL, [97], [33], [45], [97, 46, 108, 111, 99, 107, 120], [108, 111, 99, 107], [97, 64, 98], [64], [123], [97, 123, 64], [120, 47, 121, 47, 122]] nnB0
  have c1 := breaks_new 1 [longL ++ [97], longS] nnB1
  have c2 := breaks_new 2 [[32], [97, 127], [97, 128], [97, 92, 98], [97, 94], [97, 58], [97, 63], [97, 42], [97, 91], [32, 46], [195, 169]] nnB2
  have c3 := breaks_new 3 [[47], [47, 97], [97, 47], [97, 47, 47, 46, 98]] nnB3
  have c4 := breaks_new 4 [[97, 47, 46, 98], [46], [46, 46], [46, 47, 46, 46]] nnB4
  have c5 := breaks_new 5 [[97, 46, 46, 108, 111, 99, 107], [98, 47, 97, 46, 46]] nnB5
  have c6 := breaks_new 6 [[97, 46, 108, 111, 99, 107], [97, 47, 98, 46, 108, 111, 99, 107], [97, 46, 108, 111, 99, 107, 46, 108, 111, 99, 107], [97, 46, 108, 111, 99, 107, 47, 98, 46]] nnB6
  have c7 := breaks_new 7 [[97, 64, 123, 46]] nnB7
  have c8 := breaks_new 8 [[64, 123], [97, 64, 123, 125]] nnB8
  have ca : ∀ w, MaxOK w → Calls Tryd.prog 18 #[.string ⟨#[109, 97, 105, 110]⟩, .agg X] w fun e w' => e = .returned (.tuple #[.string (bstr cN), .int .i64 0]) ∧ Below w.heap.size w w' := fun w hm => by
    have h := conflict_any mainL idN (by decide) hidl w hm
    rw [conf_main, chk_main, ← HX.out] at h
    exact h
  have cb : ∀ w, MaxOK w → Calls Tryd.prog 18 #[.string ⟨#[97, 32, 98]⟩, .agg X] w fun e w' => e = .returned (.tuple #[.string ⟨#[]⟩, .int .i64 40]) ∧ Below w.heap.size w w' := fun w hm => by
    have h := conflict_any [97, 32, 98] idN (by decide) hidl w hm
    rw [conf_ab, chk_ab, ← HX.out] at h
    exact h
  have hcl : cN.length ≤ 1000 := by rw [cN_len]; omega
  have cs : ∀ w, MaxOK w → Calls Tryd.prog 20 #[.string (bstr cN)] w fun e w' => e = .returned (.tuple #[.string ⟨#[109, 97, 105, 110]⟩, .agg X, .bool true, .int .i64 0]) ∧ Below w.heap.size w w' := fun w hm => by
    have h := nsplit_any cN hcl w hm
    rw [spl_c] at h
    unfold spV at h
    dsimp only at h
    rw [← HX.out] at h
    exact h
  have cp : ∀ w, MaxOK w → Calls Tryd.prog 20 #[.string ⟨#[120, 47, 121]⟩] w fun e w' => e = .returned (.tuple #[.string ⟨#[120, 47, 121]⟩, .agg Z, .bool false, .int .i64 0]) ∧ Below w.heap.size w w' := fun w hm => by
    have h := nsplit_any [120, 47, 121] (by decide) w hm
    rw [spl_xy] at h
    unfold spV at h
    dsimp only at h
    rw [← HZ.out] at h
    exact h
  have ck : ∀ w, MaxOK w → Calls Tryd.prog 11 #[.string (bstr cN)] w fun e w' => e = .returned (.int .i64 40) ∧ Below w.heap.size w w' := fun w hm => by
    have h := check_any cN hcl w hm
    rw [chk_c] at h
    exact h
  have cr : ∀ w, MaxOK w → Calls Tryd.prog 14 #[.string ⟨#[97, 47, 98, 47, 99]⟩] w fun e w' => (∃ A c, e = .returned (.slice A 3 c)) ∧ Below w.heap.size w w' := fun w hm => by
    refine (parts_any [97, 47, 98, 47, 99] (by decide) w hm).mono ?_
    rintro e w' ⟨⟨v, rfl, A, c, rfl, q1, q2, q3⟩, hb⟩
    rw [prt_abc]
    exact ⟨⟨A, c, rfl⟩, hb⟩
  have ch : ∀ w, Calls Tryd.prog 29 #[.string (bstr cN), .string ⟨#[109, 97, 105, 110, 126, 97, 98, 48, 49, 48, 48]⟩] w fun e w' => e = .returned (.bool true) ∧ w' = w := fun w => by
    have h := hasPrefix_any cN [109, 97, 105, 110, 126, 97, 98, 48, 49, 48, 48] w
    rw [pre_c] at h
    exact h
  have cal := alive_any
  have cw0 : ∀ w, MaxOK w → Calls Tryd.prog 16 #[.string ⟨#[97, 47, 98]⟩, .string ⟨#[97]⟩] w fun e w' => e = .returned (.bool true) ∧ Below w.heap.size w w' := fun w hm => by
    have h := within_any [97, 47, 98] [97] (by decide) (by decide) w hm
    rw [nnW0] at h
    exact h
  have cw1 : ∀ w, MaxOK w → Calls Tryd.prog 16 #[.string ⟨#[97]⟩, .string ⟨#[97]⟩] w fun e w' => e = .returned (.bool true) ∧ Below w.heap.size w w' := fun w hm => by
    have h := within_any [97] [97] (by decide) (by decide) w hm
    rw [nnW1] at h
    exact h
  have cw2 : ∀ w, MaxOK w → Calls Tryd.prog 16 #[.string ⟨#[97, 98]⟩, .string ⟨#[97]⟩] w fun e w' => e = .returned (.bool false) ∧ Below w.heap.size w w' := fun w hm => by
    have h := within_any [97, 98] [97] (by decide) (by decide) w hm
    rw [nnW2] at h
    exact h
  have cw3 : ∀ w, MaxOK w → Calls Tryd.prog 16 #[.string ⟨#[97]⟩, .string ⟨#[97, 47, 98]⟩] w fun e w' => e = .returned (.bool false) ∧ Below w.heap.size w w' := fun w hm => by
    have h := within_any [97] [97, 47, 98] (by decide) (by decide) w hm
    rw [nnW3] at h
    exact h
  have cw4 : ∀ w, MaxOK w → Calls Tryd.prog 16 #[.string ⟨#[97, 47, 47, 98]⟩, .string ⟨#[97]⟩] w fun e w' => e = .returned (.bool false) ∧ Below w.heap.size w w' := fun w hm => by
    have h := within_any [97, 47, 47, 98] [97] (by decide) (by decide) w hm
    rw [nnW4] at h
    exact h
  have cw5 : ∀ w, MaxOK w → Calls Tryd.prog 16 #[.string ⟨#[97, 47, 98]⟩, .string ⟨#[97, 47]⟩] w fun e w' => e = .returned (.bool false) ∧ Below w.heap.size w w' := fun w hm => by
    have h := within_any [97, 47, 98] [97, 47] (by decide) (by decide) w hm
    rw [nnW5] at h
    exact h
  have hszC : ((bstr cN).size : Int) = 69 := by rw [bstr_size, cN_len]; rfl
  have cbad : ∀ k (hk : k < 10) w, MaxOK w → Calls Tryd.prog 20 #[.string (bstr (badN[k]'hk))] w fun e w' => e = .returned (.tuple #[.string ⟨#[]⟩, .agg Z, .bool false, .int .i64 40]) ∧ Below w.heap.size w w' := fun k hk w hm => by
    obtain ⟨h1, h2⟩ := badN_get k hk
    have h := nsplit_any (badN[k]'hk) h2 w hm
    rw [h1] at h
    unfold spV at h
    dsimp only at h
    rw [← HZ.out] at h
    exact h
  have HBAD : Hid (∀ k (hk : k < 10) w, MaxOK w → Calls Tryd.prog 20 #[.string (bstr (badN[k]'hk))] w fun e w' => e = .returned (.tuple #[.string ⟨#[]⟩, .agg Z, .bool false, .int .i64 40]) ∧ Below w.heap.size w w') := cbad
  have HCl : Hid (cN.length ≤ 1000) := hcl
  have HCa : Hid (∀ b ∈ cN, b.toNat < 128) := cN_ascii
  have hrow : Hid (#[Value.string ⟨#[]⟩, .string ⟨#[126]⟩, .string ⟨#[109, 97, 105, 110, 126]⟩, .string (bstr (cN ++ [48])), .string (bstr (cN.take 68)), .string (bstr (126 :: textB idN)), .string (bstr ([97, 32, 98, 126] ++ textB idN)), .string (bstr (Lib.toUpperA cN)), .string (bstr ([109, 97, 105, 110, 126, 126] ++ textB idN)), .string (bstr (([109, 97, 105, 110, 126] ++ textB idN) ++ [126]))] = (strC badN).toArray) := show _ = _ from rfl
  have HSL : Hid (∀ W, (Instr.slice 9 (.string (bstr cN)) none (some (.int .i64 68)) none).run Tryd.prog W = .ok (.string (bstr (cN.take 68))) W) := nn_slice
  clear cbad hcl
  have hbk : Hid ((#[(0, .const (.int .u8 171)), (1, .const (.int .u8 1))] : Array (Nat × Operand)) = (#[(0, .int .u8 171), (1, .int .u8 1)] : Array (Nat × Value)).map fun x => (x.1, Operand.const x.2)) := show _ = _ from by simp
  generalize longL = LL at *
  generalize longS = LS at *
  generalize cN = C at *
  replace r1 := Lib.hid r1
  replace r2 := Lib.hid r2
  replace c0 := Lib.hid c0
  replace c1 := Lib.hid c1
  replace c2 := Lib.hid c2
  replace c3 := Lib.hid c3
  replace c4 := Lib.hid c4
  replace c5 := Lib.hid c5
  replace c6 := Lib.hid c6
  replace c7 := Lib.hid c7
  replace c8 := Lib.hid c8
  replace ca := Lib.hid ca
  replace cb := Lib.hid cb
  replace cs := Lib.hid cs
  replace cp := Lib.hid cp
  replace ck := Lib.hid ck
  replace cr := Lib.hid cr
  replace ch := Lib.hid ch
  replace cal := Lib.hid cal
  replace cw0 := Lib.hid cw0
  replace cw1 := Lib.hid cw1
  replace cw2 := Lib.hid cw2
  replace cw3 := Lib.hid cw3
  replace cw4 := Lib.hid cw4
  replace cw5 := Lib.hid cw5
  replace hbX := Lib.hid hbX
  replace EXX := Lib.hid EXX
  replace EZZ := Lib.hid EZZ
  replace bz := Lib.hid bz
  replace hszC := Lib.hid hszC
  go_enter Tryd.func8, Tryd.ntmps8

  go_wp2_with fail
  refine (r1.out _).mono ?_
  rintro e w1 ⟨rfl, hb⟩
  replace hm := hm.below hb
  have hB := hb
  clear r1 hb
  go_wp2_with fail
  refine (c0.out _ hm).mono ?_
  rintro e v0 ⟨rfl, hb⟩
  replace hm := hm.below hb
  replace hB := below_then hB hb (Nat.le_refl _)
  clear hb c0
  go_wp2_with fail
  refine (r2.out _).mono ?_
  rintro e w2 ⟨rfl, hb⟩
  replace hm := hm.below hb
  replace hB := below_then hB hb (Nat.le_refl _)
  clear hb r2
  go_wp2_with fail
  refine (c1.out _ hm).mono ?_
  rintro e v1 ⟨rfl, hb⟩
  replace hm := hm.below hb
  replace hB := below_then hB hb (Nat.le_refl _)
  clear hb c1
  go_wp2_with fail
  refine (c2.out _ hm).mono ?_
  rintro e v2 ⟨rfl, hb⟩
  replace hm := hm.below hb
  replace hB := below_then hB hb (Nat.le_refl _)
  clear hb c2
  go_wp2_with fail
  refine (c3.out _ hm).mono ?_
  rintro e v3 ⟨rfl, hb⟩
  replace hm := hm.below hb
  replace hB := below_then hB hb (Nat.le_refl _)
  clear hb c3
  go_wp2_with fail
  refine (c4.out _ hm).mono ?_
  rintro e v4 ⟨rfl, hb⟩
  replace hm := hm.below hb
  replace hB := below_then hB hb (Nat.le_refl _)
  clear hb c4
  go_wp2_with fail
  refine (c5.out _ hm).mono ?_
  rintro e v5 ⟨rfl, hb⟩
  replace hm := hm.below hb
  replace hB := below_then hB hb (Nat.le_refl _)
  clear hb c5
  go_wp2_with fail
  refine (c6.out _ hm).mono ?_
  rintro e v6 ⟨rfl, hb⟩
  replace hm := hm.below hb
  replace hB := below_then hB hb (Nat.le_refl _)
  clear hb c6
  go_wp2_with fail
  refine (c7.out _ hm).mono ?_
  rintro e v7 ⟨rfl, hb⟩
  replace hm := hm.below hb
  replace hB := below_then hB hb (Nat.le_refl _)
  clear hb c7
  go_wp2_with fail
  refine (c8.out _ hm).mono ?_
  rintro e v8 ⟨rfl, hb⟩
  replace hm := (hm.below hb).below (new_set_below v8 Z X 30)
  replace hB := below_then (below_then hB hb (Nat.le_refl _)) (new_set_below v8 Z X 30) (Nat.le_refl _)
  have hq3 := heap_alloc_new v8 (.cells Z 30)
  have hgt := new_set_own v8 Z X 30
  clear hb c8 ka ba
  go_upto_region 3 with (fail)
  go_wp2_with (first | (with_reducible refine wpList_build_k rfl 30 _ rfl #[(0, .int .u8 171), (1, .int .u8 1)] hbk.out X (hbX.out _) ?_) | (with_reducible refine wpList_alloc_z rfl 30 rfl Z hz0 ?_) | (with_reducible refine wpList_store_z rfl 30 (.tmp 3) (.tmp 64) rfl _ rfl X rfl Z _ hq3 hXZ hsx hX1 ?_) | (with_reducible refine wpList_load_row rfl 30 (.tmp 3) rfl _ rfl 30 X _ _ hgt Tryd.underlying30 rfl hsx ?_) | fail)
  refine (ca.out _ hm).mono ?_
  rintro e w4 ⟨rfl, hb⟩
  replace hgt := get_below hb hgt
  replace hm := hm.below hb
  replace hB := below_then hB hb (Nat.le_refl _)
  clear hb ca hq3 hbX hbk
  have hz69 := hszC.out
  go_wp2_with (first | (with_reducible refine wpList_load_row rfl 30 (.tmp 3) rfl _ rfl 30 X _ _ hgt Tryd.underlying30 rfl hsx ?_) | fail)
  refine (cb.out _ hm).mono ?_
  rintro e w5 ⟨rfl, hb⟩
  replace hgt := get_below hb hgt
  replace hm := hm.below hb
  replace hB := below_then hB hb (Nat.le_refl _)
  clear hb cb hz69
  go_wp2_with (first | fail)
  refine (cs.out _ hm).mono ?_
  rintro e w6 ⟨rfl, hb⟩
  replace hm := (hm.below hb).below (new_set_below w6 Z X 30)
  replace hB := below_then (below_then hB hb (Nat.le_refl _)) (new_set_below w6 Z X 30) (Nat.le_refl _)
  replace hgt := new_set Z X 30 (get_below hb hgt)
  have hq6 := heap_alloc_new w6 (.cells Z 30)
  have hg9 := new_set_own w6 Z X 30
  clear hb cs
  go_wp2_with (first | (with_reducible refine wpList_alloc_z rfl 30 rfl Z hz0 ?_) | (with_reducible refine wpList_store_z rfl 30 (.tmp 9) (.tmp 82) rfl _ rfl X rfl Z _ hq6 hXZ hsx hX1 ?_) | fail)
  refine (cp.out _ hm).mono ?_
  rintro e w7 ⟨rfl, hb⟩
  replace hm := (hm.below hb).below (new_set_below w7 Z Z 30)
  replace hB := below_then (below_then hB hb (Nat.le_refl _)) (new_set_below w7 Z Z 30) (Nat.le_refl _)
  replace hgt := new_set Z Z 30 (get_below hb hgt)
  replace hg9 := new_set Z Z 30 (get_below hb hg9)
  have hq7 := heap_alloc_new w7 (.cells Z 30)
  have hg13 := new_set_own w7 Z Z 30
  clear hb cp hq6
  go_upto_region 11 with (first | (with_reducible refine wpList_alloc_z rfl 30 rfl Z hz0 ?_) | (with_reducible refine wpList_store_z rfl 30 (.tmp 13) (.tmp 88) rfl _ rfl Z rfl Z _ hq7 rfl hsi hZ1 ?_) | fail)
  have hmm := hm
  refine nn11 C idN v8.heap.size _ hidl (by rw [← HX.out]; exact hsx) HCl.out HCa.out hszC.out HSL.out (bstr_app C [48]) (by rw [bstr_size]; have := HCl.out; omega) (bstr_app [126] _) (by rw [bstr_size, tb_len]; omega) (bstr_app [97, 32, 98, 126] _) (by rw [bstr_size, tb_len]; omega) (bstr_app [109, 97, 105, 110, 126, 126] _) (by rw [bstr_size, tb_len]; omega) (bstr_app [109, 97, 105, 110, 126] _) (by rw [bstr_size, tb_len]; omega) (bstr_app _ [126]) (by rw [bstr_size]; simp only [List.length_cons, tb_len]; omega) (fun W hW => by rw [← HX.out]; exact get_below hW hgt) fun w9 r113 hb k113 => ?_
  obtain ⟨gr, rfl, hgr⟩ := k113
  rw [hrow.out] at hgr
  replace hgt := get_below hb hgt
  replace hg9 := get_below hb hg9
  replace hg13 := get_below hb hg13
  replace hm := hm.below hb
  replace hB := below_then hB hb (Nat.le_refl _)
  clear hb hrow HSL HCa HCl hmm hq7
  go_wp2_with fail
  go_loopw [16, 115] (fun b i wr => ∃ k : Nat, k ≤ 10 ∧ b = .int .i64 (k : Int) ∧ i = .int .i64 (k : Int) ∧ Below w9.heap.size w9 wr) (fun _ i _ => 10 - (intOf i).toNat)
  case atStart => exact ⟨0, by omega, rfl, rfl, Below.refl _ _⟩
  case round =>
    obtain ⟨k, hk, rfl, rfl, hbr⟩ := hrel
    by_cases hlt : k < 10
    · have c1 : (k : Int) < 10 := by omega
      have hgr1 := get_below hbr hgr
      have hA : wr.cell? ⟨gr, k, none⟩ = some (.string (bstr (badN[k]'hlt))) := by
        rw [cell_of_row _ _ _ _ _ _ hgr1]
        have hl : k < badN.length := hlt
        simp [strC, hl] <;> rfl
      have hsp := HBAD.out k hlt wr (hm.below hbr)
      generalize badN[k]'hlt = x at *
      go_wp2_with fail
      refine hsp.mono ?_
      rintro e w10 ⟨rfl, hb⟩
      have hq := heap_alloc_new w10 (.cells Z 30)
      have hbr2 := below_then (below_then hbr hb (Nat.le_refl _)) (new_set_below w10 Z Z 30) (Nat.le_refl _)
      clear hsp hA hgr1
      go_wp2_with (first | (with_reducible refine wpList_alloc_z rfl 30 rfl Z hz0 ?_) | (with_reducible refine wpList_store_z rfl 30 (.tmp 20) (.tmp 123) rfl _ rfl Z rfl Z _ hq rfl hsi hZ1 ?_) | fail)
      go_roundw
      case rel => first | exact ⟨k + 1, by omega, by go_num, by go_num, hbr2⟩ | ((repeat apply Exists.intro); exact ⟨⟨k + 1, by omega, by go_num, by go_num, hbr2⟩, rfl⟩)
      case measure => simp [intOf]; omega
    · obtain rfl : k = 10 := by omega
      replace hm := hm.below hbr
      replace hgt := get_below hbr hgt
      replace hg9 := get_below hbr hg9
      replace hg13 := get_below hbr hg13
      replace hB := below_then hB hbr (Nat.le_refl _)
      have hz69 := hszC.out
      replace EXX := EXX.out
      replace EZZ := EZZ.out
      replace bz := bz.out
      clear HBAD hgr hbr hlt
      go_wp2_with (first | ((with_reducible refine wpList_load_rowW ?hw 30 (.tmp 9) rfl _ rfl 30 X _ _ hg9 Tryd.underlying30 rfl hsx ?_); case hw => rfl) | ((with_reducible refine wpList_load_rowW ?hw 30 (.tmp 3) rfl _ rfl 30 X _ _ hgt Tryd.underlying30 rfl hsx ?_); case hw => rfl) | ((with_reducible refine wpList_load_rowW ?hw 30 (.tmp 13) rfl _ rfl 30 Z _ _ hg13 Tryd.underlying30 rfl hsi ?_); case hw => rfl) | ((with_reducible refine wpList_build_zW ?hw 30 rfl Z (bz _) ?_); case hw => rfl) | fail)
      refine (ch.out _).mono ?_
      rintro e w11 ⟨rfl, rfl⟩
      clear ch
      go_wp2_with (first | ((with_reducible refine wpList_load_rowW ?hw 30 (.tmp 9) rfl _ rfl 30 X _ _ hg9 Tryd.underlying30 rfl hsx ?_); case hw => rfl) | ((with_reducible refine wpList_load_rowW ?hw 30 (.tmp 3) rfl _ rfl 30 X _ _ hgt Tryd.underlying30 rfl hsx ?_); case hw => rfl) | ((with_reducible refine wpList_load_rowW ?hw 30 (.tmp 13) rfl _ rfl 30 Z _ _ hg13 Tryd.underlying30 rfl hsi ?_); case hw => rfl) | ((with_reducible refine wpList_build_zW ?hw 30 rfl Z (bz _) ?_); case hw => rfl) | fail)
      refine (cw0.out _ hm).mono ?_
      rintro e u0 ⟨rfl, hb⟩
      replace hm := hm.below hb
      replace hB := below_then hB hb (Nat.le_refl _)
      clear hb cw0
      clear EXX EZZ bz hgt hg9 hg13 hz69
      go_wp2_with fail
      refine (cw1.out _ hm).mono ?_
      rintro e u1 ⟨rfl, hb⟩
      replace hm := hm.below hb
      replace hB := below_then hB hb (Nat.le_refl _)
      clear hb cw1
      go_wp2_with fail
      refine (cw2.out _ hm).mono ?_
      rintro e u2 ⟨rfl, hb⟩
      replace hm := hm.below hb
      replace hB := below_then hB hb (Nat.le_refl _)
      clear hb cw2
      go_wp2_with fail
      refine (cw3.out _ hm).mono ?_
      rintro e u3 ⟨rfl, hb⟩
      replace hm := hm.below hb
      replace hB := below_then hB hb (Nat.le_refl _)
      clear hb cw3
      go_wp2_with fail
      refine (cw4.out _ hm).mono ?_
      rintro e u4 ⟨rfl, hb⟩
      replace hm := hm.below hb
      replace hB := below_then hB hb (Nat.le_refl _)
      clear hb cw4
      go_wp2_with fail
      refine (cw5.out _ hm).mono ?_
      rintro e u5 ⟨rfl, hb⟩
      replace hm := hm.below hb
      replace hB := below_then hB hb (Nat.le_refl _)
      clear hb cw5
      go_wp2_with fail
      refine (cal.out _ hm).mono ?_
      rintro e x1 ⟨rfl, hb⟩
      replace hm := hm.below hb
      replace hB := below_then hB hb (Nat.le_refl _)
      clear hb cal
      go_wp2_with fail
      refine (ck.out _ hm).mono ?_
      rintro e x2 ⟨rfl, hb⟩
      replace hm := hm.below hb
      replace hB := below_then hB hb (Nat.le_refl _)
      clear hb ck
      go_wp2_with fail
      refine (cr.out _ hm).mono ?_
      rintro e x3 ⟨⟨A, c, rfl⟩, hb⟩
      replace hB := below_then hB hb (Nat.le_refl _)
      clear hb cr
      go_wp2_with fail
      go_ret
      exact ⟨rfl, hB⟩
end Go.Proofs.YtmfncojkpkoijaaDoor
