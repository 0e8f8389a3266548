/- Names of refs: the reference's Split. -/
import Derived.Test.YtmfncojkpkoijaaDoorNmH
namespace Go.Proofs.YtmfncojkpkoijaaDoor
open Go.RowKit
set_option linter.unusedVariables false

/-- Where the first ~ from k on stands; -1: nowhere. -/
def AtIs (l : List UInt8) (k : Nat) (at' : Int) : Prop := (at' = -1 ∧ ∀ j (hj : j < l.length), k ≤ j → l[j] ≠ 126) ∨ ∃ j : Nat, at' = (j : Int) ∧ k ≤ j ∧ ∃ hj : j < l.length, l[j] = 126 ∧ ∀ t (ht : t < l.length), k ≤ t → t < j → l[t] ≠ 126
theorem AtIs.start (l : List UInt8) : AtIs l l.length (-1) := .inl ⟨rfl, fun j hj h => by omega⟩
theorem AtIs.hit {l : List UInt8} {k : Nat} {a : Int} (hk : k < l.length) (h : l[k] = 126) : AtIs l k (k : Int) := .inr ⟨k, rfl, Nat.le_refl _, hk, h, fun t ht h1 h2 => by omega⟩
theorem AtIs.miss {l : List UInt8} {k : Nat} {a : Int} (hk : k < l.length) (h : l[k] ≠ 126) (ha : AtIs l (k + 1) a) : AtIs l k a := by
  rcases ha with ⟨h1, h2⟩ | ⟨j, h1, h2, hj, h3, h4⟩
  · refine .inl ⟨h1, fun j hj hkj => ?_⟩
    by_cases e : j = k
    · subst e; exact h
    · exact h2 j hj (by omega)
  · refine .inr ⟨j, h1, by omega, hj, h3, fun t ht ht1 ht2 => ?_⟩
    by_cases e : t = k
    · subst e; exact h
    · exact h4 t ht (by omega) ht2
theorem AtIs.cut {l : List UInt8} {a : Int} (h : AtIs l 0 a) : (a = -1 ∧ cutL l = (l, none)) ∨ ∃ j : Nat, a = (j : Int) ∧ j < l.length ∧ cutL l = (l.take j, some (l.drop (j + 1))) := by
  rcases h with ⟨h1, h2⟩ | ⟨j, h1, _, hj, h3, h4⟩
  · refine .inl ⟨h1, cutL_none fun c hc => ?_⟩
    obtain ⟨t, ht, rfl⟩ := List.getElem_of_mem hc
    exact h2 t ht (Nat.zero_le _)
  · refine .inr ⟨j, h1, hj, ?_⟩
    have e : l = l.take j ++ 126 :: l.drop (j + 1) := by
      conv => lhs; rw [← List.take_append_drop j l, List.drop_eq_getElem_cons hj, h3]
    conv => lhs; rw [e]
    refine cutL_some (fun c hc => ?_) _
    obtain ⟨t, ht, rfl⟩ := List.getElem_of_mem hc
    rw [List.length_take] at ht
    rw [List.getElem_take]
    exact h4 t (by omega) (Nat.zero_le _) (by omega)
set_option maxRecDepth 20000 in
set_option maxHeartbeats 4000000 in
theorem rsplit_any (n : List UInt8) (hn : n.length ≤ 1000) (w : World) :
    Calls Tryd.prog 21 #[.string (bstr n)] w fun e w' => e = .returned (spV (splL n)) ∧ Below w.heap.size w w' := by
  obtain ⟨Z, hz0, hZs, hZ1, HZ⟩ : ∃ Z : Array Value, (Tryd.prog.info? 30).bind (fun i => i.zero.map Value.cells) = some Z ∧ Z.size = 32 ∧ (∀ u ∈ Z.toList, u.oneCell' = true) ∧ Hid (Z = idC zeros) := ⟨idC zeros, zero_id, by rw [idC_size]; rfl, by simpa [idC] using u8v_one zeros, rfl⟩
  have bz := fun W => run_build_z (P := Tryd.prog) W 30 5 32 Z hz0 Tryd.underlying30 ⟨_, Tryd.sizeOf5 W⟩
  have hsi : (Tryd.prog.info? 30).map (·.size) = some Z.size := by rw [hZs]; exact size_id
  have hb1 : Below w.heap.size w (w.alloc (.cells Z 30)) := (Below.refl _ w).alloc (Nat.le_refl _) _
  have hg1 : (w.alloc (.cells Z 30)).heap[w.heap.size]? = some (.cells Z 30 (0, 0)) := heap_alloc_new _ _
  obtain ⟨w1, hw1⟩ : ∃ w1, w1 = w.alloc (.cells Z 30) := ⟨_, rfl⟩
  have HW := Lib.hid hw1
  rw [← hw1] at hb1 hg1
  clear hw1
  have hsz : (bstr n).size = n.length := bstr_size n
  have fin : ∀ (x : List UInt8 × List UInt8 × Bool × Nat) (tmps : Array Value) (W : World) (V : Array Value), W.heap[w.heap.size]? = some (.cells V 30 (0, 0)) → (Tryd.prog.info? 30).map (·.size) = some V.size → tmps.getD 3 undef = .pointer (some ⟨w.heap.size, 0, none⟩) →
      (.tuple #[tmps.getD 2 undef, .agg V, tmps.getD 4 undef, tmps.getD 5 undef] : Value) = spV x → (results Tryd.f21 tmps).run Tryd.prog W = .ok (spV x) W := fun x tmps W V h1 h2 h3 h4 => by
    rw [results_four (P := Tryd.prog) (fn := Tryd.f21) rfl tmps W w.heap.size _ V _ _ h3 h1 Tryd.underlying30 rfl h2, h4]
  have fin0 : spV ([], zeros, false, 40) = .tuple #[.string ⟨#[]⟩, .agg Z, .bool false, .int .i64 40] := by rw [HZ.out]; rfl
  have HF0 := Lib.hid fin0
  clear fin0
  obtain ⟨sp, hsp⟩ : ∃ sp, sp = splL n := ⟨_, rfl⟩
  rw [← hsp]
  have HSP := Lib.hid hsp
  clear hsp
  go_enter Tryd.func21, Tryd.ntmps21
  go_wp2_with (first
    | (with_reducible refine wpList_alloc_z rfl 30 rfl Z hz0 ?_)
    | fail)
  rw [← HW.out]
  go_loopw [6, 7] (fun p i wr => ∃ (at' ki : Int), p = .int .i64 at' ∧ i = .int .i64 ki ∧ -1 ≤ ki ∧ ki < n.length ∧ AtIs n (ki + 1).toNat at' ∧ wr = w1) (fun _ i _ => (intOf i + 1).toNat)
  case atStart => exact ⟨-1, (n.length : Int) - 1, rfl, by go_num, by omega, by omega, by rw [show ((n.length : Int) - 1 + 1).toNat = n.length by omega]; exact AtIs.start n, rfl⟩
  case round =>
    obtain ⟨at', ki, rfl, rfl, h1, h2, hat, hwr⟩ := hrel
    obtain rfl := hwr.symm
    by_cases hlt : 0 ≤ ki
    · obtain ⟨k, rfl⟩ : ∃ k : Nat, ki = (k : Int) := ⟨ki.toNat, by omega⟩
      have hk : k < n.length := by omega
      rw [show ((k : Int) + 1).toNat = k + 1 by omega] at hat
      have f1 : ∀ W, (Instr.index 9 (.string (bstr n)) (.int .i64 (k : Int))).run Tryd.prog W = .ok (.int .u8 (n[k].toNat : Int)) W := fun W => str_index W n k hk _ rfl
      have e1 : ((n[k].toNat : Int) == 126) = (n[k] == 126) := eq47_u8 _ 126 (by omega)
      have hi : n[k] = 126 → AtIs n k (k : Int) := AtIs.hit (a := 0) hk
      have hm : n[k] ≠ 126 → AtIs n k at' := fun h => AtIs.miss hk h hat
      clear hat
      generalize n[k] = x at *
      by_cases hx : x = 126
      · have HA := Lib.hid (hi hx)
        have e2 : ((x.toNat : Int) == 126) = true := by rw [e1, hx]; rfl
        clear hi hm e1 hx
        go_wp2_with fail
        go_roundw
        case rel => exact ⟨(k : Int), (k : Int) - 1, rfl, by go_num, by omega, by omega, by rw [show ((k : Int) - 1 + 1).toNat = k by omega]; exact HA.out, by first | rfl | trivial⟩
        case measure => simp [intOf]
      · have HA := Lib.hid (hm hx)
        have e2 : ((x.toNat : Int) == 126) = false := by rw [e1]; exact beq_eq_false_iff_ne.2 hx
        clear hi hm e1 hx
        go_wp2_with fail
        go_roundw
        case rel => exact ⟨at', (k : Int) - 1, rfl, by go_num, by omega, by omega, by rw [show ((k : Int) - 1 + 1).toNat = k by omega]; exact HA.out, by first | rfl | trivial⟩
        case measure => simp [intOf]
    · have hki : ki = -1 := by omega
      subst hki
      have hcut := AtIs.cut (show AtIs n 0 at' from hat)
      clear hat h1 h2 hlt hwr
      rcases hcut with ⟨rfl, hc⟩ | ⟨j, rfl, hj, hc⟩
      · have ck := rcheck_any n hn w1
        unfold chkN at ck
        have hs := HSP.out.trans (splL_none (by rw [hc]))
        clear hn hc HSP
        by_cases h : brL n = 0
        · rw [if_pos h] at hs ck
          subst hs
          clear h
          go_wp2_with (first
            | (go_at_call 12; refine ck.mono ?_; rintro e w3 ⟨rfl, hb3⟩; have hg3 := get_below hb3 hg1; have hb4 := below_then hb1 hb3 (Nat.le_refl _); have hg6 := setRow_heap w3 w.heap.size Z Z _ _ hg3; have hb6 := below_setRow hb4 (Nat.le_refl w.heap.size) Z)
            | (with_reducible refine wpList_build_z rfl 30 rfl Z (bz _) ?_)
            | (with_reducible refine wpList_store_z rfl 30 (.tmp 3) (.tmp 29) rfl _ rfl Z rfl Z _ hg3 rfl hsi hZ1 ?_)
            | fail)
          refine bodyPost_ret (fin (n, zeros, false, 0) _ _ Z hg6 hsi rfl ?_) rfl ⟨rfl, hb6⟩
          show _ = Value.tuple #[.string (bstr n), .agg (idC zeros), .bool false, .int .i64 0]
          rw [← HZ.out]
          try rfl
        · rw [if_neg h] at hs ck
          subst hs
          clear h
          go_wp2_with (first
            | (go_at_call 12; refine ck.mono ?_; rintro e w3 ⟨rfl, hb3⟩; have hg3 := get_below hb3 hg1; have hb4 := below_then hb1 hb3 (Nat.le_refl _); have hg6 := setRow_heap w3 w.heap.size Z Z _ _ hg3; have hb6 := below_setRow hb4 (Nat.le_refl w.heap.size) Z)
            | (with_reducible refine wpList_build_z rfl 30 rfl Z (bz _) ?_)
            | (with_reducible refine wpList_store_z rfl 30 (.tmp 3) (.tmp 27) rfl _ rfl Z rfl Z _ hg3 rfl hsi hZ1 ?_)
            | fail)
          refine bodyPost_ret (fin ([], zeros, false, 40) _ _ Z hg6 hsi rfl ?_) rfl ⟨rfl, hb6⟩
          rw [HF0.out]
          rfl
      · have hs := HSP.out.trans (splL_some (by rw [hc]))
        rw [hc] at hs
        dsimp only at hs
        have hx1 : (bstr n).extract (j + 1) n.length = bstr (n.drop (j + 1)) := by
          rw [bstr_extract]
          congr 1
          exact List.take_of_length_le (by rw [List.length_drop]; omega)
        have hx2 : (bstr n).extract 0 j = bstr (n.take j) := by rw [bstr_extract]; rfl
        have cp := rparse_any (n.drop (j + 1)) (by rw [List.length_drop]; omega) w1
        have ck := fun w' => rcheck_any (n.take j) (by rw [List.length_take]; omega) w'
        unfold chkN at ck
        obtain ⟨V, hV⟩ : ∃ V, V = idC (parseL (n.drop (j + 1))) := ⟨_, rfl⟩
        have HV := Lib.hid hV
        have hVs : V.size = Z.size := by rw [hV, idC_size, parseL_length, hZs]
        have hV1 : ∀ u ∈ V.toList, u.oneCell' = true := by rw [hV]; simpa [idC] using u8v_one (parseL (n.drop (j + 1)))
        have hsv : (Tryd.prog.info? 30).map (·.size) = some V.size := by rw [hVs]; exact hsi
        rw [← hV] at cp
        have j1 : (j : Int) + 1 ≤ (n.length : Int) := by omega
        have j2 : (j : Int) ≤ (n.length : Int) := by omega
        have j3 : j + 1 ≤ n.length := hj
        have j4 : j ≤ n.length := by omega
        have j5 : j < 1000 := by omega
        clear hV hc hn HSP hj
        generalize n.drop (j + 1) = r at *
        generalize n.take j = a at *
        by_cases hok : okB r = true
        · rw [parseE_zero hok] at cp
          by_cases h : brL a = 0
          · rw [if_pos ⟨hok, h⟩] at hs
            rw [if_pos h] at ck
            subst hs
            clear h hok
            go_wp2_with (first
              | (go_at_call 37; refine cp.mono ?_; rintro e w5 ⟨rfl, hb5⟩; have hq0 := heap_alloc_new w5 (.cells Z 30); have hg5 := get_below hb5 hg1; have hlt5 := (Array.getElem?_eq_some_iff.1 hg5).1; have hg7 : ((w5.alloc (.cells Z 30)).setRow w5.heap.size V).heap[w.heap.size]? = some (.cells Z 30 (0, 0)) := (setRow_other _ _ _ _ (by omega)).trans (get_below ((Below.refl _ w5).alloc (Nat.le_refl _) (.cells Z 30)) hg5); have hq7 := setRow_heap _ w5.heap.size Z V _ _ hq0; have hb7 := below_setRow (below_then (below_then hb1 hb5 (Nat.le_refl _)) ((Below.refl _ w5).alloc (Nat.le_refl _) (.cells Z 30)) (Nat.le_refl _)) (show w.heap.size ≤ w5.heap.size by omega) V)
              | (with_reducible refine wpList_alloc_z rfl 30 rfl Z hz0 ?_)
              | (with_reducible refine wpList_store_z rfl 30 (.tmp 8) (.tmp 36) rfl _ rfl V rfl Z _ hq0 hVs hsv hV1 ?_)
              | (go_at_call 12; refine (ck _).mono ?_; rintro e w3 ⟨rfl, hb3⟩; have hg3 := get_below hb3 hg7; have hq3 := get_below hb3 hq7; have hb4 := below_then hb7 hb3 (Nat.le_refl _); have hg6 := setRow_heap w3 w.heap.size Z Z _ _ hg3; have hb6 := below_setRow hb4 (Nat.le_refl w.heap.size) Z)
              | fail)
            have hsl : ∀ W, (Instr.slice 9 (.string (bstr n)) none (some (.int .i64 (j : Int))) none).run Tryd.prog W = .ok (.string (bstr a)) W := fun W => by
              rw [run_slice_string_h (P := Tryd.prog) W 9 (bstr n) Tryd.underlying9 .i64 (j : Int) (by omega) (by rw [hsz]; omega), Int.toNat_natCast, hx2]
            have hne : w5.heap.size ≠ w.heap.size := by omega
            refine nsp14 (bstr n) (bstr a) (j : Int) w.heap.size w5.heap.size V w3 _ hsv hV1 hne hsl { d := rfl, z := rfl, s0 := rfl, s3 := rfl, s6 := rfl, s8 := rfl, s48 := fun h => (by cases h), s49 := fun h => (by cases h), s50 := fun h => (by cases h), s51 := fun h => (by cases h), s2 := fun h => (by cases h), s4 := fun h => (by cases h), s5 := fun h => (by cases h), m := ⟨Z, hVs.symm, hg3⟩, mv := fun h => (by cases h), me := hq3, bl := (Below.refl _ _).drew } fun a' w' hJ => ?_
            go_wp2
            refine bodyPost_ret (fin (a, parseL r, true, 0) _ _ V (hJ.mv rfl) hsv hJ.s3 ?_) hJ.d ⟨rfl, hb4.trans hJ.bl⟩
            rw [hJ.s2 rfl, hJ.s4 rfl, hJ.s5 rfl, HV.out]
            rfl
          · rw [if_neg (fun hh => h hh.2)] at hs
            rw [if_neg h] at ck
            subst hs
            clear h hok
            go_wp2_with (first
              | (go_at_call 37; refine cp.mono ?_; rintro e w5 ⟨rfl, hb5⟩; have hq0 := heap_alloc_new w5 (.cells Z 30); have hg5 := get_below hb5 hg1; have hlt5 := (Array.getElem?_eq_some_iff.1 hg5).1; have hg7 : ((w5.alloc (.cells Z 30)).setRow w5.heap.size V).heap[w.heap.size]? = some (.cells Z 30 (0, 0)) := (setRow_other _ _ _ _ (by omega)).trans (get_below ((Below.refl _ w5).alloc (Nat.le_refl _) (.cells Z 30)) hg5); have hq7 := setRow_heap _ w5.heap.size Z V _ _ hq0; have hb7 := below_setRow (below_then (below_then hb1 hb5 (Nat.le_refl _)) ((Below.refl _ w5).alloc (Nat.le_refl _) (.cells Z 30)) (Nat.le_refl _)) (show w.heap.size ≤ w5.heap.size by omega) V)
              | (with_reducible refine wpList_alloc_z rfl 30 rfl Z hz0 ?_)
              | (with_reducible refine wpList_store_z rfl 30 (.tmp 8) (.tmp 36) rfl _ rfl V rfl Z _ hq0 hVs hsv hV1 ?_)
              | (go_at_call 12; refine (ck _).mono ?_; rintro e w3 ⟨rfl, hb3⟩; have hg3 := get_below hb3 hg7; have hq3 := get_below hb3 hq7; have hb4 := below_then hb7 hb3 (Nat.le_refl _); have hg6 := setRow_heap w3 w.heap.size Z Z _ _ hg3; have hb6 := below_setRow hb4 (Nat.le_refl w.heap.size) Z)
              | (with_reducible refine wpList_build_z rfl 30 rfl Z (bz _) ?_)
              | (with_reducible refine wpList_store_z rfl 30 (.tmp 3) (.tmp 47) rfl _ rfl Z rfl Z _ hg3 rfl hsi hZ1 ?_)
              | fail)
            refine bodyPost_ret (fin ([], zeros, false, 40) _ _ Z hg6 hsi rfl ?_) rfl ⟨rfl, hb6⟩
            rw [HF0.out]
            rfl
        · rw [parseE_not hok] at cp
          rw [if_neg (fun hh => hok hh.1)] at hs
          subst hs
          clear hok ck
          go_wp2_with (first
            | (go_at_call 37; refine cp.mono ?_; rintro e w5 ⟨rfl, hb5⟩; have hq0 := heap_alloc_new w5 (.cells Z 30); have hg5 := get_below hb5 hg1; have hlt5 := (Array.getElem?_eq_some_iff.1 hg5).1; have hg7 : ((w5.alloc (.cells Z 30)).setRow w5.heap.size V).heap[w.heap.size]? = some (.cells Z 30 (0, 0)) := (setRow_other _ _ _ _ (by omega)).trans (get_below ((Below.refl _ w5).alloc (Nat.le_refl _) (.cells Z 30)) hg5); have hq7 := setRow_heap _ w5.heap.size Z V _ _ hq0; have hb7 := below_setRow (below_then (below_then hb1 hb5 (Nat.le_refl _)) ((Below.refl _ w5).alloc (Nat.le_refl _) (.cells Z 30)) (Nat.le_refl _)) (show w.heap.size ≤ w5.heap.size by omega) V; have hg6 := setRow_heap _ w.heap.size Z Z _ _ hg7; have hb6 := below_setRow hb7 (Nat.le_refl w.heap.size) Z)
            | (with_reducible refine wpList_alloc_z rfl 30 rfl Z hz0 ?_)
            | (with_reducible refine wpList_store_z rfl 30 (.tmp 8) (.tmp 36) rfl _ rfl V rfl Z _ hq0 hVs hsv hV1 ?_)
            | (with_reducible refine wpList_build_z rfl 30 rfl Z (bz _) ?_)
            | (with_reducible refine wpList_store_z rfl 30 (.tmp 3) (.tmp 47) rfl _ rfl Z rfl Z _ hg7 rfl hsi hZ1 ?_)
            | fail)
          refine bodyPost_ret (fin ([], zeros, false, 40) _ _ Z hg6 hsi rfl ?_) rfl ⟨rfl, hb6⟩
          rw [HF0.out]
          rfl
end Go.Proofs.YtmfncojkpkoijaaDoor
