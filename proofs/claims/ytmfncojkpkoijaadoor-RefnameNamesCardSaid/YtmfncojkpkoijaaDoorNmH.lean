/- Names of refs: Split. -/
import Derived.Test.YtmfncojkpkoijaaDoorNmGa
namespace Go.Proofs.YtmfncojkpkoijaaDoor
open Go.RowKit
set_option linter.unusedVariables false

theorem parseE_zero {r : List UInt8} (h : okB r = true) : parseE r = 0 := by unfold parseE; rw [if_pos h]
theorem parseE_not {r : List UInt8} (h : ¬ okB r = true) : parseE r = 30 := by unfold parseE; rw [if_neg h]
theorem splL_none {n : List UInt8} (h : (cutL n).2 = none) : splL n = if brL n = 0 then (n, zeros, false, 0) else ([], zeros, false, 40) := by unfold splL; rw [h]
theorem splL_some {n r : List UInt8} (h : (cutL n).2 = some r) : splL n = if okB r = true ∧ brL (cutL n).1 = 0 then ((cutL n).1, parseL r, true, 0) else ([], zeros, false, 40) := by unfold splL; rw [h]
theorem max_setRow {w : World} (h : MaxOK w) (g : Nat) (X V : Array Value) (fr : Nat × Nat) (t : TypeId) (hg : w.heap[g]? = some (.cells X t fr)) (hlt : 1 ≠ g) : MaxOK (w.setRow g V) := by
  obtain ⟨m, hm⟩ := h
  refine ⟨m, ?_⟩
  unfold World.cell? at hm ⊢
  rw [setRow_other _ _ _ _ hlt]
  exact hm
/-- What Split answers, as a value. -/
def spV (x : List UInt8 × List UInt8 × Bool × Nat) : Value := .tuple #[.string (bstr x.1), .agg (idC x.2.1), .bool x.2.2.1, .int .i64 (x.2.2.2 : Int)]
set_option maxRecDepth 20000 in
set_option maxHeartbeats 4000000 in
theorem nsplit_any (n : List UInt8) (hn : n.length ≤ 1000) (w : World) (hm : MaxOK w) :
    Calls Tryd.prog 20 #[.string (bstr n)] w fun e w' => e = .returned (spV (splL n)) ∧ Below w.heap.size w w' := by
  obtain ⟨Z, hz0, hZs, hZ1, HZ⟩ : ∃ Z : Array Value, (Tryd.prog.info? 30).bind (fun i => i.zero.map Value.cells) = some Z ∧ Z.size = 32 ∧ (∀ u ∈ Z.toList, u.oneCell' = true) ∧ Hid (Z = idC zeros) := ⟨idC zeros, zero_id, by rw [idC_size]; rfl, by simpa [idC] using u8v_one zeros, rfl⟩
  have bz := fun W => run_build_z (P := Tryd.prog) W 30 5 32 Z hz0 Tryd.underlying30 ⟨_, Tryd.sizeOf5 W⟩
  have hsi : (Tryd.prog.info? 30).map (·.size) = some Z.size := by rw [hZs]; exact size_id
  have hmx : 1 ≠ w.heap.size := by
    obtain ⟨m, hm⟩ := hm
    have := World.block_lt_of_cell? w _ hm
    simp only at this
    omega
  have hb1 : Below w.heap.size w (w.alloc (.cells Z 30)) := (Below.refl _ w).alloc (Nat.le_refl _) _
  have hg1 : (w.alloc (.cells Z 30)).heap[w.heap.size]? = some (.cells Z 30 (0, 0)) := heap_alloc_new _ _
  have cc := cut_any n (by omega) _ (hm.below hb1)
  replace hm := hm.below hb1
  obtain ⟨w1, hw1⟩ : ∃ w1, w1 = w.alloc (.cells Z 30) := ⟨_, rfl⟩
  have HW := Lib.hid hw1
  rw [← hw1] at hb1 hg1 cc hm
  clear hw1
  have hcl : (cutL n).1.length ≤ n.length := by
    rcases cutL_cases n with ⟨h, _⟩ | ⟨a, r, h1, _, h⟩
    · rw [h]; exact Nat.le_refl _
    · rw [h, h1, List.length_append]; show a.length ≤ _; omega
  obtain ⟨a, ha⟩ : ∃ a, a = (cutL n).1 := ⟨_, rfl⟩
  have ck := fun w' (h : MaxOK w') => check_any a (by rw [ha]; omega) w' h
  unfold chkN at ck
  -- what is returned
  have fin : ∀ (x : List UInt8 × List UInt8 × Bool × Nat) (tmps : Array Value) (W : World) (V : Array Value), W.heap[w.heap.size]? = some (.cells V 30 (0, 0)) → (Tryd.prog.info? 30).map (·.size) = some V.size → tmps.getD 3 undef = .pointer (some ⟨w.heap.size, 0, none⟩) →
      (.tuple #[tmps.getD 2 undef, .agg V, tmps.getD 4 undef, tmps.getD 5 undef] : Value) = spV x → (results Tryd.f20 tmps).run Tryd.prog W = .ok (spV x) W := fun x tmps W V h1 h2 h3 h4 => by
    rw [results_four (P := Tryd.prog) (fn := Tryd.f20) rfl tmps W w.heap.size _ V _ _ h3 h1 Tryd.underlying30 rfl h2, h4]
  have fin0 : spV ([], zeros, false, 40) = .tuple #[.string ⟨#[]⟩, .agg Z, .bool false, .int .i64 40] := by rw [HZ.out]; rfl
  have HF0 := Lib.hid fin0
  clear fin0
  obtain ⟨sp, hsp⟩ : ∃ sp, sp = splL n := ⟨_, rfl⟩
  rw [← hsp]
  cases hq : (cutL n).2 with
  | none =>
    rw [hq] at cc
    have hs := hsp.trans (splL_none hq)
    have hna : a = n := by
      rcases cutL_cases n with ⟨h, _⟩ | ⟨a, r, h1, _, h⟩
      · rw [ha, h]
      · rw [h] at hq; cases hq
    rw [← ha] at cc
    clear hsp hcl hn hq ha
    subst hna
    by_cases h : brL a = 0
    · rw [if_pos h] at hs
      rw [if_pos h] at ck
      subst hs
      clear h
      go_enter Tryd.func20, Tryd.ntmps20
      go_wp2_with (first
        | (with_reducible refine wpList_alloc_z rfl 30 rfl Z hz0 ?_)
        | fail)
      rw [← HW.out]
      refine cc.mono ?_
      rintro e w2 ⟨rfl, k, rfl⟩
      replace hb1 := below_dn hb1 k
      replace hm : MaxOK (w1.drewN k) := hm
      replace hg1 : (w1.drewN k).heap[w.heap.size]? = some (.cells Z 30 (0, 0)) := hg1
      generalize w1.drewN k = w2 at *
      go_wp2_with (go_at_call 11; refine (ck _ hm).mono ?_; rintro e w3 ⟨rfl, hb3⟩)
      have hg3 := get_below hb3 hg1
      have hb4 := below_then hb1 hb3 (Nat.le_refl _)
      refine nsp6 (bstr a) false w.heap.size Z w3 _ hsi hZ1 { d := rfl, z := rfl, s2 := rfl, s3 := rfl, s4 := rfl, s27 := fun h => (by cases h), s28 := fun h => (by cases h), s29 := fun h => (by cases h), s5 := fun h => (by cases h), m := hg3, bl := (Below.refl _ _).drew } fun a' w' hJ => ?_
      go_wp2
      refine bodyPost_ret (fin (a, zeros, false, 0) _ _ Z hJ.m hsi hJ.s3 ?_) hJ.d ⟨rfl, hb4.trans hJ.bl⟩
      rw [hJ.s2, hJ.s4, hJ.s5 rfl]
      show _ = Value.tuple #[.string (bstr a), .agg (idC zeros), .bool false, .int .i64 0]
      rw [← HZ.out]
    · rw [if_neg h] at hs
      rw [if_neg h] at ck
      subst hs
      clear h
      go_enter Tryd.func20, Tryd.ntmps20
      go_wp2_with (first
        | (with_reducible refine wpList_alloc_z rfl 30 rfl Z hz0 ?_)
        | fail)
      rw [← HW.out]
      refine cc.mono ?_
      rintro e w2 ⟨rfl, k, rfl⟩
      replace hb1 := below_dn hb1 k
      replace hm : MaxOK (w1.drewN k) := hm
      replace hg1 : (w1.drewN k).heap[w.heap.size]? = some (.cells Z 30 (0, 0)) := hg1
      generalize w1.drewN k = w2 at *
      go_wp2_with (first
        | (go_at_call 11; refine (ck _ hm).mono ?_; rintro e w3 ⟨rfl, hb3⟩; have hg3 := get_below hb3 hg1; have hb4 := below_then hb1 hb3 (Nat.le_refl _); have hg6 := setRow_heap w3 w.heap.size Z Z _ _ hg3; have hb6 := below_setRow hb4 (Nat.le_refl w.heap.size) Z)
        | (with_reducible refine wpList_build_z rfl 30 rfl Z (bz _) ?_)
        | (with_reducible refine wpList_store_z rfl 30 (.tmp 3) (.tmp 26) rfl _ rfl Z rfl Z _ hg3 rfl hsi hZ1 ?_)
        | fail)
      refine bodyPost_ret (fin ([], zeros, false, 40) _ _ Z hg6 hsi rfl ?_) rfl ⟨rfl, hb6⟩
      rw [HF0.out]
      rfl
  | some r =>
    rw [hq] at cc
    have hs := hsp.trans (splL_some hq)
    rw [← ha] at cc hs
    have hrl : r.length ≤ n.length := by
      rcases cutL_cases n with ⟨h, _⟩ | ⟨a, r', h1, _, h⟩
      · rw [h] at hq; cases hq
      · rw [h] at hq
        cases hq
        rw [h1]
        simp
        omega
    have cp := parse_any r (by omega)
    obtain ⟨V, hV⟩ : ∃ V, V = idC (parseL r) := ⟨_, rfl⟩
    have HV := Lib.hid hV
    have hVs : V.size = Z.size := by rw [hV, idC_size, parseL_length, hZs]
    have hV1 : ∀ u ∈ V.toList, u.oneCell' = true := by rw [hV]; simpa [idC] using u8v_one (parseL r)
    have hsv : (Tryd.prog.info? 30).map (·.size) = some V.size := by rw [hVs]; exact hsi
    rw [← hV] at cp
    have hgv := fun W (h : W.heap[w.heap.size]? = some (.cells Z 30 (0, 0))) => setRow_heap W w.heap.size Z V _ _ h
    clear hsp hcl hn hq ha hrl hV
    simp only [Option.getD_some, Option.isSome_some] at cc
    by_cases hok : okB r = true
    · rw [parseE_zero hok] at cp
      by_cases h : brL a = 0
      · rw [if_pos ⟨hok, h⟩] at hs
        rw [if_pos h] at ck
        subst hs
        clear h hok
        go_enter Tryd.func20, Tryd.ntmps20
        go_wp2_with (first
          | (with_reducible refine wpList_alloc_z rfl 30 rfl Z hz0 ?_)
          | fail)
        rw [← HW.out]
        refine cc.mono ?_
        rintro e w2 ⟨rfl, k, rfl⟩
        replace hb1 := below_dn hb1 k
        replace hm : MaxOK (w1.drewN k) := hm
        replace hg1 : (w1.drewN k).heap[w.heap.size]? = some (.cells Z 30 (0, 0)) := hg1
        generalize w1.drewN k = w2 at *
        go_wp2_with (first
          | (go_at_call 36; refine (cp w2).mono ?_; rintro e w5 ⟨rfl, hb5⟩; replace hm := hm.below hb5; replace hg1 := get_below hb5 hg1; have hgq := hgv w5 hg1; replace hb1 := below_setRow (below_then hb1 hb5 (Nat.le_refl _)) (Nat.le_refl w.heap.size) V; replace hm := max_setRow hm w.heap.size Z V _ _ hg1 hmx)
          | (with_reducible refine wpList_store_z rfl 30 (.tmp 3) (.tmp 17) rfl _ rfl V rfl Z _ hg1 hVs hsv hV1 ?_)
          | (go_at_call 11; refine (ck _ hm).mono ?_; rintro e w3 ⟨rfl, hb3⟩; have hg3 := get_below hb3 hgq; have hb4 := below_then hb1 hb3 (Nat.le_refl _); have hg6 := setRow_heap w3 w.heap.size V Z _ _ hg3; have hb6 := below_setRow hb4 (Nat.le_refl w.heap.size) Z)
          | fail)
        refine nsp6 (bstr a) true w.heap.size V w3 _ hsv hV1 { d := rfl, z := rfl, s2 := rfl, s3 := rfl, s4 := rfl, s27 := fun h => (by cases h), s28 := fun h => (by cases h), s29 := fun h => (by cases h), s5 := fun h => (by cases h), m := hg3, bl := (Below.refl _ _).drew } fun a' w' hJ => ?_
        go_wp2
        refine bodyPost_ret (fin (a, parseL r, true, 0) _ _ V hJ.m hsv hJ.s3 ?_) hJ.d ⟨rfl, hb4.trans hJ.bl⟩
        rw [hJ.s2, hJ.s4, hJ.s5 rfl, HV.out]
        rfl
      · rw [if_neg (fun hh => h hh.2)] at hs
        rw [if_neg h] at ck
        subst hs
        clear h hok
        go_enter Tryd.func20, Tryd.ntmps20
        go_wp2_with (first
          | (with_reducible refine wpList_alloc_z rfl 30 rfl Z hz0 ?_)
          | fail)
        rw [← HW.out]
        refine cc.mono ?_
        rintro e w2 ⟨rfl, k, rfl⟩
        replace hb1 := below_dn hb1 k
        replace hm : MaxOK (w1.drewN k) := hm
        replace hg1 : (w1.drewN k).heap[w.heap.size]? = some (.cells Z 30 (0, 0)) := hg1
        generalize w1.drewN k = w2 at *
        go_wp2_with (first
          | (go_at_call 36; refine (cp w2).mono ?_; rintro e w5 ⟨rfl, hb5⟩; replace hm := hm.below hb5; replace hg1 := get_below hb5 hg1; have hgq := hgv w5 hg1; replace hb1 := below_setRow (below_then hb1 hb5 (Nat.le_refl _)) (Nat.le_refl w.heap.size) V; replace hm := max_setRow hm w.heap.size Z V _ _ hg1 hmx)
          | (with_reducible refine wpList_store_z rfl 30 (.tmp 3) (.tmp 17) rfl _ rfl V rfl Z _ hg1 hVs hsv hV1 ?_)
          | (go_at_call 11; refine (ck _ hm).mono ?_; rintro e w3 ⟨rfl, hb3⟩; have hg3 := get_below hb3 hgq; have hb4 := below_then hb1 hb3 (Nat.le_refl _); have hg6 := setRow_heap w3 w.heap.size V Z _ _ hg3; have hb6 := below_setRow hb4 (Nat.le_refl w.heap.size) Z)
          | (with_reducible refine wpList_build_z rfl 30 rfl Z (bz _) ?_)
          | (with_reducible refine wpList_store_z rfl 30 (.tmp 3) (.tmp 26) rfl _ rfl Z rfl V _ hg3 hVs.symm hsi hZ1 ?_)
          | fail)
        refine bodyPost_ret (fin ([], zeros, false, 40) _ _ Z hg6 hsi rfl ?_) rfl ⟨rfl, hb6⟩
        rw [HF0.out]
        rfl
    · rw [parseE_not hok] at cp
      rw [if_neg (fun hh => hok hh.1)] at hs
      subst hs
      clear hok ck
      go_enter Tryd.func20, Tryd.ntmps20
      go_wp2_with (first
        | (with_reducible refine wpList_alloc_z rfl 30 rfl Z hz0 ?_)
        | fail)
      rw [← HW.out]
      refine cc.mono ?_
      rintro e w2 ⟨rfl, k, rfl⟩
      replace hb1 := below_dn hb1 k
      replace hm : MaxOK (w1.drewN k) := hm
      replace hg1 : (w1.drewN k).heap[w.heap.size]? = some (.cells Z 30 (0, 0)) := hg1
      generalize w1.drewN k = w2 at *
      go_wp2_with (first
        | (go_at_call 36; refine (cp w2).mono ?_; rintro e w5 ⟨rfl, hb5⟩; replace hm := hm.below hb5; replace hg1 := get_below hb5 hg1; have hgq := hgv w5 hg1; replace hb1 := below_setRow (below_then hb1 hb5 (Nat.le_refl _)) (Nat.le_refl w.heap.size) V; have hg6 := setRow_heap (w5.setRow w.heap.size V) w.heap.size V Z _ _ hgq; have hb6 := below_setRow hb1 (Nat.le_refl w.heap.size) Z)
        | (with_reducible refine wpList_store_z rfl 30 (.tmp 3) (.tmp 17) rfl _ rfl V rfl Z _ hg1 hVs hsv hV1 ?_)
        | (with_reducible refine wpList_build_z rfl 30 rfl Z (bz _) ?_)
        | (with_reducible refine wpList_store_z rfl 30 (.tmp 3) (.tmp 26) rfl _ rfl Z rfl V _ hgq hVs.symm hsi hZ1 ?_)
        | fail)
      refine bodyPost_ret (fin ([], zeros, false, 40) _ _ Z hg6 hsi rfl ?_) rfl ⟨rfl, hb6⟩
      rw [HF0.out]
      rfl
end Go.Proofs.YtmfncojkpkoijaaDoor
