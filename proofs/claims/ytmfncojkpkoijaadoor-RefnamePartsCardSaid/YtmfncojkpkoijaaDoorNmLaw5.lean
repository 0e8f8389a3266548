/- The law RefnameParts: walked. -/
import Derived.Test.YtmfncojkpkoijaaDoorNmK
import Derived.Test.YtmfncojkpkoijaaDoorNmL
import Derived.Test.YtmfncojkpkoijaaDoorNmLaw1
namespace Go.Proofs.YtmfncojkpkoijaaDoor
open Go.RowKit
set_option linter.unusedVariables false

/-- A name's parts, in a row of their own. -/
theorem parts_row (l : List UInt8) (hl : l.length ≤ 1000) (hb : brL l = 0) (w : World) (hm : MaxOK w) :
    Calls Tryd.prog 14 #[.string (bstr l)] w fun e w' => (∃ g, e = .returned (.slice (some ⟨g, 0, none⟩) (partsL l).length (partsL l).length) ∧ w'.heap[g]? = some (.cells (strC (partsL l)).toArray 9 (0, 0))) ∧ Below w.heap.size w w' := by
  have c := check_any l hl w hm
  unfold chkN at c
  rw [if_pos hb] at c
  have hpl := (partsL_len l).1
  go_enter Tryd.func14, Tryd.ntmps14
  go_wp2_with (go_at_call 11; refine c.mono ?_; rintro e w1 ⟨rfl, hb⟩)
  refine (split_any l (by omega) w1 (hm.below hb)).mono ?_
  rintro e w2 ⟨rfl, rfl⟩
  have hg := heap_alloc_new w1 (.cells (strC (partsL l)).toArray 9)
  have hb2 := below_then hb ((Below.refl _ w1).alloc (Nat.le_refl _) (.cells (strC (partsL l)).toArray 9)) (Nat.le_refl _)
  have HG := Lib.hid hg
  clear hg
  go_wp2
  go_ret
  exact ⟨⟨_, rfl, HG.out⟩, hb2⟩
theorem join_any (qs : List (List UInt8)) (i : Nat) (hi : i ≤ qs.length) (g : Nat) (t : TypeId) (fr : Nat × Nat) (hj : (Lib.join (qs.take i) [47]).length ≤ 1000) (hq : qs.length ≤ 1000) (w : World) (hg : w.heap[g]? = some (.cells (strC qs).toArray t fr)) :
    Calls Tryd.prog 23 #[.slice (some ⟨g, 0, none⟩) i qs.length, .string (bstr [47])] w fun e w' => e = .returned (.string (bstr (Lib.join (qs.take i) [47]))) ∧ Below w.heap.size w w' := by
  have hmap : ((qs.take i).map bstr).map (·.data.toList) = qs.take i := by
    rw [List.map_map]
    exact (List.map_congr_left fun b _ => rfl).trans (List.map_id _)
  have hl : ((qs.take i).map bstr).length = i := by rw [List.length_map, List.length_take]; omega
  have h := Tryd.strings_Join g 0 qs.length ((qs.take i).map bstr) (bstr [47]) w (fun j x hx => by
    rw [Nat.zero_add, cell_of_row _ _ _ _ _ _ hg]
    rw [List.getElem?_map] at hx
    obtain ⟨p, hp, rfl⟩ := Option.map_eq_some_iff.1 hx
    have hp' : qs[j]? = some p := by
      rw [List.getElem?_take] at hp
      split at hp
      · exact hp
      · cases hp
    simp [strC, hp']) (Array.getElem?_eq_some_iff.1 hg).1 (by rw [hl]; omega) (by rw [hl]; exact hi) (by rw [hmap]; show (Lib.join (qs.take i) [47]).length ≤ _; omega)
  rw [hl, hmap] at h
  exact h
set_option maxRecDepth 20000 in
set_option maxHeartbeats 4000000 in
theorem refnameParts_list (n : List UInt8) (w : World) (hm : MaxOK w) :
    Calls Tryd.prog 7 #[.string (bstr n)] w fun e w' => e = .returned (.bool true) ∧ Below w.heap.size w w' := by
  have hs1 : ((bstr n).size : Int) = (n.length : Int) := by rw [bstr_size]
  have cal := alive_any w hm
  by_cases h1 : 200 < n.length
  · have c1 : (200 : Int) < (n.length : Int) := by omega
    clear h1
    go_enter Tryd.func7, Tryd.ntmps7
    go_wp2_with (go_at_call 22; refine cal.mono ?_; rintro e w1 ⟨rfl, hB⟩)
    go_ret
    exact ⟨rfl, hB⟩
  have c1 : ¬ (200 : Int) < (n.length : Int) := by omega
  have cb := fun w' (hm : MaxOK w') => breaks_any n (by omega) w' hm
  by_cases h0 : brL n = 0
  · have cp := fun w' (hm : MaxOK w') => parts_row n (by omega) h0 w' hm
    have ci := fun w' (hm : MaxOK w') => within_any n n (by omega) (by omega) w' hm
    have hwnn : witB n n = true := by unfold witB; rw [decide_eq_true h0]; simp
    rw [hwnn] at ci
    have e0 := br_neq0 h0
    have hfr := fun i (h1 : 0 < i) (h2 : i ≤ (partsL n).length) => br_front h0 i h1 h2
    have hpl := (partsL_len n).1
    have hjn := join_parts n
    have cw := fun F (hF : F.length ≤ 1000) w' (hm : MaxOK w') => within_any n F (by omega) hF w' hm
    have hpp := partsL_ne n
    generalize hps : partsL n = ps at *
    have hp0 : 0 < ps.length := List.length_pos_iff.2 hpp
    have cj := fun i hi g w' hg => join_any ps i hi g 9 (0, 0) (by
      by_cases h0 : 0 < i
      · have := (hfr i h0 hi).2.2; omega
      · obtain rfl : i = 0 := by omega
        simp [Lib.join]) (by omega) w' hg
    have cjn := cj ps.length (Nat.le_refl _)
    rw [List.take_of_length_le (Nat.le_refl _), hjn] at cjn
    have htl : ((bstr n).toList == (bstr n).toList) = true := beq_self_eq_true _
    have hnl : n.length ≤ 200 := by omega
    generalize (brL n : Int) = bn at *
    clear hps h1 hpp hjn hwnn
    go_enter Tryd.func7, Tryd.ntmps7
    go_wp2_with (first
      | (go_at_call 22; refine cal.mono ?_; rintro e w1 ⟨rfl, hB⟩; replace hm := hm.below hB)
      | (go_at_call 14; refine (cp _ hm).mono ?_; rintro e w2 ⟨⟨g, rfl, hg⟩, hb⟩; replace hm := hm.below hb; replace hB := below_then hB hb (Nat.le_refl _))
      | (go_at_call 9; refine (cb _ hm).mono ?_; rintro e w3 ⟨rfl, hb⟩; replace hm := hm.below hb; replace hg := get_below hb hg; replace hB := below_then hB hb (Nat.le_refl _))
      | (go_at_call 23; refine (cjn g _ hg).mono ?_; clear cjn; rintro e w4 ⟨rfl, hb⟩; replace hm := hm.below hb; replace hg := get_below hb hg; replace hB := below_then hB hb (Nat.le_refl _))
      | (go_at_call 16; refine (ci _ hm).mono ?_; rintro e w5 ⟨rfl, hb⟩; replace hm := hm.below hb; replace hg := get_below hb hg; replace hB := below_then hB hb (Nat.le_refl _))
      | fail)
    clear cal cb cp ci e0 htl
    go_loopw [5, 6, 7] (fun i f nd wr => ∃ k : Nat, 1 ≤ k ∧ k ≤ ps.length + 1 ∧ i = .int .i64 k ∧ Below w.heap.size w wr ∧ MaxOK wr ∧ wr.heap[g]? = some (.cells (strC ps).toArray 9 (0, 0))) (fun i _ _ _ => ps.length + 1 - (intOf i).toNat)
    case atStart => exact ⟨1, by omega, by omega, rfl, hB, hm, hg⟩
    case round =>
      obtain ⟨k, hk1, hk2, rfl, hbr, hmr, hgr⟩ := hrel
      by_cases hlt : k ≤ ps.length
      · obtain ⟨f1, f2, f3⟩ := hfr k (by omega) hlt
        have cjk := cj k hlt g wr hgr
        have hsl : ∀ W, (Instr.slice 26 (.slice (some ⟨g, 0, none⟩) ps.length ps.length) none (some (.int .i64 (k : Int))) none).run Tryd.prog W = .ok (.slice (some ⟨g, 0, none⟩) k ps.length) W := fun W => run_sub_h (P := Tryd.prog) W 26 (some ⟨g, 0, none⟩) ps.length ps.length 1 Tryd.underlying26 (Tryd.sizeOf9 W) _ k rfl hlt
        have c2 : (k : Int) ≤ (ps.length : Int) := by omega
        have hFl : (Lib.join (ps.take k) [47]).length ≤ 1000 := by omega
        have cs := hasSuffix_any (Lib.join (ps.take k) [47]) [46] (by omega)
        rw [last_dot] at cs
        have cc := fun w' (hm : MaxOK w') => check_any (Lib.join (ps.take k) [47]) hFl w' hm
        have cwk := fun w' (hm : MaxOK w') => cw (Lib.join (ps.take k) [47]) hFl w' hm
        unfold chkN at cc
        unfold witB at cwk
        rw [f1] at cc cwk
        generalize Lib.join (ps.take k) [47] = F at *
        have hwp : (n == F || Lib.hasPrefix n (F ++ [47])) = true := by
          rcases f2 with rfl | h
          · simp
          · rw [h, Bool.or_true]
        rw [hwp, decide_eq_true h0, Bool.true_and, Bool.and_true] at cwk
        have hkw : wrap64 ((k : Int) + 1) = (k : Int) + 1 := by unfold wrap64; omega
        generalize (F.getLast? == some 46) = en at *
        clear hfr cw cj hwp f1 f2
        cases en with
        | true =>
          simp only [if_pos rfl, show ¬ (7 : Nat) = 0 by omega, if_false, decide_false, if_true] at cc cwk
          go_wp2_with (first
            | (go_at_call 23; refine cjk.mono ?_; rintro e w4 ⟨rfl, hb⟩; replace hmr := hmr.below hb; replace hgr := get_below hb hgr; replace hbr := below_then hbr hb (Nat.le_refl _))
            | (go_at_call 24; refine (cs _).mono ?_; rintro e w5 ⟨rfl, rfl⟩)
            | (go_at_call 11; refine (cc _ hmr).mono ?_; rintro e w6 ⟨rfl, hb⟩; replace hmr := hmr.below hb; replace hgr := get_below hb hgr; replace hbr := below_then hbr hb (Nat.le_refl _))
            | (go_at_call 16; refine (cwk _ hmr).mono ?_; rintro e w7 ⟨rfl, hb⟩; replace hmr := hmr.below hb; replace hgr := get_below hb hgr; replace hbr := below_then hbr hb (Nat.le_refl _))
            | fail)
          go_roundw
          case rel => exact ⟨k + 1, by omega, by omega, by go_num, hbr, hmr, hgr⟩
          case measure => simp [intOf]; omega
        | false =>
          simp only [Bool.false_eq_true, if_false, if_true, decide_true] at cc cwk
          go_wp2_with (first
            | (go_at_call 23; refine cjk.mono ?_; rintro e w4 ⟨rfl, hb⟩; replace hmr := hmr.below hb; replace hgr := get_below hb hgr; replace hbr := below_then hbr hb (Nat.le_refl _))
            | (go_at_call 24; refine (cs _).mono ?_; rintro e w5 ⟨rfl, rfl⟩)
            | (go_at_call 11; refine (cc _ hmr).mono ?_; rintro e w6 ⟨rfl, hb⟩; replace hmr := hmr.below hb; replace hgr := get_below hb hgr; replace hbr := below_then hbr hb (Nat.le_refl _))
            | (go_at_call 16; refine (cwk _ hmr).mono ?_; rintro e w7 ⟨rfl, hb⟩; replace hmr := hmr.below hb; replace hgr := get_below hb hgr; replace hbr := below_then hbr hb (Nat.le_refl _))
            | fail)
          go_roundw
          case rel => exact ⟨k + 1, by omega, by omega, by go_num, hbr, hmr, hgr⟩
          case measure => simp [intOf]; omega
      · have c2 : ¬ (k : Int) ≤ (ps.length : Int) := by omega
        go_wp2_with fail
        go_ret
        exact ⟨rfl, hbr⟩
  · have cp := fun w' (hm : MaxOK w') => parts_any n (by omega) w' hm
    unfold prtL at cp
    rw [if_neg h0] at cp
    have e0 := br_neq h0
    generalize (brL n : Int) = bn at *
    clear h1 h0
    go_enter Tryd.func7, Tryd.ntmps7
    go_wp2_with (first
      | (go_at_call 22; refine cal.mono ?_; rintro e w1 ⟨rfl, hB⟩; replace hm := hm.below hB)
      | (go_at_call 14; refine (cp _ hm).mono ?_; rintro e w2 ⟨⟨v, rfl, A, c, rfl, q1, q2, q3⟩, hb⟩; replace hm := hm.below hb; replace hB := below_then hB hb (Nat.le_refl _))
      | (go_at_call 9; refine (cb _ hm).mono ?_; rintro e w3 ⟨rfl, hb⟩; replace hB := below_then hB hb (Nat.le_refl _))
      | fail)
    go_ret
    exact ⟨by first | rfl | simp, hB⟩
theorem refnameParts_walk (s : ByteArray) (w : World) (_ : s.size ≤ maxLen) (hm : MaxOK w) :
    Calls Tryd.prog 7 #[.string s] w fun e w' => e = .returned (.bool true) ∧ Below w.heap.size w w' := by
  rw [str_of_bytes s]
  exact refnameParts_list _ w hm
end Go.Proofs.YtmfncojkpkoijaaDoor
