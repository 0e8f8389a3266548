/- The law LebFirst, walked. -/
import Derived.Test.YtokfenogiajcgaaLebC
import Derived.WalkSmall
import Derived.Deep.DeepCutAuto
import Derived.Deep.CutBlock
import Derived.Test.YtokfenogiajcgaaLebGd
namespace Go.Proofs.Ytokfenogiajcgaa
open Go.RowKit
attribute [local go_sem] Oper.semAt_some

set_option maxRecDepth 100000 in
set_option maxHeartbeats 4000000 in
theorem lebFirst_walk (x y : Nat) (A : Option Addr) (n c : Nat) (l : List UInt8) (w : World) (hx : x < 18446744073709551616) (hy : y < 18446744073709551616) (hB : ByteRow w A n c l) :
    Calls Try.prog 5 #[.int .u64 (x : Int), .int .u64 (y : Int), .slice A n c] w fun e w' => e = .returned (.bool true) ∧ Below w.heap.size w w' := by
  obtain ⟨rfl, hBc, hBm, hBr⟩ := hB
  have hbn : (l.length : Int) ≤ 9223372036854775807 := by unfold maxLen at hBm; omega
  by_cases hn : l.length ≤ 100
  case neg =>
    have hn' : (100 : Int) < (l.length : Int) := by omega
    go_enter Try.func5, Try.ntmps5
    go_wp2_with fail
    refine (alive_any w).mono ?_
    rintro e w1 ⟨rfl, hb1⟩
    go_wp2_with fail
    go_ret
    exact ⟨rfl, hb1⟩
  have hn' : ¬ (100 : Int) < (l.length : Int) := by omega
  have s1 := fun W => number_str x hx W
  have s2 := fun W => number_str y hy W
  have z1 := fun W => size_any x W hx
  have z2 := fun W => size_any y W hy
  have e1 : ((bstr (numB y)).extract 0 (bstr (numB x)).size).toList = (numB y).take (numB x).length := by
    rw [← bstr_toList ((numB y).take (numB x).length)]
    congr 1
    apply ByteArray.ext
    simp [bstr]
    rfl
  have hx1 : (bstr (numB x)).size = (numB x).length := rfl
  have hy1 : (bstr (numB y)).size = (numB y).length := rfl
  have hx10 := numB_ten x hx
  have hy10 := numB_ten y hy
  have heq : x = y → (((bstr (numB y)).extract 0 (bstr (numB x)).size).toList == (bstr (numB x)).toList) = true := fun h => by
    rw [e1, bstr_toList, h, List.take_length]
    exact beq_self_eq_true _
  have hne : x ≠ y → (((bstr (numB y)).extract 0 (bstr (numB x)).size).toList == (bstr (numB x)).toList) = false := fun h => by
    rw [e1, bstr_toList, beq_eq_false_iff_ne]
    exact fun e => h (numB_prefix x y hx hy ⟨(numB y).drop (numB x).length, by have := List.take_append_drop (numB x).length (numB y); rwa [e] at this⟩)
  have hmo := fun h : x ≤ y => numB_mono x y h
  have hsxy : x = y → bstr (numB x) = bstr (numB y) := fun h => by rw [h]
  generalize bstr (numB x) = sx at *
  generalize bstr (numB y) = sy at *
  generalize (numB x).length = nx at *
  generalize (numB y).length = ny at *
  clear e1
  rw [hx1] at heq hne
  have hnum := fun g v W hS => srcnum_wide g 18446744073709551615 (by omega) l v W hS
  have hR : ∃ nn er kk, readN l 18446744073709551615 = (nn, er, kk) ∧ ((er = 0 ∧ numB nn = l.take kk ∧ kk ≤ l.length ∧ nn < 18446744073709551616) ∨ (er ≠ 0 ∧ kk = 0)) := by
    by_cases he : (readN l 18446744073709551615).2.1 = 0
    · have h1 : readN l 18446744073709551615 = ((readN l 18446744073709551615).1, 0, (readN l 18446744073709551615).2.2) := by rw [← he]
      obtain ⟨q1, _, _, q4, _, q6⟩ := readN_ok h1
      exact ⟨_, _, _, h1, .inl ⟨rfl, q1, q4, q6⟩⟩
    · exact ⟨_, _, _, rfl, .inr ⟨he, readN_zero he⟩⟩
  obtain ⟨nn, er, kk, hRR, hR⟩ := hR
  rw [hRR] at hnum
  simp only at hnum
  clear hRR
  by_cases hxy : x = y
  · have heq := heq hxy
    have hxi : ((x : Int) == (y : Int)) = true := by rw [beq_iff_eq]; omega
    have hle : (x : Int) ≤ (y : Int) := by omega
    obtain rfl : nx = ny := by rw [← hx1, ← hy1, hsxy hxy]
    clear hne hmo hxy hsxy
    go_enter Try.func5, Try.ntmps5
    go_wp2_with fail
    refine (alive_any w).mono ?_
    rintro e w1 ⟨rfl, hb1⟩
    go_wp2_with fail
    refine (s1 w1).mono ?_
    rintro e w2 ⟨rfl, hb2⟩
    replace hb2 := below_then hb1 hb2 (Nat.le_refl _)
    go_wp2_with fail
    refine (s2 w2).mono ?_
    rintro e w3 ⟨rfl, hb3⟩
    replace hb3 := below_then hb2 hb3 (Nat.le_refl _)
    clear hb1 hb2
    go_upto_region 8 with (first
      | (go_at_call 14; refine (z1 _).mono ?_; rintro e w' ⟨rfl, hw'⟩; rw [hw']; clear hw')
      | (go_at_call 14; refine (z2 _).mono ?_; rintro e w' ⟨rfl, hw'⟩; rw [hw']; clear hw')
      | fail)
    clear heq hxi hle s1 s2 z1 z2
    go_wp2_with fail
    refine (from_any A l.length c l rfl (by omega) w3 (hBr.below hb3)).mono ?_
    rintro e w4 ⟨g, v, rfl, hg, hsrc, hb4, _⟩
    replace hb4 := below_then hb3 hb4 (Nat.le_refl _)
    have hs3 := hb3.size
    go_wp2_with fail
    rcases hR with ⟨hr0, hnm, hkl, hnl⟩ | ⟨hr0, hk0⟩
    · subst hr0
      refine (hnum g v w4 hsrc).mono ?_
      rintro e w5 ⟨rfl, v5, hv5, hs5⟩
      have hb5 := below_kept hb4 hs5.2 (fun k e => by omega)
      have hd : (l.length : Int) - ((l.length - kk : Nat) : Int) = (kk : Int) := by omega
      have hleft : Calls Try.prog 26 #[.pointer (some ⟨g, 0, none⟩)] w5 fun e w' => e = .returned (.int .i64 ((l.length - kk : Nat) : Int)) ∧ w' = w5 := by
        have := left_any g v5 (l.drop kk) w5 hs5.1
        rwa [List.length_drop] at this
      generalize l.length - kk = m at *
      go_upto_region 13 with (first
        | (go_at_call 26; refine hleft.mono ?_; rintro e w' ⟨rfl, hw'⟩; rw [hw']; clear hw')
        | fail)
      refine lf13 nn kk l.length c A (bstr (numB nn)) w5 (fun W => ?_) (fun W => number_str nn hnl W) (fun W => run_sub_h (P := Try.prog) W 24 A l.length c 1 Try.underlying24 (Try.sizeOf5 W) _ kk rfl (by omega)) (fun W hb => ?_) fun w6 hb6 => ?_
      · have := size_any nn W hnl
        rwa [hnm, List.length_take, Nat.min_eq_left hkl] at this
      · have := run_string_of (P := Try.prog) W 24 9 5 Try.underlying24 Try.underlying5 Try.underlying9 A (l.take kk) c (by rw [← u8v_take]; exact (hBr.below (below_then hb5 hb (Nat.le_refl _))).take _)
        rwa [List.length_take, Nat.min_eq_left hkl, ← hnm] at this
      go_wp2_with fail
      go_ret
      exact ⟨rfl, below_then hb5 hb6 (Nat.le_refl _)⟩
    · subst hk0
      refine (hnum g v w4 hsrc).mono ?_
      rintro e w5 ⟨rfl, v5, hv5, hs5⟩
      have hb5 := below_kept hb4 hs5.2 (fun k e => by omega)
      have hr1 : ((er : Int) != 0) = true := by rw [bne_iff_ne]; omega
      have hleft := left_any g v5 l w5 hs5.1
      clear hs5 hr0
      go_wp2_with (first
        | (go_at_call 26; refine hleft.mono ?_; rintro e w' ⟨rfl, hw'⟩; rw [hw']; clear hw')
        | fail)
      go_ret
      exact ⟨rfl, hb5⟩
  · have hne := hne hxy
    have hxi : ((x : Int) == (y : Int)) = false := by rw [beq_eq_false_iff_ne]; omega
    by_cases hlt : x < y
    · have hnn : nx ≤ ny := hmo (by omega)
      clear heq hmo hxy hsxy
      go_enter Try.func5, Try.ntmps5
      go_wp2_with fail
      refine (alive_any w).mono ?_
      rintro e w1 ⟨rfl, hb1⟩
      go_wp2_with fail
      refine (s1 w1).mono ?_
      rintro e w2 ⟨rfl, hb2⟩
      replace hb2 := below_then hb1 hb2 (Nat.le_refl _)
      go_wp2_with fail
      refine (s2 w2).mono ?_
      rintro e w3 ⟨rfl, hb3⟩
      replace hb3 := below_then hb2 hb3 (Nat.le_refl _)
      clear hb1 hb2
      go_upto_region 8 with (first
        | (go_at_call 14; refine (z1 _).mono ?_; rintro e w' ⟨rfl, hw'⟩; rw [hw']; clear hw')
        | (go_at_call 14; refine (z2 _).mono ?_; rintro e w' ⟨rfl, hw'⟩; rw [hw']; clear hw')
        | fail)
      clear hne hxi hlt hnn s1 s2 z1 z2
      go_wp2_with fail
      refine (from_any A l.length c l rfl (by omega) w3 (hBr.below hb3)).mono ?_
      rintro e w4 ⟨g, v, rfl, hg, hsrc, hb4, _⟩
      replace hb4 := below_then hb3 hb4 (Nat.le_refl _)
      have hs3 := hb3.size
      go_wp2_with fail
      rcases hR with ⟨hr0, hnm, hkl, hnl⟩ | ⟨hr0, hk0⟩
      · subst hr0
        refine (hnum g v w4 hsrc).mono ?_
        rintro e w5 ⟨rfl, v5, hv5, hs5⟩
        have hb5 := below_kept hb4 hs5.2 (fun k e => by omega)
        have hd : (l.length : Int) - ((l.length - kk : Nat) : Int) = (kk : Int) := by omega
        have hleft : Calls Try.prog 26 #[.pointer (some ⟨g, 0, none⟩)] w5 fun e w' => e = .returned (.int .i64 ((l.length - kk : Nat) : Int)) ∧ w' = w5 := by
          have := left_any g v5 (l.drop kk) w5 hs5.1
          rwa [List.length_drop] at this
        generalize l.length - kk = m at *
        go_upto_region 13 with (first
          | (go_at_call 26; refine hleft.mono ?_; rintro e w' ⟨rfl, hw'⟩; rw [hw']; clear hw')
          | fail)
        refine lf13 nn kk l.length c A (bstr (numB nn)) w5 (fun W => ?_) (fun W => number_str nn hnl W) (fun W => run_sub_h (P := Try.prog) W 24 A l.length c 1 Try.underlying24 (Try.sizeOf5 W) _ kk rfl (by omega)) (fun W hb => ?_) fun w6 hb6 => ?_
        · have := size_any nn W hnl
          rwa [hnm, List.length_take, Nat.min_eq_left hkl] at this
        · have := run_string_of (P := Try.prog) W 24 9 5 Try.underlying24 Try.underlying5 Try.underlying9 A (l.take kk) c (by rw [← u8v_take]; exact (hBr.below (below_then hb5 hb (Nat.le_refl _))).take _)
          rwa [List.length_take, Nat.min_eq_left hkl, ← hnm] at this
        go_wp2_with fail
        go_ret
        exact ⟨rfl, below_then hb5 hb6 (Nat.le_refl _)⟩
      · subst hk0
        refine (hnum g v w4 hsrc).mono ?_
        rintro e w5 ⟨rfl, v5, hv5, hs5⟩
        have hb5 := below_kept hb4 hs5.2 (fun k e => by omega)
        have hr1 : ((er : Int) != 0) = true := by rw [bne_iff_ne]; omega
        have hleft := left_any g v5 l w5 hs5.1
        clear hs5 hr0
        go_wp2_with (first
          | (go_at_call 26; refine hleft.mono ?_; rintro e w' ⟨rfl, hw'⟩; rw [hw']; clear hw')
          | fail)
        go_ret
        exact ⟨rfl, hb5⟩
    · replace hlt : ¬ x ≤ y := by omega
      by_cases hnn : nx ≤ ny
      · clear heq hmo hxy hsxy
        go_enter Try.func5, Try.ntmps5
        go_wp2_with fail
        refine (alive_any w).mono ?_
        rintro e w1 ⟨rfl, hb1⟩
        go_wp2_with fail
        refine (s1 w1).mono ?_
        rintro e w2 ⟨rfl, hb2⟩
        replace hb2 := below_then hb1 hb2 (Nat.le_refl _)
        go_wp2_with fail
        refine (s2 w2).mono ?_
        rintro e w3 ⟨rfl, hb3⟩
        replace hb3 := below_then hb2 hb3 (Nat.le_refl _)
        clear hb1 hb2
        go_upto_region 8 with (first
          | (go_at_call 14; refine (z1 _).mono ?_; rintro e w' ⟨rfl, hw'⟩; rw [hw']; clear hw')
          | (go_at_call 14; refine (z2 _).mono ?_; rintro e w' ⟨rfl, hw'⟩; rw [hw']; clear hw')
          | fail)
        clear hne hxi hlt hnn s1 s2 z1 z2
        go_wp2_with fail
        refine (from_any A l.length c l rfl (by omega) w3 (hBr.below hb3)).mono ?_
        rintro e w4 ⟨g, v, rfl, hg, hsrc, hb4, _⟩
        replace hb4 := below_then hb3 hb4 (Nat.le_refl _)
        have hs3 := hb3.size
        go_wp2_with fail
        rcases hR with ⟨hr0, hnm, hkl, hnl⟩ | ⟨hr0, hk0⟩
        · subst hr0
          refine (hnum g v w4 hsrc).mono ?_
          rintro e w5 ⟨rfl, v5, hv5, hs5⟩
          have hb5 := below_kept hb4 hs5.2 (fun k e => by omega)
          have hd : (l.length : Int) - ((l.length - kk : Nat) : Int) = (kk : Int) := by omega
          have hleft : Calls Try.prog 26 #[.pointer (some ⟨g, 0, none⟩)] w5 fun e w' => e = .returned (.int .i64 ((l.length - kk : Nat) : Int)) ∧ w' = w5 := by
            have := left_any g v5 (l.drop kk) w5 hs5.1
            rwa [List.length_drop] at this
          generalize l.length - kk = m at *
          go_upto_region 13 with (first
            | (go_at_call 26; refine hleft.mono ?_; rintro e w' ⟨rfl, hw'⟩; rw [hw']; clear hw')
            | fail)
          refine lf13 nn kk l.length c A (bstr (numB nn)) w5 (fun W => ?_) (fun W => number_str nn hnl W) (fun W => run_sub_h (P := Try.prog) W 24 A l.length c 1 Try.underlying24 (Try.sizeOf5 W) _ kk rfl (by omega)) (fun W hb => ?_) fun w6 hb6 => ?_
          · have := size_any nn W hnl
            rwa [hnm, List.length_take, Nat.min_eq_left hkl] at this
          · have := run_string_of (P := Try.prog) W 24 9 5 Try.underlying24 Try.underlying5 Try.underlying9 A (l.take kk) c (by rw [← u8v_take]; exact (hBr.below (below_then hb5 hb (Nat.le_refl _))).take _)
            rwa [List.length_take, Nat.min_eq_left hkl, ← hnm] at this
          go_wp2_with fail
          go_ret
          exact ⟨rfl, below_then hb5 hb6 (Nat.le_refl _)⟩
        · subst hk0
          refine (hnum g v w4 hsrc).mono ?_
          rintro e w5 ⟨rfl, v5, hv5, hs5⟩
          have hb5 := below_kept hb4 hs5.2 (fun k e => by omega)
          have hr1 : ((er : Int) != 0) = true := by rw [bne_iff_ne]; omega
          have hleft := left_any g v5 l w5 hs5.1
          clear hs5 hr0
          go_wp2_with (first
            | (go_at_call 26; refine hleft.mono ?_; rintro e w' ⟨rfl, hw'⟩; rw [hw']; clear hw')
            | fail)
          go_ret
          exact ⟨rfl, hb5⟩
      · clear heq hmo hxy hne hsxy
        go_enter Try.func5, Try.ntmps5
        go_wp2_with fail
        refine (alive_any w).mono ?_
        rintro e w1 ⟨rfl, hb1⟩
        go_wp2_with fail
        refine (s1 w1).mono ?_
        rintro e w2 ⟨rfl, hb2⟩
        replace hb2 := below_then hb1 hb2 (Nat.le_refl _)
        go_wp2_with fail
        refine (s2 w2).mono ?_
        rintro e w3 ⟨rfl, hb3⟩
        replace hb3 := below_then hb2 hb3 (Nat.le_refl _)
        clear hb1 hb2
        go_upto_region 8 with (first
          | (go_at_call 14; refine (z1 _).mono ?_; rintro e w' ⟨rfl, hw'⟩; rw [hw']; clear hw')
          | (go_at_call 14; refine (z2 _).mono ?_; rintro e w' ⟨rfl, hw'⟩; rw [hw']; clear hw')
          | fail)
        clear hxi hlt hnn s1 s2 z1 z2
        go_wp2_with fail
        refine (from_any A l.length c l rfl (by omega) w3 (hBr.below hb3)).mono ?_
        rintro e w4 ⟨g, v, rfl, hg, hsrc, hb4, _⟩
        replace hb4 := below_then hb3 hb4 (Nat.le_refl _)
        have hs3 := hb3.size
        go_wp2_with fail
        rcases hR with ⟨hr0, hnm, hkl, hnl⟩ | ⟨hr0, hk0⟩
        · subst hr0
          refine (hnum g v w4 hsrc).mono ?_
          rintro e w5 ⟨rfl, v5, hv5, hs5⟩
          have hb5 := below_kept hb4 hs5.2 (fun k e => by omega)
          have hd : (l.length : Int) - ((l.length - kk : Nat) : Int) = (kk : Int) := by omega
          have hleft : Calls Try.prog 26 #[.pointer (some ⟨g, 0, none⟩)] w5 fun e w' => e = .returned (.int .i64 ((l.length - kk : Nat) : Int)) ∧ w' = w5 := by
            have := left_any g v5 (l.drop kk) w5 hs5.1
            rwa [List.length_drop] at this
          generalize l.length - kk = m at *
          go_upto_region 13 with (first
            | (go_at_call 26; refine hleft.mono ?_; rintro e w' ⟨rfl, hw'⟩; rw [hw']; clear hw')
            | fail)
          refine lf13 nn kk l.length c A (bstr (numB nn)) w5 (fun W => ?_) (fun W => number_str nn hnl W) (fun W => run_sub_h (P := Try.prog) W 24 A l.length c 1 Try.underlying24 (Try.sizeOf5 W) _ kk rfl (by omega)) (fun W hb => ?_) fun w6 hb6 => ?_
          · have := size_any nn W hnl
            rwa [hnm, List.length_take, Nat.min_eq_left hkl] at this
          · have := run_string_of (P := Try.prog) W 24 9 5 Try.underlying24 Try.underlying5 Try.underlying9 A (l.take kk) c (by rw [← u8v_take]; exact (hBr.below (below_then hb5 hb (Nat.le_refl _))).take _)
            rwa [List.length_take, Nat.min_eq_left hkl, ← hnm] at this
          go_wp2_with fail
          go_ret
          exact ⟨rfl, below_then hb5 hb6 (Nat.le_refl _)⟩
        · subst hk0
          refine (hnum g v w4 hsrc).mono ?_
          rintro e w5 ⟨rfl, v5, hv5, hs5⟩
          have hb5 := below_kept hb4 hs5.2 (fun k e => by omega)
          have hr1 : ((er : Int) != 0) = true := by rw [bne_iff_ne]; omega
          have hleft := left_any g v5 l w5 hs5.1
          clear hs5 hr0
          go_wp2_with (first
            | (go_at_call 26; refine hleft.mono ?_; rintro e w' ⟨rfl, hw'⟩; rw [hw']; clear hw')
            | fail)
          go_ret
          exact ⟨rfl, hb5⟩
end Go.Proofs.Ytokfenogiajcgaa
