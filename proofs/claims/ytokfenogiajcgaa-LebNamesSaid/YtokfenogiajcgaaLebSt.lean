/- The law LebStays, walked. -/
import Derived.Test.YtokfenogiajcgaaLebC
import Derived.WalkSmall
import Derived.Deep.DeepCutAuto
import Derived.Deep.CutBlock
namespace Go.Proofs.Ytokfenogiajcgaa
open Go.RowKit
attribute [local go_sem] Oper.semAt_some

theorem rawR_all (l : List UInt8) : rawR l (l.length : Int) = (0, l, []) := by
  have := rawR_app l []
  rwa [List.append_nil] at this
theorem rawR_err {l : List UInt8} {k : Int} (h : (rawR l k).1 ≠ 0) : (rawR l k).2.2 = l := by
  unfold rawR at h ⊢
  split
  · rfl
  · split
    · rfl
    · rename_i h1 h2
      rw [if_neg h1, if_neg h2] at h
      exact absurd rfl h
theorem bytesR_err {l : List UInt8} {k : Int} (h : (bytesR l k).1 ≠ 0) : (bytesR l k).2.2 = l := by
  unfold bytesR at h ⊢
  split
  · rfl
  · split
    · rfl
    · rename_i h1 h2
      rw [if_neg h1, if_neg h2] at h
      exact absurd h h2
theorem bytesR_few {l : List UInt8} {k : Int} (h : (bytesR l k).1 = 0) : ((bytesR l k).2.1.length : Int) ≤ max 0 k := by
  unfold bytesR at h ⊢
  split
  · simp only [List.length_nil]; omega
  · split
    · simp only [List.length_nil]; omega
    · rename_i h1 h2
      rw [if_neg h1, if_neg h2] at h
      have e1 : (readN l (max 0 k).toNat).2.1 = 0 := by simpa using h1
      have q : readN l (max 0 k).toNat = ((readN l (max 0 k).toNat).1, 0, (readN l (max 0 k).toNat).2.2) := by rw [← e1]
      obtain ⟨_, hle, _⟩ := readN_ok q
      unfold rawR at h ⊢
      split
      · simp only [List.length_nil]; omega
      · split
        · simp only [List.length_nil]; omega
        · simp only [List.length_take]
          omega
set_option maxRecDepth 100000 in
set_option maxHeartbeats 4000000 in
theorem lebStays_walk (A : Option Addr) (n c : Nat) (l : List UInt8) (most : Nat) (k : Int) (w : World) (hB : ByteRow w A n c l) (hm : most < 18446744073709551616) (hk : -9223372036854775808 ≤ k ∧ k ≤ 9223372036854775807) :
    Calls Try.prog 8 #[.slice A n c, .int .u64 (most : Int), .int .i64 k] w fun e w' => e = .returned (.bool true) ∧ Below w.heap.size w w' := by
  obtain ⟨rfl, hBc, hBm, hBr⟩ := hB
  obtain ⟨hk1, hk2⟩ := hk
  have hbn : (l.length : Int) ≤ 9223372036854775807 := by unfold maxLen at hBm; omega
  by_cases hn : l.length ≤ 200
  case neg =>
    have hn' : (200 : Int) < (l.length : Int) := by omega
    go_enter Try.func8, Try.ntmps8
    go_wp2_with fail
    refine (alive_any w).mono ?_
    rintro e w1 ⟨rfl, hb1⟩
    go_wp2_with fail
    go_ret
    exact ⟨rfl, hb1⟩
  have hn' : ¬ (200 : Int) < (l.length : Int) := by omega
  have hnum := fun g v W hS => srcnum_wide g most hm l v W hS
  have hok : ∀ n k, readN l most = (n, 0, k) → _ := fun n k h => readN_ok h
  have hno : (readN l most).2.1 ≠ 0 → (readN l most).2.2 = 0 := fun h => readN_zero h
  have htop := readN_top l most (by omega)
  generalize readN l most = RR at *
  obtain ⟨x, er, kk⟩ := RR
  simp only at hnum hok hno htop
  by_cases her : er = 0
  · subst her
    obtain ⟨q1, q2, _, q4, _, q6⟩ := hok x kk rfl
    have q2' : (x : Int) ≤ (most : Int) := by omega
    have hsize := fun W => size_any x W q6
    have hql : (numB x).length = kk := by rw [q1, List.length_take]; omega
    rw [hql] at hsize
    have hd : (l.length : Int) - (kk : Int) = ((l.length - kk : Nat) : Int) := by omega
    clear hok hno htop q1 hql
    go_enter Try.func8, Try.ntmps8
    go_wp2_with fail
    refine (alive_any w).mono ?_
    rintro e w1 ⟨rfl, hb1⟩
    go_wp2_with fail
    refine (from_any A l.length c l rfl (by omega) w1 (hBr.below hb1)).mono ?_
    rintro e w2 ⟨g, v, rfl, hg, hsrc, hb2, _⟩
    have hs1 := hb1.size
    replace hb2 := below_then hb1 hb2 (Nat.le_refl _)
    go_wp2_with fail
    refine (hnum g v w2 hsrc).mono ?_
    rintro e w3 ⟨rfl, v3, hv3, hs3⟩
    have hb3 := below_kept hb2 hs3.2 (fun k e => by omega)
    have hleft : Calls Try.prog 26 #[.pointer (some ⟨g, 0, none⟩)] w3 fun e w' => e = .returned (.int .i64 ((l.length - kk : Nat) : Int)) ∧ w' = w3 := by
      have := left_any g v3 (l.drop kk) w3 hs3.1
      rwa [List.length_drop] at this
    generalize l.length - kk = m at *
    clear hnum hsrc hs3
    go_wp2_with (first
      | (go_at_call 26; refine hleft.mono ?_; rintro e w' ⟨rfl, hw'⟩; rw [hw']; clear hw')
      | (go_at_call 14; refine (hsize _).mono ?_; rintro e w' ⟨rfl, hw'⟩; rw [hw']; clear hw')
      | fail)
    go_ret
    exact ⟨rfl, hb3⟩
  · obtain rfl := hno her
    have hnum2 := fun g v W hS => srcnum_wide g 18446744073709551615 (by omega) l v W hS
    generalize readN l 18446744073709551615 = TT at *
    obtain ⟨y, f, k2⟩ := TT
    simp only at hnum2 htop
    have hAB : (f = 0 ∧ er = 12 ∧ most < y) ∨ (f ≠ 0 ∧ er ≠ 12) := by
      rcases htop with ⟨hf, h⟩ | ⟨hf, hf2, h⟩
      · by_cases hmy : most < y
        · rw [if_pos hmy] at h
          cases h
          exact .inl ⟨hf, rfl, hmy⟩
        · rw [if_neg hmy] at h
          cases h
          exact absurd hf her
      · cases h
        exact .inr ⟨hf, hf2⟩
    have hbyt := fun g v W hS => sbytes_any g v l (by omega) k hk1 hk2 W hS
    have hberr : (bytesR l k).1 ≠ 0 → (bytesR l k).2.2 = l := fun h => bytesR_err h
    have hbfew : (bytesR l k).1 = 0 → ((bytesR l k).2.1.length : Int) ≤ max 0 k := fun h => bytesR_few h
    have hblen := bytesR_len l k
    generalize bytesR l k = BB at *
    obtain ⟨bg, x', rest⟩ := BB
    simp only at hbyt hberr hbfew hblen
    have he1 : ((er : Int) == 0) = false := by rw [beq_eq_false_iff_ne]; omega
    clear hok hno htop
    rcases hAB with ⟨rfl, rfl, hmy⟩ | ⟨hf, he12⟩
    · have hmy' : ¬ (y : Int) ≤ (most : Int) := by omega
      by_cases hbg : bg = 0
      · subst hbg
        have hbf := hbfew rfl
        clear hbfew hberr
        go_enter Try.func8, Try.ntmps8
        go_wp2_with fail
        refine (alive_any w).mono ?_
        rintro e w1 ⟨rfl, hb1⟩
        go_wp2_with fail
        refine (from_any A l.length c l rfl (by omega) w1 (hBr.below hb1)).mono ?_
        rintro e w2 ⟨g, v, rfl, hg, hsrc, hb2, _⟩
        have hs1 := hb1.size
        replace hb2 := below_then hb1 hb2 (Nat.le_refl _)
        go_wp2_with fail
        refine (hnum g v w2 hsrc).mono ?_
        rintro e w3 ⟨rfl, v3, hv3, hs3⟩
        have hb3 := below_kept hb2 hs3.2 (fun k e => by omega)
        have hleft := left_any g v3 l w3 hs3.1
        go_wp2_with (first
          | (go_at_call 26; refine hleft.mono ?_; rintro e w' ⟨rfl, hw'⟩; rw [hw']; clear hw')
          | fail)
        clear hleft hsrc
        refine (hnum2 g v3 w3 hs3.1).mono ?_
        rintro e w4 ⟨rfl, v4, hv4, hs4⟩
        have hb4 := below_kept hb3 hs4.2 (fun k e => by omega)
        clear hnum hnum2 hs3
        go_wp2_with fail
        refine (from_any A l.length c l rfl (by omega) w4 (hBr.below hb4)).mono ?_
        rintro e w5 ⟨t, u, rfl, ht, hsrc2, hb5, _⟩
        have hs4 := hb4.size
        replace hb5 := below_then hb4 hb5 (Nat.le_refl _)
        go_wp2_with fail
        refine (hbyt t u w5 hsrc2).mono ?_
        rintro e w6 ⟨ov, rfl, ⟨u6, hu6, hs6⟩, ho6⟩
        obtain ⟨A6, c6, rfl, _⟩ := RdC.of_own ho6
        have hb6 := below_kept hb5 hs6.2 (fun k e => by omega)
        have hleft := left_any t u6 rest w6 hs6.1
        have hraw := sraw_any t u6 rest (by omega) (rest.length : Int) (by omega) (by omega) w6 hs6.1
        rw [rawR_all] at hraw
        simp only at hraw
        clear hbyt hsrc2
        go_wp2_with (first
          | (go_at_call 26; refine hleft.mono ?_; rintro e w' ⟨rfl, hw'⟩; rw [hw']; clear hw')
          | fail)
        refine hraw.mono ?_
        rintro e w7 ⟨ov7, rfl, ⟨u7, hu7, hs7⟩, ho7⟩
        obtain ⟨A7, c7, rfl, _, _, hr7, _⟩ := RdC.of_own ho7
        have hb7 := below_kept hb6 hs7.2 (fun k e => by omega)
        have hend := end_any t u7 [] w7 hs7.1
        have hend0 : endE [] = 0 := rfl
        rw [hend0] at hend
        have k1 := run_string_of (P := Try.prog) w7 24 9 5 Try.underlying24 Try.underlying5 Try.underlying9 A7 rest c7 hr7
        have k2 := run_string_of (P := Try.prog) w7 24 9 5 Try.underlying24 Try.underlying5 Try.underlying9 A l c (hBr.below hb7)
        clear hraw hleft
        go_wp2_with (first
          | (go_at_call 27; refine hend.mono ?_; rintro e w' ⟨rfl, hw'⟩; rw [hw']; clear hw')
          | fail)
        go_ret
        exact ⟨rfl, hb7⟩
      · obtain rfl : l = rest := (hberr hbg).symm
        have hb1' : (bg == 0) = false := by simpa using hbg
        have hb2' : (bg != 0) = true := by simp [bne, hb1']
        clear hbfew hberr hbg
        go_enter Try.func8, Try.ntmps8
        go_wp2_with fail
        refine (alive_any w).mono ?_
        rintro e w1 ⟨rfl, hb1⟩
        go_wp2_with fail
        refine (from_any A l.length c l rfl (by omega) w1 (hBr.below hb1)).mono ?_
        rintro e w2 ⟨g, v, rfl, hg, hsrc, hb2, _⟩
        have hs1 := hb1.size
        replace hb2 := below_then hb1 hb2 (Nat.le_refl _)
        go_wp2_with fail
        refine (hnum g v w2 hsrc).mono ?_
        rintro e w3 ⟨rfl, v3, hv3, hs3⟩
        have hb3 := below_kept hb2 hs3.2 (fun k e => by omega)
        have hleft := left_any g v3 l w3 hs3.1
        go_wp2_with (first
          | (go_at_call 26; refine hleft.mono ?_; rintro e w' ⟨rfl, hw'⟩; rw [hw']; clear hw')
          | fail)
        clear hleft hsrc
        refine (hnum2 g v3 w3 hs3.1).mono ?_
        rintro e w4 ⟨rfl, v4, hv4, hs4⟩
        have hb4 := below_kept hb3 hs4.2 (fun k e => by omega)
        clear hnum hnum2 hs3
        go_wp2_with fail
        refine (from_any A l.length c l rfl (by omega) w4 (hBr.below hb4)).mono ?_
        rintro e w5 ⟨t, u, rfl, ht, hsrc2, hb5, _⟩
        have hs4 := hb4.size
        replace hb5 := below_then hb4 hb5 (Nat.le_refl _)
        go_wp2_with fail
        refine (hbyt t u w5 hsrc2).mono ?_
        rintro e w6 ⟨ov, rfl, ⟨u6, hu6, hs6⟩, ho6⟩
        obtain ⟨A6, c6, rfl, _⟩ := RdC.of_own ho6
        have hb6 := below_kept hb5 hs6.2 (fun k e => by omega)
        have hleft := left_any t u6 l w6 hs6.1
        have hraw := sraw_any t u6 l (by omega) (l.length : Int) (by omega) (by omega) w6 hs6.1
        rw [rawR_all] at hraw
        simp only at hraw
        clear hbyt hsrc2
        go_wp2_with (first
          | (go_at_call 26; refine hleft.mono ?_; rintro e w' ⟨rfl, hw'⟩; rw [hw']; clear hw')
          | fail)
        refine hraw.mono ?_
        rintro e w7 ⟨ov7, rfl, ⟨u7, hu7, hs7⟩, ho7⟩
        obtain ⟨A7, c7, rfl, _, _, hr7, _⟩ := RdC.of_own ho7
        have hb7 := below_kept hb6 hs7.2 (fun k e => by omega)
        have hend := end_any t u7 [] w7 hs7.1
        have hend0 : endE [] = 0 := rfl
        rw [hend0] at hend
        have k1 := run_string_of (P := Try.prog) w7 24 9 5 Try.underlying24 Try.underlying5 Try.underlying9 A7 l c7 hr7
        have k2 := run_string_of (P := Try.prog) w7 24 9 5 Try.underlying24 Try.underlying5 Try.underlying9 A l c (hBr.below hb7)
        clear hraw hleft
        go_wp2_with (first
          | (go_at_call 27; refine hend.mono ?_; rintro e w' ⟨rfl, hw'⟩; rw [hw']; clear hw')
          | fail)
        go_ret
        exact ⟨rfl, hb7⟩
    · have hf1 : ((f : Int) == 0) = false := by rw [beq_eq_false_iff_ne]; omega
      have he2 : ((er : Int) == 12) = false := by rw [beq_eq_false_iff_ne]; omega
      by_cases hbg : bg = 0
      · subst hbg
        have hbf := hbfew rfl
        clear hbfew hberr
        go_enter Try.func8, Try.ntmps8
        go_wp2_with fail
        refine (alive_any w).mono ?_
        rintro e w1 ⟨rfl, hb1⟩
        go_wp2_with fail
        refine (from_any A l.length c l rfl (by omega) w1 (hBr.below hb1)).mono ?_
        rintro e w2 ⟨g, v, rfl, hg, hsrc, hb2, _⟩
        have hs1 := hb1.size
        replace hb2 := below_then hb1 hb2 (Nat.le_refl _)
        go_wp2_with fail
        refine (hnum g v w2 hsrc).mono ?_
        rintro e w3 ⟨rfl, v3, hv3, hs3⟩
        have hb3 := below_kept hb2 hs3.2 (fun k e => by omega)
        have hleft := left_any g v3 l w3 hs3.1
        go_wp2_with (first
          | (go_at_call 26; refine hleft.mono ?_; rintro e w' ⟨rfl, hw'⟩; rw [hw']; clear hw')
          | fail)
        clear hleft hsrc
        refine (hnum2 g v3 w3 hs3.1).mono ?_
        rintro e w4 ⟨rfl, v4, hv4, hs4⟩
        have hb4 := below_kept hb3 hs4.2 (fun k e => by omega)
        clear hnum hnum2 hs3
        go_wp2_with fail
        refine (from_any A l.length c l rfl (by omega) w4 (hBr.below hb4)).mono ?_
        rintro e w5 ⟨t, u, rfl, ht, hsrc2, hb5, _⟩
        have hs4 := hb4.size
        replace hb5 := below_then hb4 hb5 (Nat.le_refl _)
        go_wp2_with fail
        refine (hbyt t u w5 hsrc2).mono ?_
        rintro e w6 ⟨ov, rfl, ⟨u6, hu6, hs6⟩, ho6⟩
        obtain ⟨A6, c6, rfl, _⟩ := RdC.of_own ho6
        have hb6 := below_kept hb5 hs6.2 (fun k e => by omega)
        have hleft := left_any t u6 rest w6 hs6.1
        have hraw := sraw_any t u6 rest (by omega) (rest.length : Int) (by omega) (by omega) w6 hs6.1
        rw [rawR_all] at hraw
        simp only at hraw
        clear hbyt hsrc2
        go_wp2_with (first
          | (go_at_call 26; refine hleft.mono ?_; rintro e w' ⟨rfl, hw'⟩; rw [hw']; clear hw')
          | fail)
        refine hraw.mono ?_
        rintro e w7 ⟨ov7, rfl, ⟨u7, hu7, hs7⟩, ho7⟩
        obtain ⟨A7, c7, rfl, _, _, hr7, _⟩ := RdC.of_own ho7
        have hb7 := below_kept hb6 hs7.2 (fun k e => by omega)
        have hend := end_any t u7 [] w7 hs7.1
        have hend0 : endE [] = 0 := rfl
        rw [hend0] at hend
        have k1 := run_string_of (P := Try.prog) w7 24 9 5 Try.underlying24 Try.underlying5 Try.underlying9 A7 rest c7 hr7
        have k2 := run_string_of (P := Try.prog) w7 24 9 5 Try.underlying24 Try.underlying5 Try.underlying9 A l c (hBr.below hb7)
        clear hraw hleft
        go_wp2_with (first
          | (go_at_call 27; refine hend.mono ?_; rintro e w' ⟨rfl, hw'⟩; rw [hw']; clear hw')
          | fail)
        go_ret
        exact ⟨rfl, hb7⟩
      · obtain rfl : l = rest := (hberr hbg).symm
        have hb1' : (bg == 0) = false := by simpa using hbg
        have hb2' : (bg != 0) = true := by simp [bne, hb1']
        clear hbfew hberr hbg
        go_enter Try.func8, Try.ntmps8
        go_wp2_with fail
        refine (alive_any w).mono ?_
        rintro e w1 ⟨rfl, hb1⟩
        go_wp2_with fail
        refine (from_any A l.length c l rfl (by omega) w1 (hBr.below hb1)).mono ?_
        rintro e w2 ⟨g, v, rfl, hg, hsrc, hb2, _⟩
        have hs1 := hb1.size
        replace hb2 := below_then hb1 hb2 (Nat.le_refl _)
        go_wp2_with fail
        refine (hnum g v w2 hsrc).mono ?_
        rintro e w3 ⟨rfl, v3, hv3, hs3⟩
        have hb3 := below_kept hb2 hs3.2 (fun k e => by omega)
        have hleft := left_any g v3 l w3 hs3.1
        go_wp2_with (first
          | (go_at_call 26; refine hleft.mono ?_; rintro e w' ⟨rfl, hw'⟩; rw [hw']; clear hw')
          | fail)
        clear hleft hsrc
        refine (hnum2 g v3 w3 hs3.1).mono ?_
        rintro e w4 ⟨rfl, v4, hv4, hs4⟩
        have hb4 := below_kept hb3 hs4.2 (fun k e => by omega)
        clear hnum hnum2 hs3
        go_wp2_with fail
        refine (from_any A l.length c l rfl (by omega) w4 (hBr.below hb4)).mono ?_
        rintro e w5 ⟨t, u, rfl, ht, hsrc2, hb5, _⟩
        have hs4 := hb4.size
        replace hb5 := below_then hb4 hb5 (Nat.le_refl _)
        go_wp2_with fail
        refine (hbyt t u w5 hsrc2).mono ?_
        rintro e w6 ⟨ov, rfl, ⟨u6, hu6, hs6⟩, ho6⟩
        obtain ⟨A6, c6, rfl, _⟩ := RdC.of_own ho6
        have hb6 := below_kept hb5 hs6.2 (fun k e => by omega)
        have hleft := left_any t u6 l w6 hs6.1
        have hraw := sraw_any t u6 l (by omega) (l.length : Int) (by omega) (by omega) w6 hs6.1
        rw [rawR_all] at hraw
        simp only at hraw
        clear hbyt hsrc2
        go_wp2_with (first
          | (go_at_call 26; refine hleft.mono ?_; rintro e w' ⟨rfl, hw'⟩; rw [hw']; clear hw')
          | fail)
        refine hraw.mono ?_
        rintro e w7 ⟨ov7, rfl, ⟨u7, hu7, hs7⟩, ho7⟩
        obtain ⟨A7, c7, rfl, _, _, hr7, _⟩ := RdC.of_own ho7
        have hb7 := below_kept hb6 hs7.2 (fun k e => by omega)
        have hend := end_any t u7 [] w7 hs7.1
        have hend0 : endE [] = 0 := rfl
        rw [hend0] at hend
        have k1 := run_string_of (P := Try.prog) w7 24 9 5 Try.underlying24 Try.underlying5 Try.underlying9 A7 l c7 hr7
        have k2 := run_string_of (P := Try.prog) w7 24 9 5 Try.underlying24 Try.underlying5 Try.underlying9 A l c (hBr.below hb7)
        clear hraw hleft
        go_wp2_with (first
          | (go_at_call 27; refine hend.mono ?_; rintro e w' ⟨rfl, hw'⟩; rw [hw']; clear hw')
          | fail)
        go_ret
        exact ⟨rfl, hb7⟩
end Go.Proofs.Ytokfenogiajcgaa
