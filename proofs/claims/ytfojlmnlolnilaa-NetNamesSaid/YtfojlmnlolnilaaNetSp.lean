/- The law NetSpoils, walked. -/
import Derived.Test.YtfojlmnlolnilaaNetR
import Derived.Test.YtfojlmnlolnilaaNetGc
import Derived.Deep.QuietTactic
import Derived.BigQuiet
namespace Go.Proofs.Ytfojlmnlolnilaa
open Go.RowKit
attribute [local go_sem] Oper.semAt_some

theorem spoilL_cut (l : List UInt8) (x : Int) (m : Nat) (h : l ≠ []) : spoilL l true x m = l.take (spP l.length x) := by unfold spoilL; rw [if_neg h]; rfl
theorem spoilL_x (l : List UInt8) (x : Int) (m : Nat) (h : l ≠ []) : spoilL l false x m = spK l (spP l.length x) m 4 := by unfold spoilL; rw [if_neg h]; rfl
theorem spoilL_x_length (l : List UInt8) (x : Int) (m : Nat) : (spoilL l false x m).length = l.length := by
  by_cases h : l = []
  · subst h; rfl
  · rw [spoilL_x l x m h, spK_length]
theorem spoilL_twice (l : List UInt8) (x : Int) (m : Nat) : spoilL (spoilL l false x m) false x m = l := by
  by_cases h : l = []
  · subst h; rfl
  · have h2 : spK l (spP l.length x) m 4 ≠ [] := fun e => h (List.length_eq_zero_iff.1 (by rw [← spK_length l (spP l.length x) m 4, e]; rfl))
    rw [spoilL_x l x m h, spoilL_x _ x m h2, spK_length]
    apply List.ext_getElem (by rw [spK_length, spK_length])
    intro i h1 h3
    rw [spK_get _ _ _ _ _ (by rw [spK_length]; exact h3), spK_get _ _ _ _ _ h3]
    split
    · rw [UInt8.xor_assoc, UInt8.xor_self, UInt8.xor_zero]
    · rfl
theorem spoilL_near (l : List UInt8) (x : Int) (m : Nat) (i : Nat) (hi : i < l.length) (hd : (spoilL l false x m)[i]'(by rw [spoilL_x_length]; exact hi) ≠ l[i]) : spP l.length x ≤ i ∧ i < spP l.length x + 4 := by
  have h : l ≠ [] := fun e => by subst e; cases hi
  by_cases hn : spP l.length x ≤ i ∧ i < spP l.length x + 4
  · exact hn
  · exfalso
    apply hd
    simp only [spoilL_x l x m h]
    rw [spK_get _ _ _ _ _ hi, if_neg hn]
theorem str_rd {W : World} {A : Option Addr} {n c : Nat} {l : List UInt8} (h : RdC W A (u8v l)) (hl : l.length = n) : (convert 22 9 (.slice A n c)).run Try.prog W = .ok (.string (bstr l)) W := by
  subst hl
  exact run_string_of (P := Try.prog) W 22 9 5 Try.underlying22 Try.underlying5 Try.underlying9 A l c h
set_option maxRecDepth 100000 in
set_option maxHeartbeats 8000000 in
theorem netSpoils_walk (A : Option Addr) (n c : Nat) (l : List UInt8) (cut : Bool) (x : Int) (m : Nat) (w : World) (hrow : ByteRow w A n c l) (hx : -9223372036854775808 ≤ x ∧ x ≤ 9223372036854775807) (hm : m < 4294967296) :
    Calls Try.prog 3 #[.slice A n c, .agg #[.bool cut, .int .i64 x, .int .u32 m]] w fun e w' => e = .returned (.bool true) ∧ Below w.heap.size w w' := by
  obtain ⟨hl, hnc, hcm, hr⟩ := hrow
  obtain ⟨hx1, hx2⟩ := hx
  have hcmi : (c : Int) ≤ 9223372036854775807 := by unfold maxLen at hcm; omega
  obtain ⟨w1, hw1⟩ : ∃ w1, w1 = w.alloc (.cells #[.bool cut, .int .i64 x, .int .u32 m] 25) := ⟨_, rfl⟩
  have hb1 : Below w.heap.size w w1 := by rw [hw1]; exact (Below.refl _ _).alloc (Nat.le_refl _) _
  have h1 : w1.heap[w.heap.size]? = some (.cells #[.bool cut, .int .i64 x, .int .u32 m] 25 (0, 0)) := by rw [hw1]; exact heap_alloc_new _ _
  have hz1 := lt_get h1
  have hal := alive_any w1
  by_cases h300 : 300 < n
  · have h300i : (300 : Int) < (n : Int) := by omega
    go_enter Try.func3, Try.ntmps3
    go_wp2_with fail
    rw [← hw1]
    clear hw1
    refine hal.mono ?_
    rintro e w2 ⟨rfl, hb2⟩
    go_wp2_with fail
    go_ret
    exact ⟨rfl, below_then hb1 hb2 (Nat.le_refl _)⟩
  obtain ⟨L, hL⟩ : ∃ L, spoilL l cut x m = L := ⟨_, rfl⟩
  obtain ⟨k, hk⟩ : ∃ k, L.length = k := ⟨_, rfl⟩
  have h300i : ¬ (300 : Int) < (n : Int) := by omega
  have hsp := fun W hrW => spoilt_n A n c l hl (by omega) cut x m hx1 hx2 hm W hrW L k hL hk
  cases cut with
  | true =>
    have hkl : (n = 0 ∧ k = 0 ∧ L = l.take k) ∨ (0 < n ∧ k < n ∧ L = l.take k) := by
      by_cases h0 : l = []
      · subst h0
        obtain rfl : [] = L := hL
        exact .inl ⟨hl.symm, hk.symm, by simp⟩
      · have hn0 : 0 < n := by rw [← hl]; exact List.length_pos_iff.2 h0
        rw [spoilL_cut l x m h0, hl] at hL
        have hp := spP_lt x n hn0
        have : k = spP n x := by rw [← hk, ← hL, List.length_take]; omega
        subst this
        exact .inr ⟨hn0, hp, hL.symm⟩
    have hkn : k ≤ n := by rcases hkl with h | h <;> omega
    have hLt : L = l.take k := by rcases hkl with h | h <;> exact h.2.2
    go_enter Try.func3, Try.ntmps3
    go_wp2_with fail
    rw [← hw1]
    clear hw1
    refine hal.mono ?_
    rintro e w2 ⟨rfl, hb2⟩
    have h2 := (hb2.block _ hz1).trans h1
    have hb02 := below_then hb1 hb2 (Nat.le_refl _)
    have c0 : w2.cell? ⟨w.heap.size, 0, none⟩ = some (.bool true) := by rw [cell_of_row _ _ _ _ _ _ h2]; rfl
    have c1 : w2.cell? ⟨w.heap.size, 1, none⟩ = some (.int .i64 x) := by rw [cell_of_row _ _ _ _ _ _ h2]; rfl
    have c3 : w2.cell? ⟨w.heap.size, 2, none⟩ = some (.int .u32 m) := by rw [cell_of_row _ _ _ _ _ _ h2]; rfl
    clear hal
    go_wp2_with fail
    refine (hsp w2 (hr.below hb02)).mono ?_
    rintro e w3 ⟨A6, c6, rfl, ho, hb3⟩
    have hb03 := below_then hb02 hb3 (Nat.le_refl _)
    have h3 := (hb3.block _ (lt_get h2)).trans h2
    clear c0 c1 c3
    have c0 : w3.cell? ⟨w.heap.size, 0, none⟩ = some (.bool true) := by rw [cell_of_row _ _ _ _ _ _ h3]; rfl
    have hr3 := hr.below hb03
    have hro : RdC w3 A6 (u8v L) := by
      obtain ⟨A', c', e, _, _, hr', _⟩ := RdC.of_own ho
      have e1 : A6 = A' := by injection e
      rw [e1]; exact hr'
    have s1 : ∀ j, (convert 22 9 (.slice A6 k c6)).run Try.prog (w3.drewN j) = .ok (.string (bstr L)) (w3.drewN j) := fun j => str_rd (hro.drewN j) hk
    have s2 : ∀ W : World, (Instr.slice 22 (.slice A n c) none (some (.int .i64 (k : Int))) none).run Try.prog W = .ok (.slice A k c) W := fun W => run_sub_h (P := Try.prog) W 22 A n c 1 Try.underlying22 (Try.sizeOf5 W) _ k rfl (by omega)
    have s3 : ∀ j, (convert 22 9 (.slice A k c)).run Try.prog (w3.drewN j) = .ok (.string (bstr L)) (w3.drewN j) := fun j => str_rd (by rw [hLt, ← u8v_take]; exact (hr3.drewN j).take _) hk
    have hkni : (k : Int) ≤ (n : Int) := by omega
    rcases hkl with ⟨h0, -, -⟩ | ⟨h0, hlt, -⟩
    · have h00 : ((n : Int) == 0) = true := by rw [beq_iff_eq]; omega
      clear hsp hL hLt h0
      go_upto_region 6 with fail
      go_quiet (fail)
      go_wp2_with fail
      go_ret
      exact ⟨rfl, below_then hb03 (below_drewN _ _) (Nat.le_refl _)⟩
    · have h00 : ((n : Int) == 0) = false := by rw [beq_eq_false_iff_ne]; omega
      have hlti : (k : Int) < (n : Int) := by omega
      clear hsp hL hLt
      go_upto_region 6 with fail
      go_quiet (fail)
      go_wp2_with fail
      go_ret
      exact ⟨rfl, below_then hb03 (below_drewN _ _) (Nat.le_refl _)⟩
  | false =>
    have hkn : k = n := by rw [← hk, ← hL, spoilL_x_length, hl]
    subst hkn
    have htw : spoilL L false x m = l := by rw [← hL]; exact spoilL_twice l x m
    obtain ⟨p, hp⟩ : ∃ p, spP l.length x = p := ⟨_, rfl⟩
    have hnear : ∀ i (hi : i < l.length) (hi2 : i < L.length), L[i] ≠ l[i] → p ≤ i ∧ i < p + 4 := fun i hi hi2 hd => by
      subst hL hp
      exact spoilL_near l x m i hi hd
    clear hL hp
    go_enter Try.func3, Try.ntmps3
    go_wp2_with fail
    rw [← hw1]
    clear hw1
    refine hal.mono ?_
    rintro e w2 ⟨rfl, hb2⟩
    have h2 := (hb2.block _ hz1).trans h1
    have hb02 := below_then hb1 hb2 (Nat.le_refl _)
    have c0 : w2.cell? ⟨w.heap.size, 0, none⟩ = some (.bool false) := by rw [cell_of_row _ _ _ _ _ _ h2]; rfl
    have c1 : w2.cell? ⟨w.heap.size, 1, none⟩ = some (.int .i64 x) := by rw [cell_of_row _ _ _ _ _ _ h2]; rfl
    have c3 : w2.cell? ⟨w.heap.size, 2, none⟩ = some (.int .u32 m) := by rw [cell_of_row _ _ _ _ _ _ h2]; rfl
    clear hal
    go_wp2_with fail
    refine (hsp w2 (hr.below hb02)).mono ?_
    rintro e w3 ⟨A6, c6, rfl, ho, hb3⟩
    have hb03 := below_then hb02 hb3 (Nat.le_refl _)
    have h3 := (hb3.block _ (lt_get h2)).trans h2
    clear c0 c1 c3 hsp
    have c0 : w3.cell? ⟨w.heap.size, 0, none⟩ = some (.bool false) := by rw [cell_of_row _ _ _ _ _ _ h3]; rfl
    have hr3 := hr.below hb03
    have hc6 : (k : Int) ≤ 9223372036854775807 := by omega
    have hro : RdC w3 A6 (u8v L) := by
      obtain ⟨A', c', e, _, _, hr', _⟩ := RdC.of_own ho
      have e1 : A6 = A' := by injection e
      rw [e1]; exact hr'
    clear ho h1 h2 hb02 hb2 hb3
    go_wp2_with fail
    go_loopw [7, 8, 61] (fun f t i wr => ∃ q : Nat, q ≤ k ∧ i = .int .i64 q ∧ ∃ ff tt : Int, f = .int .i64 ff ∧ t = .int .i64 tt ∧ ((ff = -1 ∧ tt = -1) ∨ ((p : Int) ≤ ff ∧ ff ≤ tt ∧ tt < p + 4 ∧ tt < q)) ∧ Below w3.heap.size w3 wr) (fun _ _ i _ => k - (intOf i).toNat)
    case atStart => exact ⟨0, by omega, rfl, -1, -1, rfl, rfl, .inl ⟨rfl, rfl⟩, Below.refl _ _⟩
    case round =>
      obtain ⟨q, hq, rfl, ff, tt, rfl, rfl, hft, hbr⟩ := hrel
      by_cases hqk : q < k
      · obtain ⟨ad, rfl, hcA⟩ := cell_of_rd (hr3.below hbr) q (by omega)
        obtain ⟨ad6, rfl, hcB⟩ := cell_of_rd (hro.below hbr) q (by omega)
        have hwq : IntKind.i64.wrap ((q : Int) + 1) = (q : Int) + 1 := IntWalk.i64_in _ (by omega)
        by_cases hd : L[q] = l[q]
        · rw [hd] at hcB
          generalize l[q] = b at *
          clear hd
          go_wp2_with fail
          go_quiet (fail)
          go_wp2_with fail
          refine ⟨⟨q + 1, by omega, rfl, ff, tt, rfl, rfl, ?_, below_then hbr (below_drewN _ _) (Nat.le_refl _)⟩, by simp [intOf]; omega⟩
          rcases hft with h | h
          · exact .inl h
          · exact .inr ⟨h.1, h.2.1, h.2.2.1, by omega⟩
        · have hn := hnear q (by omega) (by omega) hd
          have hnb : ((l[q].toNat : Int) != (L[q].toNat : Int)) = true := by
            rw [bne_iff_ne]
            intro e
            exact hd (UInt8.toNat_inj.1 (by omega)).symm
          generalize l[q] = b at *
          generalize L[q] = b2 at *
          clear hd
          rcases hft with ⟨rfl, rfl⟩ | ⟨g1, g2, g3, g4⟩
          · go_wp2_with fail
            go_quiet (fail)
            go_wp2_with fail
            exact ⟨⟨q + 1, by omega, rfl, q, q, rfl, rfl, .inr (by omega), below_then hbr (below_drewN _ _) (Nat.le_refl _)⟩, by simp [intOf]; omega⟩
          · have hff : ¬ ff < 0 := by omega
            go_wp2_with fail
            go_quiet (fail)
            go_wp2_with fail
            exact ⟨⟨q + 1, by omega, rfl, ff, q, rfl, rfl, .inr (by omega), below_then hbr (below_drewN _ _) (Nat.le_refl _)⟩, by simp [intOf]; omega⟩
      · obtain rfl : q = k := by omega
        go_upto_region 18 with fail
        have hsp2 : ∀ W, Below wr.heap.size wr W → Calls Try.prog 10 #[.slice A6 q c6, .agg #[.bool false, .int .i64 x, .int .u32 (m : Int)]] W fun e w' => ∃ A_ c_, e = .returned (.slice A_ q c_) ∧ RdC w' A_ (u8v l) ∧ Below W.heap.size W w' := fun W hb => by
          refine (spoilt_n A6 q c6 L hk (by omega) false x m hx1 hx2 hm W ((hro.below hbr).below hb) l q htw hl).mono ?_
          rintro e w' ⟨A2, c2, rfl, ho2, hb2⟩
          refine ⟨A2, c2, rfl, ?_, hb2⟩
          obtain ⟨A', c', e, _, _, hr', _⟩ := RdC.of_own ho2
          have e1 : A2 = A' := by injection e
          rw [e1]; exact hr'
        have hz3 := lt_get h3
        have hM : ∀ W, Below wr.heap.size wr W → W.heap[w.heap.size]? = some (.cells #[.bool false, .int .i64 x, .int .u32 (m : Int)] 25 (0, 0)) := fun W hb => ((below_then hbr hb (Nat.le_refl _)).block _ hz3).trans h3
        have hb4 := below_then hb03 hbr (Nat.le_refl _)
        rcases hft with ⟨rfl, rfl⟩ | ⟨g1, g2, g3, g4⟩
        · refine nsp_a w.heap.size q c c6 A A6 x (-1) (-1) m (bstr l) l wr (by decide) hsp2 (fun W A_ c_ h => str_rd h hl) (fun W hb => str_rd ((hr3.below hbr).below hb) hl) hM fun w5 r92 hb5 => ?_
          go_wp2_with fail
          go_ret
          exact ⟨rfl, below_then hb4 hb5 (Nat.le_refl _)⟩
        · refine nsp_b w.heap.size q c c6 A A6 x ff tt m (bstr l) l wr (decide_eq_false (by omega)) (IntWalk.i64_in _ (by omega)) (decide_eq_true (by omega)) hsp2 (fun W A_ c_ h => str_rd h hl) (fun W hb => str_rd ((hr3.below hbr).below hb) hl) hM fun w5 r92 hb5 => ?_
          go_wp2_with fail
          go_ret
          exact ⟨rfl, below_then hb4 hb5 (Nat.le_refl _)⟩
end Go.Proofs.Ytfojlmnlolnilaa
