/- The law SumStream, walked. -/
import Derived.Test.YtnpdbnphoifjlaaSumE
import Derived.Test.YtnpdbnphoifjlaaSumS
namespace Go.Proofs.Ytnpdbnphoifjlaa
open Go.RowKit

def streamB (L : List SlB) : List UInt8 := (L.map fun s => wrapB s.l).flatten
theorem streamB_snoc (L : List SlB) (k : Nat) (h : k < L.length) : streamB (L.take (k + 1)) = streamB (L.take k) ++ wrapB L[k].l := by
  unfold streamB
  rw [List.take_succ_eq_append_getElem h, List.map_append, List.flatten_append]
  simp
theorem streamB_drop (L : List SlB) (k : Nat) (h : k < L.length) : streamB (L.drop k) = wrapB L[k].l ++ streamB (L.drop (k + 1)) := by
  unfold streamB
  rw [List.drop_eq_getElem_cons h, List.map_cons, List.flatten_cons]
set_option maxHeartbeats 4000000 in
theorem sumStream_walk (A0 : Option Addr) (n0 c0 : Nat) (L : List SlB) (A1 : Option Addr) (n1 c1 : Nat) (l1 : List UInt8) (w : World)
    (h0 : L.length = n0 ∧ n0 ≤ c0 ∧ c0 ≤ maxLen ∧ RdC w A0 (L.map SlB.val) ∧ ∀ s ∈ L, ByteRow w s.A s.n s.c s.l) (h1 : ByteRow w A1 n1 c1 l1) :
    Calls Try.prog 5 #[.slice A0 n0 c0, .slice A1 n1 c1] w fun e w' => e = .returned (.bool true) ∧ Below w.heap.size w w' := by
  obtain ⟨hl0, hc0, hm0, hr0, hs0⟩ := h0
  obtain ⟨hl1, hc1, hm1, hr1⟩ := h1
  have HL0 := Lib.hid hl0
  have HL1 := Lib.hid hl1
  clear hl0 hl1
  go_enter Try.func5, Try.ntmps5
  go_wp2_with fail
  refine (alive_any w).mono ?_
  rintro e wa ⟨rfl, hba⟩
  have hr0 := hr0.below hba
  have hr1 := hr1.below hba
  have hs0 : ∀ s ∈ L, ByteRow wa s.A s.n s.c s.l := fun s hs => ⟨(hs0 s hs).1, (hs0 s hs).2.1, (hs0 s hs).2.2.1, (hs0 s hs).2.2.2.below hba⟩
  have hza := hba.size
  by_cases hA : 20 < n0
  · go_wp2_with fail
    go_ret
    exact ⟨rfl, hba⟩
  by_cases hB : 300 < n1
  · go_wp2_with fail
    go_ret
    exact ⟨rfl, hba⟩
  go_wp2_with fail
  go_loopw [6, 33] (fun all i wr => ∃ k : Nat, k ≤ n0 ∧ i = .int .i64 k ∧ ∃ m : Nat, Hid (m = (streamB (L.take k)).length) ∧ m ≤ 308 * k ∧ wr.ownsRow wa.heap.size 5 1 all m (u8v (streamB (L.take k))) ∧ Below wa.heap.size wa wr ∧ ∀ s ∈ L.take k, s.l.length ≤ 300) (fun _ i _ => n0 - (intOf i).toNat)
  case atStart => exact ⟨0, by omega, rfl, 0, by show _ = _; simp [streamB], by omega, ⟨by simp [streamB, u8v], .inl ⟨rfl, rfl⟩⟩, Below.refl _ _, by simp⟩
  case round =>
    obtain ⟨k, hk, rfl, m, hm, hm2, hown, hb, hall⟩ := hrel
    have hr0' := hr0.below hb
    have hr1' := hr1.below hb
    have hzb := hb.size
    by_cases hlt : k < n0
    · have hkL : k < L.length := by rw [HL0.out]; exact hlt
      obtain ⟨ad, rfl, hc⟩ := hr0' k (L[k].val) (by simp [hkL])
      obtain ⟨b, hbb⟩ : ∃ b, b = L[k] := ⟨_, rfl⟩
      have hbo : ByteRow wa b.A b.n b.c b.l := hs0 b (by rw [hbb]; exact List.getElem_mem _)
      rw [← hbb] at hc
      have hB : Hid (b = L[k]) := hbb
      clear hbb
      obtain ⟨bA, bn, bc, bl⟩ := b
      obtain ⟨hbl, hbc, hbm, hbr⟩ := hbo
      have hbr2 := hbr.below hb
      simp only [SlB.val] at hc hbr2 hbl hbc hbm
      subst hbl
      by_cases hbig : 4194304 < bl.length
      · go_wp2_with fail
        refine (wrap_most bA bl.length bc wr hbig).mono ?_
        rintro e w' ⟨rfl, rfl⟩
        go_wp2_with fail
        go_ret
        exact ⟨rfl, below_then hba hb (Nat.le_refl _)⟩
      go_wp2_with fail
      refine (wrap_any bA bc bl wr hbr2 (by omega)).mono ?_
      rintro e w2 ⟨⟨v, rfl, hfr⟩, hb2⟩
      have hown2 := own_below hown hb2
      have hbw2 := below_then hb hb2 (by omega)
      obtain ⟨vA, vc, rfl, hvc, hvm, hvr, hvB⟩ := hfr
      rw [wrapB_length] at *
      clear hvB
      by_cases h300 : 300 < bl.length
      · go_wp2_with fail
        go_ret
        exact ⟨rfl, below_then hba hbw2 (Nat.le_refl _)⟩
      have hz2 := hbw2.size
      go_wp2_with (at_builtin; refine wpList_app elt8 rfl (.tmp 55) (.tmp 56) rfl wa.heap.size _ m _ rfl hown2 vA (bl.length + 8) vc (u8v (wrapB bl)) rfl ?_ hvr (u8v_one _) ?_ ?_ hz2 ?_)
      case refine_1 => rw [u8v_length, wrapB_length]; simp
      case refine_2 => unfold maxLen; omega
      case refine_3 => omega
      intro v' w3 ho hg
      have hb3 := below_grown hbw2 hown2 hg hz2 (Nat.le_refl _)
      go_wp2_with fail
      go_roundw
      case rel => 
        refine ⟨k + 1, by omega, by go_num, m + (bl.length + 8), ?_, by omega, ?_, hb3, ?_⟩
        · show _ = _
          rw [streamB_snoc L k hkL, List.length_append, ← hm.out, ← hB.out, wrapB_length]
        · rw [streamB_snoc L k hkL, ← hB.out, u8v_append]
          exact ho
        · intro s hs
          rw [List.take_succ_eq_append_getElem hkL] at hs
          rcases List.mem_append.1 hs with hs | hs
          · exact hall s hs
          · simp only [List.mem_singleton] at hs
            rw [hs, ← hB.out]
            show bl.length ≤ 300
            omega
      case measure => simp [intOf]; omega
    · obtain rfl : k = n0 := by omega
      have HK : Hid (L.take k = L) := by show _ = _; rw [← HL0.out, List.take_length]
      have hown' := hown
      rw [HK.out] at hown'
      have hm' : Hid (m = (streamB L).length) := by have := hm.out; rwa [HK.out] at this
      have hall' : ∀ s ∈ L, s.l.length ≤ 300 := by have := hall; rwa [HK.out] at this
      clear hown hm hall HK
      go_wp2_with (at_builtin; refine wpList_app elt8 rfl (.tmp 59) (.tmp 60) rfl wa.heap.size _ m _ rfl hown' A1 n1 c1 (u8v l1) rfl ?_ hr1' (u8v_one _) ?_ ?_ hzb ?_)
      case refine_1 => rw [u8v_length, HL1.out]; simp
      case refine_2 => unfold maxLen; omega
      case refine_3 => omega
      intro v' w3 ho hg
      have hb3 := below_grown hb hown' hg hzb (Nat.le_refl _)
      obtain ⟨A3, c3, rfl, hc3, hm3, hr3, hB3⟩ := RdC.of_own ho
      clear hB3 ho hg hown'
      rw [← u8v_append] at hr3
      have hr0'' := hr0.below hb3
      have hr1'' := hr1.below hb3
      have hs3 : ∀ s ∈ L, ByteRow w3 s.A s.n s.c s.l := fun s hs => ⟨(hs0 s hs).1, (hs0 s hs).2.1, (hs0 s hs).2.2.1, (hs0 s hs).2.2.2.below hb3⟩
      have hbw3 := below_then hba hb3 (Nat.le_refl _)
      have hz3 := hbw3.size
      clear hr1' hr1 hr0' hr0 hb hb3 hs0
      go_wp2_with fail
      go_loopw [11, 64] (fun rest i wr => ∃ j : Nat, j ≤ k ∧ i = .int .i64 j ∧ ∃ Ar nr cr, rest = .slice Ar nr cr ∧ Hid ((streamB (L.drop j) ++ l1).length = nr) ∧ nr ≤ 10000 ∧ nr ≤ cr ∧ RdC wr Ar (u8v (streamB (L.drop j) ++ l1)) ∧ Below w3.heap.size w3 wr) (fun _ i _ => k - (intOf i).toNat)
      case atStart => exact ⟨0, by omega, rfl, A3, m + n1, c3, rfl, by show _ = _; rw [List.drop_zero, List.length_append, ← hm'.out, HL1.out], by omega, hc3, by rw [List.drop_zero]; exact hr3, Below.refl _ _⟩
      case round =>
        obtain ⟨j, hj, rfl, Ar, nr, cr, rfl, hnr, hnr2, hcr, hrr, hbq⟩ := hrel
        have hr0q := hr0''.below hbq
        have hr1q := hr1''.below hbq
        by_cases hlt2 : j < k
        · have hkL : j < L.length := by rw [HL0.out]; exact hlt2
          obtain ⟨ad, rfl, hc⟩ := hr0q j (L[j].val) (by simp [hkL])
          obtain ⟨b, hbb⟩ : ∃ b, b = L[j] := ⟨_, rfl⟩
          have hbo : ByteRow w3 b.A b.n b.c b.l := hs3 b (by rw [hbb]; exact List.getElem_mem _)
          have hb3l : b.l.length ≤ 300 := hall' b (by rw [hbb]; exact List.getElem_mem _)
          rw [← hbb] at hc
          have hB : Hid (b = L[j]) := hbb
          clear hbb
          obtain ⟨bA, bn, bc, bl⟩ := b
          obtain ⟨hbl, hbc, hbm, hbr⟩ := hbo
          simp only [SlB.val] at hc hbl hbc hbm hb3l hbr
          subst hbl
          have hcut : Hid (streamB (L.drop j) ++ l1 = wrapB bl ++ (streamB (L.drop (j + 1)) ++ l1)) := by
            show _ = _
            rw [streamB_drop L j hkL, ← hB.out, List.append_assoc]
          go_wp2_with fail
          refine (first_any Ar nr cr _ hnr.out wr hrr (by omega) hcr).mono ?_
          rintro e w4 (⟨x, r, v1, v2, hf, rfl, f1, f2, hb4⟩ | ⟨hf, rfl, hb4⟩)
          · rw [hcut.out, firstB_wrap _ _ (by omega)] at hf
            simp only [Option.some.injEq, Prod.mk.injEq] at hf
            obtain ⟨rfl, rfl⟩ := hf
            obtain ⟨X1, y1, rfl, g1, g2, g3, g4⟩ := f1
            obtain ⟨X2, y2, rfl, g5, g6, g7, g8⟩ := f2
            clear g4 g8
            have k1 : (convert 22 9 (.slice X1 bl.length y1)).run Try.prog w4 = .ok (.string (bstr bl)) w4 :=
              run_string_of (P := Try.prog) w4 22 9 5 Try.underlying22 Try.underlying5 Try.underlying9 X1 bl y1 g3
            have hbq4 := below_then hbq hb4 (Nat.le_refl _)
            have hbr4 := hbr.below hbq4
            have k2 : (convert 22 9 (.slice bA bl.length bc)).run Try.prog w4 = .ok (.string (bstr bl)) w4 :=
              run_string_of (P := Try.prog) w4 22 9 5 Try.underlying22 Try.underlying5 Try.underlying9 bA bl bc hbr4
            clear g3 hbr4
            obtain ⟨nx, hnx⟩ : ∃ nx, nx = (streamB (L.drop (j + 1)) ++ l1).length := ⟨_, rfl⟩
            rw [← hnx] at g5 ⊢
            have HNX : Hid ((streamB (L.drop (j + 1)) ++ l1).length = nx) := hnx.symm
            have hnx2 : nx ≤ nr := by
              rw [hnx, ← hnr.out, hcut.out]; simp only [List.length_append]; omega
            clear hnx
            go_wp2_with fail
            go_roundw
            case rel => exact ⟨j + 1, by omega, by go_num, X2, nx, y2, rfl, HNX, by omega, g5, g7, hbq4⟩
            case measure => simp [intOf]; omega
          · rw [hcut.out, firstB_wrap _ _ (by omega)] at hf
            cases hf
        · obtain rfl : j = k := by omega
          have hd0 : streamB (L.drop j) = [] := by rw [← HL0.out, List.drop_length]; rfl
          rw [hd0, List.nil_append] at hrr
          have hnr3 := hnr.out
          rw [hd0, List.nil_append] at hnr3
          have k1 : (convert 22 9 (.slice Ar nr cr)).run Try.prog wr = .ok (.string (bstr l1)) wr := by
            rw [← hnr3]
            exact run_string_of (P := Try.prog) wr 22 9 5 Try.underlying22 Try.underlying5 Try.underlying9 Ar l1 cr hrr
          have k2 : (convert 22 9 (.slice A1 n1 c1)).run Try.prog wr = .ok (.string (bstr l1)) wr := by
            rw [← HL1.out]
            exact run_string_of (P := Try.prog) wr 22 9 5 Try.underlying22 Try.underlying5 Try.underlying9 A1 l1 c1 hr1q
          clear hrr hr1q hnr3
          go_wp2_with fail
          go_ret
          exact ⟨by simp, below_then hbw3 hbq (by omega)⟩
end Go.Proofs.Ytnpdbnphoifjlaa
