/- The law LebBack, walked. -/
import Derived.Test.YtokfenogiajcgaaLebB0
import Derived.WalkSmall
import Derived.Deep.DeepCutAuto
import Derived.Deep.CutBlock
import Derived.Deep.LoopGhost
namespace Go.Proofs.Ytokfenogiajcgaa
open Go.RowKit
attribute [local go_sem] Oper.semAt_some

set_option maxRecDepth 100000 in
set_option maxHeartbeats 4000000 in
theorem lebBack_walk (a : Option Addr) (len cap : Nat) (L : List OpV) (w : World) (hR : OpRow w a len cap L) :
    Calls Try.prog 6 #[.slice a len cap] w fun e w' => e = .returned (.bool true) ∧ Below w.heap.size w w' := by
  have hgreat := fun W hb => great_any a len cap L W (hR.below hb)
  obtain ⟨hl, hlc, hcm, hok, hcell⟩ := id hR
  have hb : (len : Int) ≤ 9223372036854775807 := by unfold maxLen at hcm; omega
  go_enter Try.func6, Try.ntmps6
  go_wp2_with fail
  refine (alive_any w).mono ?_
  rintro e w1 ⟨rfl, hb1⟩
  go_wp2_with (first
    | (go_at_call 10; refine (hgreat w1 hb1).mono ?_; rintro e w' ⟨hw', b, rfl, hgb⟩; rw [hw']; clear hw'; cases b)
    | fail)
  all_goals try (go_ret; exact ⟨rfl, hb1⟩)
  obtain ⟨h100, hsum⟩ := hgb trivial
  have hS0 : Snk w w1.heap.size [] (w1.alloc (.cells #[.slice none 0 0] 26)) := ⟨⟨_, heap_alloc_new _ _, World.ownsRow_nil ..⟩, below_then hb1 ((Below.refl _ _).alloc (Nat.le_refl _) _) (Nat.le_refl _), hb1.size⟩
  generalize w1.heap.size = g at *
  clear hgreat hgb hok hcell
  go_loopg [26] len (fun r i wr => ∃ k : Nat, k ≤ len ∧ r = len - k ∧ i = .int .i64 (k : Int) ∧ (encL (L.take k)).length ≤ lenSum L k + 10 * k ∧ Snk w g (encL (L.take k)) wr)
  case atStart => exact ⟨0, by omega, by omega, rfl, by simp [encL], hS0⟩
  case round =>
    obtain ⟨k, hk, rfl, rfl, hxs, hS⟩ := hrel
    by_cases hlt : k < len
    · obtain ⟨ad, rfl, hon, hom, hol, hoc, hocm, ho2, hls, hls2, hq⟩ := hR.op k (by omega) hsum
      have het := encL_take L k (by omega)
      have hel := encOp_len L[k] hon hol ho2
      generalize L[k]'(by omega) = o at *
      obtain ⟨kd, om, on, oA, olen, ocap, ol⟩ := o
      simp only at hon hom hol hoc hocm ho2 hls hq het hel
      subst hol
      generalize hp : ad.add (k * 4) = p at hq
      obtain ⟨hr0, hA0, q0, q1, q2, q3⟩ := hq wr hS.bel
      obtain ⟨W1, hW1⟩ : ∃ W1, W1 = wr.alloc (.cells #[.int .i64 kd, .int .i64 om, .int .u64 (on : Int), .slice oA ol.length ocap] 30) := ⟨_, rfl⟩
      have hS1 : Snk w g (encL (L.take k)) W1 := by rw [hW1]; exact hS.below ((Below.refl _ _).alloc (Nat.le_refl _) _)
      have hc1 : Boxed4 W1 wr.heap.size kd om on oA ol.length ocap := by rw [hW1]; exact Boxed4.new _ _ _ _ _ _ _
      obtain ⟨hr1, _⟩ := hq W1 hS1.bel
      obtain ⟨v, hv⟩ := hS1.s
      have d0 := hc1.c0
      have d2 := hc1.c2
      have d3 := hc1.c3
      go_upto_block 2 with fail
      rw [← hW1]
      clear hW1 hR hcm hS0
      by_cases h0 : kd = 0
      · subst h0
        rw [encOp_0 _ rfl] at het hel
        simp only at het hel
        have hx2 := congrArg List.length het
        rw [List.length_append] at hx2
        go_wp2_with fail
        refine (number_any g on hon (encL (L.take k)) (by omega) v W1 hv).mono ?_
        rintro e w2 ⟨rfl, v2, hs2⟩
        have hS2 := hS1.step hv hs2
        rw [← het] at hS2
        have h10 := numB_ten on hon
        clear het
        go_wp2_with fail
        go_roundg (len - (k + 1))
        case measure => omega
        case rel => exact ⟨k + 1, by omega, rfl, by go_num, by omega, hS2⟩
      by_cases h1 : kd = 1
      · subst h1
        rw [encOp_1 _ rfl] at het hel
        simp only at het hel
        have hx2 := congrArg List.length het
        rw [List.length_append] at hx2
        go_wp2_with fail
        refine (bytes_any2 g v (encL (L.take k)) oA ol.length ocap ol rfl (by omega) W1 hv hr1 (fun x e hne => ⟨by have := hA0 x e hne; have := hS1.old; omega, fun e2 => by have := hA0 x e hne; have := hS1.old; have := (hv.2.lt _ e2).1; omega⟩)).mono ?_
        rintro e w2 ⟨rfl, v2, hs2⟩
        have hS2 := hS1.step hv hs2
        rw [← het] at hS2
        clear het
        go_wp2_with fail
        go_roundg (len - (k + 1))
        case measure => omega
        case rel => exact ⟨k + 1, by omega, rfl, by go_num, by omega, hS2⟩
      by_cases h2 : kd = 2
      · subst h2
        rw [encOp_2 _ rfl] at het hel
        simp only at het hel
        have hx2 := congrArg List.length het
        rw [List.length_append] at hx2
        go_wp2_with fail
        refine (raw_any g v (encL (L.take k)) oA ol.length ocap ol rfl (by omega) W1 hv hr1).mono ?_
        rintro e w2 ⟨rfl, v2, hs2⟩
        have hS2 := hS1.step hv hs2
        rw [← het] at hS2
        clear het
        go_wp2_with fail
        go_roundg (len - (k + 1))
        case measure => omega
        case rel => exact ⟨k + 1, by omega, rfl, by go_num, by omega, hS2⟩
      rw [encOp_3 _ h0 h1 h2, List.append_nil] at het
      clear hel
      rw [← het] at hS1 hxs
      go_wp2_with fail
      go_roundg (len - (k + 1))
      case measure => omega
      case rel => exact ⟨k + 1, by omega, rfl, by go_num, by omega, hS1⟩
    · obtain rfl : k = len := by omega
      rw [List.take_of_length_le (by omega)] at hxs hS
      have hup := lenSum_up L k (by omega)
      obtain ⟨v, hv⟩ := hS.s
      have hall := all_any g v (encL L) (by omega) wr hv
      go_wp2_with fail
      refine hall.mono ?_
      rintro e w2 ⟨va, rfl, hna⟩
      obtain ⟨Aa, ca, rfl, _, _, hra, _⟩ := RdC.of_own hna.1
      have hb2 := below_then hS.bel hna.2 (Nat.le_refl _)
      go_wp2_with fail
      refine (from_any Aa (encL L).length ca (encL L) rfl (by omega) w2 hra).mono ?_
      rintro e w3 ⟨gs, vs, rfl, hgs, hsrc, hb3, _⟩
      have hb23 := below_then hb2 hb3 (Nat.le_refl _)
      have hgw : w.heap.size ≤ gs := Nat.le_trans hb2.size hgs
      have hE : (encL L).length ≤ 30000 := by omega
      clear hall hna hra hS hv hxs hS0
      have hb' : (k : Int) ≤ 9223372036854775807 := hb
      go_wp2_with fail
      go_loopg [52] k (fun r i wr => ∃ j : Nat, j ≤ k ∧ r = k - j ∧ i = .int .i64 (j : Int) ∧ Below w.heap.size w wr ∧ ∃ v, Src 62 gs v (encL (L.drop j)) wr)
      case atStart => exact ⟨0, by omega, by omega, rfl, hb23, vs, hsrc⟩
      case round =>
        obtain ⟨j, hj, rfl, rfl, hbr, v, hv⟩ := hrel
        have hdl : (encL (L.drop j)).length ≤ 30000 := by
          have := congrArg List.length (encL_all L j)
          rw [List.length_append] at this
          omega
        by_cases hlt2 : j < k
        · obtain ⟨ad, rfl, hon, hom, hol, hoc, hocm, ho2, hls, hls2, hq⟩ := hR.op j (by omega) hsum
          have het := encL_drop L j (by omega)
          generalize L[j]'(by omega) = o at *
          obtain ⟨kd, om, on, oA, olen, ocap, ol⟩ := o
          simp only at hon hom hol hoc hocm ho2 hls hq het
          subst hol
          generalize hp : ad.add (j * 4) = p at hq
          obtain ⟨hr0, hA0, q0, q1, q2, q3⟩ := hq wr hbr
          obtain ⟨W1, hW1⟩ : ∃ W1, W1 = wr.alloc (.cells #[.int .i64 kd, .int .i64 om, .int .u64 (on : Int), .slice oA ol.length ocap] 30) := ⟨_, rfl⟩
          have hbA : Below wr.heap.size wr W1 := by rw [hW1]; exact (Below.refl _ _).alloc (Nat.le_refl _) _
          have hc1 : Boxed4 W1 wr.heap.size kd om on oA ol.length ocap := by rw [hW1]; exact Boxed4.new _ _ _ _ _ _ _
          have hv1 := hv.below hbA
          have hb1 := below_then hbr hbA (Nat.le_refl _)
          have hgne : wr.heap.size ≠ gs := by have := hv.lt; omega
          have d0 := hc1.c0
          have d2 := hc1.c2
          have d3 := hc1.c3
          go_upto_block 5 with fail
          rw [← hW1]
          clear hW1 hR hcm q0 q1 q2 q3
          by_cases h0 : kd = 0
          · subst h0
            rw [encOp_0 _ rfl] at het
            simp only at het
            have hnum := srcnum_wide gs on hon (encL (L.drop j)) v W1 hv1
            rw [het, readN_numB on on hon, if_neg (Nat.lt_irrefl _)] at hnum
            simp only [List.drop_left] at hnum
            go_wp2_with fail
            refine hnum.mono ?_
            rintro e w4 ⟨rfl, v4, hv4, hs4⟩
            have hc2 := hc1.kept hs4.2 hgne
            have d2' := hc2.c2
            have hb4 := below_kept hb1 hs4.2 (fun x e => by omega)
            clear hnum het
            go_wp2_with fail
            go_roundg (k - (j + 1))
            case measure => omega
            case rel => exact ⟨j + 1, by omega, rfl, by go_num, hb4, v4, hs4.1⟩
          by_cases h1 : kd = 1
          · subst h1
            rw [encOp_1 _ rfl] at het
            simp only at het
            have hbyt := sbytes_any gs v (encL (L.drop j)) (by omega) (ol.length : Int) (by omega) (by omega) W1 hv1
            rw [het, bytesR_app _ _ (by omega)] at hbyt
            simp only at hbyt
            go_wp2_with fail
            refine hbyt.mono ?_
            rintro e w4 ⟨ov, rfl, ⟨v4, hv4, hs4⟩, ho4⟩
            obtain ⟨A4, c4, rfl, _, _, hr4, _⟩ := RdC.of_own ho4
            have hc2 := hc1.kept hs4.2 hgne
            have d3' := hc2.c3
            have hb4 := below_kept hb1 hs4.2 (fun x e => by omega)
            have k1 := run_string_of (P := Try.prog) w4 24 9 5 Try.underlying24 Try.underlying5 Try.underlying9 A4 ol c4 hr4
            have k2 := run_string_of (P := Try.prog) w4 24 9 5 Try.underlying24 Try.underlying5 Try.underlying9 oA ol ocap (hq w4 hb4).1
            clear hbyt het
            go_wp2_with fail
            go_roundg (k - (j + 1))
            case measure => omega
            case rel => exact ⟨j + 1, by omega, rfl, by go_num, hb4, v4, hs4.1⟩
          by_cases h2 : kd = 2
          · subst h2
            rw [encOp_2 _ rfl] at het
            simp only at het
            have hraw := sraw_any gs v (encL (L.drop j)) (by omega) (ol.length : Int) (by omega) (by omega) W1 hv1
            rw [het, rawR_app] at hraw
            simp only at hraw
            go_wp2_with fail
            refine hraw.mono ?_
            rintro e w4 ⟨ov, rfl, ⟨v4, hv4, hs4⟩, ho4⟩
            obtain ⟨A4, c4, rfl, _, _, hr4, _⟩ := RdC.of_own ho4
            have hc2 := hc1.kept hs4.2 hgne
            have d3' := hc2.c3
            have hb4 := below_kept hb1 hs4.2 (fun x e => by omega)
            have k1 := run_string_of (P := Try.prog) w4 24 9 5 Try.underlying24 Try.underlying5 Try.underlying9 A4 ol c4 hr4
            have k2 := run_string_of (P := Try.prog) w4 24 9 5 Try.underlying24 Try.underlying5 Try.underlying9 oA ol ocap (hq w4 hb4).1
            clear hraw het
            go_wp2_with fail
            go_roundg (k - (j + 1))
            case measure => omega
            case rel => exact ⟨j + 1, by omega, rfl, by go_num, hb4, v4, hs4.1⟩
          rw [encOp_3 _ h0 h1 h2, List.nil_append] at het
          rw [het] at hv1
          go_wp2_with fail
          go_roundg (k - (j + 1))
          case measure => omega
          case rel => exact ⟨j + 1, by omega, rfl, by go_num, hb1, v, hv1⟩
        · obtain rfl : j = k := by omega
          have hnil : encL (L.drop j) = [] := by rw [List.drop_of_length_le (by omega)]; rfl
          rw [hnil] at hv
          have hend := end_any gs v [] wr hv
          have hleft := left_any gs v [] wr hv
          have hend0 : endE [] = 0 := rfl
          rw [hend0] at hend
          rw [List.length_nil] at hleft
          clear hR hcm
          go_wp2_with (first
            | (go_at_call 27; refine hend.mono ?_; rintro e w' ⟨rfl, hw'⟩; rw [hw']; clear hw')
            | (go_at_call 26; refine hleft.mono ?_; rintro e w' ⟨rfl, hw'⟩; rw [hw']; clear hw')
            | fail)
          go_ret
          exact ⟨rfl, hbr⟩
end Go.Proofs.Ytokfenogiajcgaa
