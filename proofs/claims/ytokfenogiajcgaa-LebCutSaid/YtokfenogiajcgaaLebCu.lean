/- The law LebCut, walked. -/
import Derived.Test.YtokfenogiajcgaaLebB0
import Derived.WalkSmall
import Derived.Deep.DeepCutAuto
import Derived.Deep.CutBlock
import Derived.Deep.LoopGhost
namespace Go.Proofs.Ytokfenogiajcgaa
open Go.RowKit
attribute [local go_sem] Oper.semAt_some

set_option maxRecDepth 100000 in
set_option maxHeartbeats 4000000 in
theorem lebCut_walk (a : Option Addr) (len cap : Nat) (L : List OpV) (cut : Nat) (w : World) (hR : OpRow w a len cap L) (hcut : cut < 65536) :
    Calls Try.prog 7 #[.slice a len cap, .int .u16 (cut : Int)] w fun e w' => e = .returned (.bool true) ∧ Below w.heap.size w w' := by
  have hgreat := fun W hb => great_any a len cap L W (hR.below hb)
  obtain ⟨hl, hlc, hcm, hok, hcell⟩ := id hR
  have hb : (len : Int) ≤ 9223372036854775807 := by unfold maxLen at hcm; omega
  go_enter Try.func7, Try.ntmps7
  go_wp2_with fail
  refine (alive_any w).mono ?_
  rintro e w1 ⟨rfl, hb1⟩
  go_wp2_with (first
    | (go_at_call 10; refine (hgreat w1 hb1).mono ?_; rintro e w' ⟨hw', b, rfl, hgb⟩; rw [hw']; clear hw'; cases b)
    | fail)
  all_goals try (go_ret; exact ⟨rfl, hb1⟩)
  obtain ⟨h100, hsum⟩ := hgb trivial
  have hS0 : Snk w w1.heap.size [] (w1.alloc (.cells #[.slice none 0 0] 26)) := ⟨⟨_, heap_alloc_new _ _, World.ownsRow_nil ..⟩, below_then hb1 ((Below.refl _ _).alloc (Nat.le_refl _) _) (Nat.le_refl _), hb1.size⟩
  generalize w1.heap.size = g at *
  have hcv : IntKind.i64.wrap (cut : Int) = (cut : Int) := IntWalk.i64_in _ (by omega)
  clear hcut
  clear hgreat hgb hok hcell
  go_loopg [7, 25] len (fun r wt i wr => ∃ k : Nat, k ≤ len ∧ r = len - k ∧ i = .int .i64 (k : Int) ∧ wt = .int .i64 ((encL (L.take k)).length : Int) ∧ (encL (L.take k)).length ≤ lenSum L k + 10 * k ∧ Snk w g (encL (L.take k)) wr)
  case atStart => exact ⟨0, by omega, by omega, rfl, rfl, by simp [encL], hS0⟩
  case round =>
    obtain ⟨k, hk, rfl, rfl, rfl, hxs, hS⟩ := hrel
    by_cases hlt : k < len
    · obtain ⟨ad, rfl, hon, hom, hol, hoc, hocm, ho2, hls, hls2, hq⟩ := hR.op k (by omega) hsum
      have het := encL_take L k (by omega)
      have hel := encOp_len L[k] hon hol ho2
      generalize L[k]'(by omega) = o at *
      obtain ⟨kd, om, on, oA, olen, ocap, ol⟩ := o
      simp only at hon hom hol hoc hocm ho2 hls hq het hel
      subst hol
      generalize hp : ad.add (k * 4) = p at hq
      obtain ⟨hr0, hA0, q0, q1, q2, q3⟩ := hq wr hS.bel
      obtain ⟨W1, hW1⟩ : ∃ W1, W1 = wr.alloc (.cells #[.int .i64 kd, .int .i64 om, .int .u64 (on : Int), .slice oA ol.length ocap] 30) := ⟨_, rfl⟩
      have hS1 : Snk w g (encL (L.take k)) W1 := by rw [hW1]; exact hS.below ((Below.refl _ _).alloc (Nat.le_refl _) _)
      have hc1 : Boxed4 W1 wr.heap.size kd om on oA ol.length ocap := by rw [hW1]; exact Boxed4.new _ _ _ _ _ _ _
      obtain ⟨hr1, _⟩ := hq W1 hS1.bel
      obtain ⟨v, hv⟩ := hS1.s
      have d0 := hc1.c0
      have d2 := hc1.c2
      have d3 := hc1.c3
      go_upto_block 2 with fail
      rw [← hW1]
      clear hW1 hR hcm hS0
      have hgv : ¬ (wr.heap.size = g ∨ v.ownBlock = some wr.heap.size) := fun h => h.elim (fun e => by obtain ⟨u, hu⟩ := hS.s; have := lt_get hu.1; omega) fun e => own_ne hv.2 hc1 (by decide) e
      have hxl : (encL (L.take k)).length ≤ 30000 := by omega
      by_cases h0 : kd = 0
      · subst h0
        rw [encOp_0 _ rfl] at het hel
        simp only at het hel
        have hx2 := congrArg List.length het
        rw [List.length_append] at hx2
        go_wp2_with fail
        refine (number_any g on hon (encL (L.take k)) (by omega) v W1 hv).mono ?_
        rintro e w2 ⟨rfl, v2, hs2⟩
        have hS2 := hS1.step hv hs2
        rw [← het] at hS2
        have d2' := (hc1.keptX hs2.2.2 hgv).c2
        have h10 := numB_ten on hon
        have hl1 : ((encL (L.take k)).length : Int) + ((numB on).length : Int) = ((encL (L.take (k + 1))).length : Int) := by omega
        clear het
        generalize (encL (L.take k)).length = X at *
        generalize hY : (encL (L.take (k + 1))).length = Y at *
        have HY := Lib.hid hY
        clear hY
        have HL := Lib.hid hl1
        clear hl1
        go_wp2_with (first
          | (go_at_call 14; refine (size_any on _ hon).mono ?_; rintro e w' ⟨rfl, hw'⟩; rw [hw']; clear hw')
          | fail)
        go_roundg (len - (k + 1))
        case measure => omega
        case rel =>
          have hY := HY.out
          exact ⟨k + 1, by omega, rfl, by go_num, by rw [hY]; exact congrArg (Value.int .i64) HL.out, by omega, hS2⟩
      by_cases h1 : kd = 1
      · subst h1
        rw [encOp_1 _ rfl] at het hel
        simp only at het hel
        have hx2 := congrArg List.length het
        rw [List.length_append, List.length_append] at hx2
        go_wp2_with fail
        refine (bytes_any2 g v (encL (L.take k)) oA ol.length ocap ol rfl (by omega) W1 hv hr1 (fun x e hne => ⟨by have := hA0 x e hne; have := hS1.old; omega, fun e2 => by have := hA0 x e hne; have := hS1.old; have := (hv.2.lt _ e2).1; omega⟩)).mono ?_
        rintro e w2 ⟨rfl, v2, hs2⟩
        have hS2 := hS1.step hv hs2
        rw [← het] at hS2
        have d3' := (hc1.keptX hs2.2.2 hgv).c3
        have h10 := numB_ten ol.length (by omega)
        have hsz := fun W => size_any ol.length W (by omega)
        generalize (numB ol.length).length = Z at *
        have hl1 : ((encL (L.take k)).length : Int) + (Z : Int) + (ol.length : Int) = ((encL (L.take (k + 1))).length : Int) := by omega
        clear het
        generalize (encL (L.take k)).length = X at *
        generalize hY : (encL (L.take (k + 1))).length = Y at *
        have HY := Lib.hid hY
        clear hY
        have HL := Lib.hid hl1
        have hwa : IntKind.i64.wrap ((X : Int) + (Z : Int)) = (X : Int) + (Z : Int) := IntWalk.i64_in _ (by omega)
        have hwb : IntKind.i64.wrap ((X : Int) + (Z : Int) + (ol.length : Int)) = (X : Int) + (Z : Int) + (ol.length : Int) := IntWalk.i64_in _ (by omega)
        have hwc : IntKind.u64.wrap (ol.length : Int) = (ol.length : Int) := by simp only [IntKind.wrap_u64]; omega
        clear hl1
        go_wp2_with fail
        go_quiet ((first
          | (go_at_call 14; exact Calls.quiet_of_same (hsz _))
          | fail))
        go_wp2_with fail
        go_roundg (len - (k + 1))
        case measure => omega
        case rel =>
          have hY := HY.out
          exact ⟨k + 1, by omega, rfl, by go_num, by rw [hY]; exact congrArg (Value.int .i64) HL.out, by omega, hS2.below (below_drewN _ _)⟩
      by_cases h2 : kd = 2
      · subst h2
        rw [encOp_2 _ rfl] at het hel
        simp only at het hel
        have hx2 := congrArg List.length het
        rw [List.length_append] at hx2
        go_wp2_with fail
        refine (raw_any g v (encL (L.take k)) oA ol.length ocap ol rfl (by omega) W1 hv hr1).mono ?_
        rintro e w2 ⟨rfl, v2, hs2⟩
        have hS2 := hS1.step hv hs2
        rw [← het] at hS2
        have d3' := (hc1.keptX hs2.2.2 hgv).c3
        have hl1 : ((encL (L.take k)).length : Int) + (ol.length : Int) = ((encL (L.take (k + 1))).length : Int) := by omega
        clear het
        generalize (encL (L.take k)).length = X at *
        generalize hY : (encL (L.take (k + 1))).length = Y at *
        have HY := Lib.hid hY
        clear hY
        have HL := Lib.hid hl1
        clear hl1
        go_wp2_with fail
        go_roundg (len - (k + 1))
        case measure => omega
        case rel =>
          have hY := HY.out
          exact ⟨k + 1, by omega, rfl, by go_num, by rw [hY]; exact congrArg (Value.int .i64) HL.out, by omega, hS2⟩
      rw [encOp_3 _ h0 h1 h2, List.append_nil] at het
      clear hel
      rw [← het] at hS1 hxs
      have HET := Lib.hid (congrArg List.length het)
      clear het
      generalize hX : (encL (L.take k)).length = X at *
      have HX := Lib.hid hX
      clear hX
      go_wp2_with fail
      go_roundg (len - (k + 1))
      case measure => omega
      case rel =>
        have hl1 := HET.out
        exact ⟨k + 1, by omega, rfl, by go_num, by rw [hl1], by omega, hS1⟩
    · obtain rfl : k = len := by omega
      rw [List.take_of_length_le (by omega)] at hxs hS
      have hE : (encL (L.take k)).length = (encL L).length := by rw [List.take_of_length_le (by omega)]
      rw [hE]
      clear hE
      have hup := lenSum_up L k (by omega)
      obtain ⟨v, hv⟩ := hS.s
      have hall := all_any g v (encL L) (by omega) wr hv
      have hEl : (encL L).length ≤ 30000 := by omega
      by_cases hE0 : (encL L).length = 0
      · have hE0' : ((encL L).length : Int) = 0 := by omega
        go_wp2_with fail
        refine hall.mono ?_
        rintro e w2 ⟨va, rfl, hna⟩
        obtain ⟨Aa, ca, rfl, _, _, hra, _⟩ := RdC.of_own hna.1
        rw [hE0]
        have hb2 := below_then hS.bel hna.2 (Nat.le_refl _)
        clear hall hra hna
        go_wp2_with fail
        go_ret
        exact ⟨rfl, hb2⟩
      have hE0' : (((encL L).length : Int) == 0) = false := by rw [beq_eq_false_iff_ne]; omega
      have hmod : (cut : Int).tmod ((encL L).length : Int) = ((cut % (encL L).length : Nat) : Int) := by rw [Int.tmod_eq_emod_of_nonneg (by omega)]; omega
      have hmlt : cut % (encL L).length < (encL L).length := Nat.mod_lt _ (by omega)
      generalize cut % (encL L).length = m at *
      generalize hEE : (encL L).length = E at *
      go_wp2_with fail
      refine hall.mono ?_
      rintro e w2 ⟨va, rfl, hna⟩
      obtain ⟨Aa, ca, rfl, hca, _, hra, _⟩ := RdC.of_own hna.1
      have hb2 := below_then hS.bel hna.2 (Nat.le_refl _)
      have s1 : ∀ W : World, (Instr.slice 24 (.slice Aa E ca) none (some (.int .i64 (m : Int))) none).run Try.prog W = .ok (.slice Aa m ca) W := fun W => run_sub_h (P := Try.prog) W 24 Aa E ca 1 Try.underlying24 (Try.sizeOf5 W) _ m rfl (by omega)
      rw [hEE]
      go_wp2_with fail
      have hra2 : RdC w2 Aa (u8v ((encL L).take m)) := by rw [← u8v_take]; exact hra.take _
      have hml : ((encL L).take m).length = m := by rw [List.length_take]; omega
      refine (from_any Aa m ca ((encL L).take m) hml (by omega) w2 hra2).mono ?_
      rintro e w3 ⟨gs, vs, rfl, hgs, hsrc, hb3, _⟩
      have hb23 := below_then hb2 hb3 (Nat.le_refl _)
      have hgw : w.heap.size ≤ gs := Nat.le_trans hb2.size hgs
      have hpre : (encL L).take m <+: encL (L.drop 0) := List.take_prefix _ _
      have hpl0 : ((encL L).take m).length < (encL (L.drop 0)).length := by rw [hml, List.drop_zero, hEE]; exact hmlt
      generalize (encL L).take m = p0 at *
      clear hall hna hra hra2 hS hv hxs hS0 s1 hmod hml hE0' hE0
      go_wp2_with fail
      go_loopg [93] k (fun r i wr => ∃ (j : Nat) (p : List UInt8), j ≤ k ∧ r = k - j ∧ i = .int .i64 (j : Int) ∧ p <+: encL (L.drop j) ∧ p.length < (encL (L.drop j)).length ∧ Below w.heap.size w wr ∧ ∃ v, Src 62 gs v p wr)
      case atStart => exact ⟨0, p0, by omega, by omega, rfl, hpre, hpl0, hb23, vs, hsrc⟩
      case round =>
        obtain ⟨j, p, hj, rfl, rfl, hpp, hpl, hbr, v, hv⟩ := hrel
        by_cases hlt2 : j < k
        · obtain ⟨ad, rfl, hon, hom, hol, hoc, hocm, ho2, hls, hls2, hq⟩ := hR.op j (by omega) hsum
          have het := encL_drop L j (by omega)
          have hdl : p.length ≤ 30000 := by
            have := congrArg List.length (encL_all L j)
            rw [List.length_append] at this
            omega
          rw [het] at hpp hpl
          have hcut2 := cut_op L[j] hon (by omega) (encL (L.drop (j + 1))) p hpp
          generalize L[j]'(by omega) = o at *
          have hcut3 : ((readOp o p).1 = 0 ∧ (readOp o p).2 <+: encL (L.drop (j + 1)) ∧ (readOp o p).2.length < (encL (L.drop (j + 1))).length) ∨ (readOp o p).1 = 10 := by
            rcases hcut2 with ⟨q, e1, e2, e3⟩ | ⟨_, e3⟩
            · rw [e3]
              rw [e1, List.length_append, List.length_append] at hpl
              exact .inl ⟨rfl, e2, by simp only; omega⟩
            · exact .inr e3
          obtain ⟨kd, om, on, oA, olen, ocap, ol⟩ := o
          simp only at hon hom hol hoc hocm ho2 hls hq
          subst hol
          clear het hcut2 hpp hpl
          generalize hp : ad.add (j * 4) = p' at hq
          obtain ⟨hr0, hA0, q0, q1, q2, q3⟩ := hq wr hbr
          obtain ⟨W1, hW1⟩ : ∃ W1, W1 = wr.alloc (.cells #[.int .i64 kd, .int .i64 om, .int .u64 (on : Int), .slice oA ol.length ocap] 30) := ⟨_, rfl⟩
          have hbA : Below wr.heap.size wr W1 := by rw [hW1]; exact (Below.refl _ _).alloc (Nat.le_refl _) _
          have hc1 : Boxed4 W1 wr.heap.size kd om on oA ol.length ocap := by rw [hW1]; exact Boxed4.new _ _ _ _ _ _ _
          have hv1 := hv.below hbA
          have hb1 := below_then hbr hbA (Nat.le_refl _)
          have d0 := hc1.c0
          have d2 := hc1.c2
          have d3 := hc1.c3
          go_upto_block 5 with fail
          rw [← hW1]
          clear hW1 hR hcm q0 q1 q2 q3
          by_cases h0 : kd = 0
          · subst h0
            have hnum := srcnum_wide gs on hon p v W1 hv1
            simp only [readOp, if_true] at hcut3
            generalize readN p on = R at *
            obtain ⟨nn, er, kk⟩ := R
            simp only at hnum hcut3
            go_wp2_with fail
            refine hnum.mono ?_
            rintro e w4 ⟨rfl, v4, hv4, hs4⟩
            have hb4 := below_kept hb1 hs4.2 (fun x e => by omega)
            clear hnum
            rcases hcut3 with ⟨he, hq1, hq2⟩ | he
            · obtain rfl : er = 0 := by omega
              go_wp2_with fail
              go_roundg (k - (j + 1))
              case measure => omega
              case rel => exact ⟨j + 1, _, by omega, rfl, by go_num, hq1, hq2, hb4, v4, hs4.1⟩
            · obtain rfl : er = 10 := by omega
              go_wp2_with fail
              go_ret
              exact ⟨rfl, hb4⟩
          by_cases h1 : kd = 1
          · subst h1
            have hbyt := sbytes_any gs v p (by omega) (ol.length : Int) (by omega) (by omega) W1 hv1
            simp only [readOp, if_true, if_neg h0] at hcut3
            generalize bytesR p (ol.length : Int) = R at *
            obtain ⟨er, xx, rest⟩ := R
            simp only at hbyt hcut3
            go_wp2_with fail
            refine hbyt.mono ?_
            rintro e w4 ⟨ov, rfl, ⟨v4, hv4, hs4⟩, ho4⟩
            have hb4 := below_kept hb1 hs4.2 (fun x e => by omega)
            clear hbyt
            rcases hcut3 with ⟨rfl, hq1, hq2⟩ | rfl
            · go_wp2_with fail
              go_roundg (k - (j + 1))
              case measure => omega
              case rel => exact ⟨j + 1, _, by omega, rfl, by go_num, hq1, hq2, hb4, v4, hs4.1⟩
            · go_wp2_with fail
              go_ret
              exact ⟨rfl, hb4⟩
          by_cases h2 : kd = 2
          · subst h2
            have hraw := sraw_any gs v p (by omega) (ol.length : Int) (by omega) (by omega) W1 hv1
            simp only [readOp, if_true, if_neg h0, if_neg h1] at hcut3
            generalize rawR p (ol.length : Int) = R at *
            obtain ⟨er, xx, rest⟩ := R
            simp only at hraw hcut3
            go_wp2_with fail
            refine hraw.mono ?_
            rintro e w4 ⟨ov, rfl, ⟨v4, hv4, hs4⟩, ho4⟩
            have hb4 := below_kept hb1 hs4.2 (fun x e => by omega)
            clear hraw
            rcases hcut3 with ⟨rfl, hq1, hq2⟩ | rfl
            · go_wp2_with fail
              go_roundg (k - (j + 1))
              case measure => omega
              case rel => exact ⟨j + 1, _, by omega, rfl, by go_num, hq1, hq2, hb4, v4, hs4.1⟩
            · go_wp2_with fail
              go_ret
              exact ⟨rfl, hb4⟩
          simp only [readOp, if_neg h0, if_neg h1, if_neg h2] at hcut3
          obtain ⟨_, hq1, hq2⟩ := hcut3.resolve_right (by decide)
          clear hcut3
          have HQ1 := Lib.hid hq1
          have HQ2 := Lib.hid hq2
          clear hq1 hq2
          go_wp2_with fail
          go_roundg (k - (j + 1))
          case measure => omega
          case rel => exact ⟨j + 1, p, by omega, rfl, by go_num, HQ1.out, HQ2.out, hb1, v, hv1⟩
        · exfalso
          obtain rfl : j = k := by omega
          rw [List.drop_of_length_le (by omega)] at hpl
          exact absurd hpl (by simp [encL])
end Go.Proofs.Ytokfenogiajcgaa
