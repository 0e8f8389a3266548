/- The law LebReads, walked. -/
import Derived.Test.YtokfenogiajcgaaLebR2
import Derived.Deep.DeepCutAuto
import Derived.Deep.CutBlock
import Derived.LaidEqlPtr
import Derived.WalkSmall
namespace Go.Proofs.Ytokfenogiajcgaa
open Go.RowKit
attribute [local go_sem] Oper.semAt_some

set_option maxRecDepth 100000 in
set_option maxHeartbeats 4000000 in
theorem lebReads_walk (A : Option Addr) (n c : Nat) (l : List UInt8) (a : Option Addr) (len cap : Nat) (L : List OpV) (w : World) (hB : ByteRow w A n c l) (hR : OpRow w a len cap L) :
    Calls Try.prog 4 #[.slice A n c, .slice a len cap] w fun e w' => e = .returned (.bool true) ∧ Below w.heap.size w w' := by
  have hgreat := great_any a len cap L w hR
  obtain ⟨hl, hlc, hcm, hok, hcell⟩ := id hR
  obtain ⟨hBl, hBc, hBm, hBr⟩ := hB
  have hb : (len : Int) ≤ 9223372036854775807 := by unfold maxLen at hcm; omega
  have hbn : (n : Int) ≤ 9223372036854775807 := by unfold maxLen at hBm; omega
  by_cases hn : n ≤ 20000
  case neg =>
    have hn' : (20000 : Int) < (n : Int) := by omega
    go_enter Try.func4, Try.ntmps4
    go_wp2_with (first
      | (go_at_call 10; refine hgreat.mono ?_; rintro e w' ⟨hw', b, rfl, hgb⟩; rw [hw']; clear hw'; cases b)
      | fail)
    all_goals
      go_ret
      exact ⟨rfl, Below.refl _ _⟩
  have hn' : ¬ (20000 : Int) < (n : Int) := by omega
  subst hBl
  have htw := fun W hW => twin_any A l.length c l rfl (by omega) W hW
  go_enter Try.func4, Try.ntmps4
  go_wp2_with (first
    | (go_at_call 10; refine hgreat.mono ?_; rintro e w' ⟨hw', b, rfl, hgb⟩; rw [hw']; clear hw'; cases b)
    | fail)
  all_goals try (go_ret; exact ⟨rfl, Below.refl _ _⟩)
  obtain ⟨h100, hsum⟩ := hgb trivial
  clear hgreat hgb hn'
  refine (htw w hBr).mono ?_
  rintro e w1 ⟨vo, rfl, ho1, hb1⟩
  obtain ⟨Ao, co, rfl, _, _, hro, _⟩ := RdC.of_own ho1
  go_wp2_with fail
  refine (from_any Ao l.length co l rfl (by omega) w1 hro).mono ?_
  rintro e w2 ⟨gs, vs, rfl, hgs, hsrc, hb2, hbs⟩
  go_wp2_with fail
  have hb02 := below_then hb1 hb2 (Nat.le_refl _)
  refine (htw w2 (hBr.below hb02)).mono ?_
  rintro e w3 ⟨vr, rfl, ho3, hb3⟩
  obtain ⟨Ar, cr, rfl, hcr1, hcr2, hrr, _⟩ := RdC.of_own ho3
  obtain ⟨W4, hW4⟩ : ∃ W4, W4 = w3.alloc (.cells #[.slice Ar l.length cr] 41) := ⟨_, rfl⟩
  have hbA : Below w3.heap.size w3 W4 := by rw [hW4]; exact (Below.refl _ _).alloc (Nat.le_refl _) _
  have z4 : W4.heap.size = w3.heap.size + 1 := by rw [hW4, World.size_alloc]
  have hgsl := hsrc.lt
  have h2 : Two w (w3.heap.size + 1) gs w3.heap.size vs.ownBlock (Value.slice Ar l.length cr).ownBlock l l W4 := by
    have s1 := hb1.size
    have s3 := hb3.size
    refine ⟨⟨vs, rfl, (hsrc.below hb3).below hbA⟩, ⟨_, rfl, by rw [hW4]; exact Boxed.new w3 _ _, Ar, cr, rfl, hcr1, hcr2, hrr.below hbA, fun ad e => ?_⟩, below_then (below_then hb02 hb3 (Nat.le_refl _)) hbA (Nat.le_refl _), ⟨by omega, by have := hb2.size; omega, by omega, by omega, by omega, by omega⟩, fun b hb => ?_, fun b hb => ?_⟩
    · have := (ho3.lt ad.block (by rw [e]; rfl)).2
      omega
    · have := hbs b hb
      omega
    · have := ho3.lt b hb
      omega
  have ho4 : W4.ownsRow w.heap.size 5 1 (.slice Ao l.length co) l.length (u8v l) := own_below (own_below (own_below ho1 hb2) hb3) hbA
  have hoB : ∀ b, (Value.slice Ao l.length co).ownBlock = some b → w.heap.size ≤ b ∧ b < w1.heap.size := fun b hb => ho1.lt b hb
  have hbr : ∀ b, (Value.slice Ar l.length cr).ownBlock = some b → w2.heap.size ≤ b := fun b hb => (ho3.lt b hb).1
  go_wp2_with fail
  rw [← hW4]
  have hown := own_inc ho4 rfl
  have s3 := hb3.size
  clear hW4 hbA ho4 ho1 ho3 hsrc hro hrr hb3 htw
  go_loopg [41] l.length (fun r i wr => ∃ j : Nat, j ≤ l.length ∧ r = l.length - j ∧ i = .int .i64 (j : Int) ∧ Kept (fun b => (Value.slice Ao l.length co).ownBlock = some b) W4 wr ∧ ∀ go, Ao = some ⟨go, 0, none⟩ → IncAt go l.length wr)
  case atStart =>
    refine ⟨0, by omega, by omega, rfl, Kept.refl _ _, fun go e => ?_⟩
    rcases hown with ⟨h, _⟩ | ⟨go', h, hi⟩
    · rw [h] at e; cases e
    · rw [h] at e; cases e; exact hi
  case round =>
    obtain ⟨j, hj, rfl, rfl, hkp, hinc⟩ := hrel
    by_cases hjl : j < l.length
    · rcases hown with ⟨_, h0⟩ | ⟨go, rfl, _⟩
      · omega
      have hi := hinc go rfl
      obtain ⟨f1, b, f2⟩ := hi.cell j hjl
      go_wp2_with fail
      rw [u8_inc b]
      go_roundg (l.length - (j + 1))
      case measure => omega
      case rel => exact ⟨j + 1, by omega, rfl, by go_num, hkp.set rfl, fun go' e => by cases e; exact hi.step⟩
    · obtain rfl : j = l.length := by omega
      have s2 := hb2.size
      have h3 := h2.keptG hkp (fun e => by have := (hoB _ e).2; have := h2.old; omega) (fun e => by have := (hoB _ e).2; have := h2.old; omega) (fun b hb e => by have := (hoB _ e).2; have := (hbs b hb).1; omega) (fun b hb e => by have := (hoB _ e).2; have := hbr b hb; omega) (fun k e => (hoB _ e).1)
      generalize w3.heap.size + 1 = N at *
      generalize hgr : w3.heap.size = gr at *
      generalize hob1 : vs.ownBlock = bs at *
      generalize (Value.slice Ar l.length cr).ownBlock = br at *
      clear hown hinc hkp h2 hoB hbs hbr hb1 hb2 hb02 s2 s3 hgs hgsl z4 hgr hob1
      go_wp2_with fail
      go_loopg [53] len (fun r i wr => ∃ (k : Nat) (ls : List UInt8), k ≤ len ∧ r = len - k ∧ i = .int .i64 (k : Int) ∧ ls.length ≤ 20000 ∧ Two w N gs gr bs br ls ls wr)
      case atStart => exact ⟨0, l, by omega, by omega, rfl, hn, h3⟩
      case round =>
        obtain ⟨k, ls, hk, rfl, rfl, hls, hT⟩ := hrel
        by_cases hlt : k < len
        · obtain ⟨ad, kd, om, on, oA, olen, ocap, ol, rfl, hon, hom, rfl, hoc, hocm, ho2, _, _, hq⟩ := hR.get k (by omega) hsum
          clear hR hok hcell
          generalize hp : ad.add (k * 4) = p at hq
          obtain ⟨_, _, q0, q1, q2, q3⟩ := hq wr hT.bel
          go_upto_block 4 with fail
          go_cut [53] (fun i wx => i = .int .i64 (k : Int) ∧ ∃ ls', ls'.length ≤ 20000 ∧ Two w N gs gr bs br ls' ls' wx)
          case first =>
            obtain ⟨⟨v, ev, hv⟩, ⟨u, eu, hu⟩, _⟩ := id hT
            by_cases h0 : kd = 0
            · subst h0
              have hc1 := srcnum_wide gs on hon ls v wr hv
              have hc2 := fun W v h => rnum_any gr on hon ls (by omega) v W h
              generalize readN ls on = RR at *
              obtain ⟨nn, er, kk⟩ := RR
              simp only at hc1 hc2
              go_wp2_with fail
              refine hc1.mono ?_
              rintro e wa ⟨rfl, v1, hv1, hs1⟩
              have hT1 := hT.stepS (hv1.trans ev) hs1
              obtain ⟨_, _, q10, q11, q12, q13⟩ := hq wa hT1.bel
              obtain ⟨_, ⟨u1, eu1, hu1⟩, _⟩ := id hT1
              go_wp2_with fail
              refine (hc2 wa u1 hu1).mono ?_
              rintro e wb ⟨rfl, u2, hu2, hs2⟩
              have hT2 := hT1.stepR (hu2.trans eu1) hs2
              clear hc1 hc2
              go_wp2_with fail
              go_meet
              case rel => exact ⟨rfl, ls.drop kk, by rw [List.length_drop]; omega, hT2⟩
            by_cases h0 : kd = 1
            · subst h0
              have hlen := bytesR_len ls om
              have hc1 := fun W v h => sbytes_any gs v ls (by omega) om hom.1 hom.2 W h
              have hc2 := fun W v h => rbytes_src gr v ls (by omega) om hom.2 W h
              generalize bytesR ls om = RR at *
              obtain ⟨er, x, rest⟩ := RR
              simp only at hlen hc1 hc2
              go_wp2_with fail
              refine (hc1 wr v hv).mono ?_
              rintro e wa ⟨ov, rfl, ⟨v1, hv1, hs1⟩, ho1⟩
              obtain ⟨A1, c1, rfl, _⟩ := RdC.of_own ho1
              have hT1 := hT.stepS (hv1.trans ev) hs1
              obtain ⟨_, _, q10, q11, q12, q13⟩ := hq wa hT1.bel
              obtain ⟨_, ⟨u1, eu1, hu1⟩, _⟩ := id hT1
              go_wp2_with fail
              refine (hc2 wa u1 hu1).mono ?_
              rintro e wb ⟨ov2, rfl, ⟨u2, hu2, hs2⟩, ho2x⟩
              obtain ⟨A2, c2, rfl, _⟩ := RdC.of_own ho2x
              have hT2 := hT1.stepR (hu2.trans eu1) hs2
              have hNw := hT.old.2.2.2.2.1
              have ho3 : wb.ownsRow wr.heap.size 5 1 (.slice A1 x.length c1) x.length (u8v x) := own_of_block ho1 fun b hb => hs2.2.block b (ho1.lt b hb).2 fun e => by have := (ho1.lt b hb).1; have := hT.old; omega
              have hxB : ∀ b, (Value.slice A1 x.length c1).ownBlock = some b → N ≤ b := fun b hb => by have := (ho3.lt b hb).1; omega
              obtain ⟨_, _, e1, _, _, hr1, _⟩ := RdC.of_own ho3
              obtain ⟨_, _, e2, _, _, hr2, _⟩ := RdC.of_own ho2x
              cases e1
              cases e2
              have k1 := run_string_of (P := Try.prog) wb 24 9 5 Try.underlying24 Try.underlying5 Try.underlying9 A1 x c1 hr1
              have k2 := run_string_of (P := Try.prog) wb 24 9 5 Try.underlying24 Try.underlying5 Try.underlying9 A2 x c2 hr2
              have hown := own_inc ho3 rfl
              have hxl : (x.length : Int) ≤ 9223372036854775807 := by omega
              clear ho3 ho2x ho1 hs2 hs1 hT1 hu1 hr1 hr2 hc1 hc2 hv hu
              go_wp2_with fail
              go_loopg [125] x.length (fun r i wr => ∃ j : Nat, j ≤ x.length ∧ r = x.length - j ∧ i = .int .i64 (j : Int) ∧ Kept (fun b => (Value.slice A1 x.length c1).ownBlock = some b) wb wr ∧ ∀ go, A1 = some ⟨go, 0, none⟩ → IncAt go x.length wr)
              case atStart =>
                refine ⟨0, by omega, by omega, rfl, Kept.refl _ _, fun go e => ?_⟩
                rcases hown with ⟨h, _⟩ | ⟨go', h, hi⟩
                · rw [h] at e; cases e
                · rw [h] at e; cases e; exact hi
              case round =>
                obtain ⟨j, hj, rfl, rfl, hkp, hinc⟩ := hrel
                by_cases hjl : j < x.length
                · rcases hown with ⟨_, h0⟩ | ⟨go, rfl, _⟩
                  · omega
                  have hi := hinc go rfl
                  obtain ⟨f1, b, f2⟩ := hi.cell j hjl
                  go_wp2_with fail
                  rw [u8_inc b]
                  go_roundg (x.length - (j + 1))
                  case measure => omega
                  case rel => exact ⟨j + 1, by omega, rfl, by go_num, hkp.set rfl, fun go' e => by cases e; exact hi.step⟩
                · obtain rfl : j = x.length := by omega
                  clear hown hinc
                  have hT3 := hT2.kept hkp hxB
                  go_wp2_with fail
                  go_meet
                  case rel => exact ⟨rfl, rest, by omega, hT3⟩
            by_cases h0 : kd = 2
            · subst h0
              have hlen := rawR_len ls om
              have hc1 := fun W v h => sraw_any gs v ls (by omega) om hom.1 hom.2 W h
              have hc2 := fun W v h => rraw_any gr v ls (by omega) om hom.1 hom.2 W h
              generalize rawR ls om = RR at *
              obtain ⟨er, x, rest⟩ := RR
              simp only at hlen hc1 hc2
              go_wp2_with fail
              refine (hc1 wr v hv).mono ?_
              rintro e wa ⟨ov, rfl, ⟨v1, hv1, hs1⟩, ho1⟩
              obtain ⟨A1, c1, rfl, _⟩ := RdC.of_own ho1
              have hT1 := hT.stepS (hv1.trans ev) hs1
              obtain ⟨_, _, q10, q11, q12, q13⟩ := hq wa hT1.bel
              obtain ⟨_, ⟨u1, eu1, hu1⟩, _⟩ := id hT1
              go_wp2_with fail
              refine (hc2 wa u1 hu1).mono ?_
              rintro e wb ⟨ov2, rfl, ⟨u2, hu2, hs2⟩, ho2x⟩
              obtain ⟨A2, c2, rfl, _⟩ := RdC.of_own ho2x
              have hT2 := hT1.stepR (hu2.trans eu1) hs2
              have hNw := hT.old.2.2.2.2.1
              have ho3 : wb.ownsRow wr.heap.size 5 1 (.slice A1 x.length c1) x.length (u8v x) := own_of_block ho1 fun b hb => hs2.2.block b (ho1.lt b hb).2 fun e => by have := (ho1.lt b hb).1; have := hT.old; omega
              have hxB : ∀ b, (Value.slice A1 x.length c1).ownBlock = some b → N ≤ b := fun b hb => by have := (ho3.lt b hb).1; omega
              obtain ⟨_, _, e1, _, _, hr1, _⟩ := RdC.of_own ho3
              obtain ⟨_, _, e2, _, _, hr2, _⟩ := RdC.of_own ho2x
              cases e1
              cases e2
              have k1 := run_string_of (P := Try.prog) wb 24 9 5 Try.underlying24 Try.underlying5 Try.underlying9 A1 x c1 hr1
              have k2 := run_string_of (P := Try.prog) wb 24 9 5 Try.underlying24 Try.underlying5 Try.underlying9 A2 x c2 hr2
              have hown := own_inc ho3 rfl
              have hxl : (x.length : Int) ≤ 9223372036854775807 := by omega
              clear ho3 ho2x ho1 hs2 hs1 hT1 hu1 hr1 hr2 hc1 hc2 hv hu
              go_wp2_with fail
              go_loopg [169] x.length (fun r i wr => ∃ j : Nat, j ≤ x.length ∧ r = x.length - j ∧ i = .int .i64 (j : Int) ∧ Kept (fun b => (Value.slice A1 x.length c1).ownBlock = some b) wb wr ∧ ∀ go, A1 = some ⟨go, 0, none⟩ → IncAt go x.length wr)
              case atStart =>
                refine ⟨0, by omega, by omega, rfl, Kept.refl _ _, fun go e => ?_⟩
                rcases hown with ⟨h, _⟩ | ⟨go', h, hi⟩
                · rw [h] at e; cases e
                · rw [h] at e; cases e; exact hi
              case round =>
                obtain ⟨j, hj, rfl, rfl, hkp, hinc⟩ := hrel
                by_cases hjl : j < x.length
                · rcases hown with ⟨_, h0⟩ | ⟨go, rfl, _⟩
                  · omega
                  have hi := hinc go rfl
                  obtain ⟨f1, b, f2⟩ := hi.cell j hjl
                  go_wp2_with fail
                  rw [u8_inc b]
                  go_roundg (x.length - (j + 1))
                  case measure => omega
                  case rel => exact ⟨j + 1, by omega, rfl, by go_num, hkp.set rfl, fun go' e => by cases e; exact hi.step⟩
                · obtain rfl : j = x.length := by omega
                  clear hown hinc
                  have hT3 := hT2.kept hkp hxB
                  go_wp2_with fail
                  go_meet
                  case rel => exact ⟨rfl, rest, by omega, hT3⟩
            go_wp2_with fail
            go_meet
            case rel => exact ⟨rfl, ls, hls, hT⟩
          case rest =>
            obtain ⟨rfl, ls', hls', hT'⟩ := hcut
            obtain ⟨⟨v, ev, hv⟩, ⟨u, eu, hu⟩, _⟩ := id hT'
            obtain ⟨hg1, Ag, cg, rfl, _⟩ := id hu
            have cg1 := Boxed.cell hg1
            have hll : (ls'.length : Int) ≤ 9223372036854775807 := by omega
            clear q0 q1 q2 q3 hT
            go_wp2_with fail
            go_quiet ((first
              | (go_at_call 26; exact Calls.quiet_of_same (left_any gs v ls' _ hv))
              | (go_at_call 27; exact Calls.quiet_of_same (end_any gs v ls' _ hv))
              | (go_at_call 28; exact Calls.quiet_of_same (rend_any gr _ ls' _ hu))
              | fail))
            go_wp2
            go_roundg (len - (k + 1))
            case measure => omega
            case rel => exact ⟨k + 1, ls', by omega, rfl, by go_num, hls', hT'.below (below_drewN _ _)⟩
        · obtain rfl : k = len := by omega
          obtain ⟨⟨v, ev, hv⟩, ⟨u, eu, hu⟩, _⟩ := id hT
          obtain ⟨hg1, Ag, cg, rfl, _⟩ := id hu
          have cg1 := Boxed.cell hg1
          have hll : (ls.length : Int) ≤ 9223372036854775807 := by omega
          clear hR hok hcell
          go_wp2_with fail
          go_quiet ((first
            | (go_at_call 26; exact Calls.quiet_of_same (left_any gs v ls _ hv))
            | fail))
          go_wp2
          go_ret
          exact ⟨rfl, (hT.below (below_drewN _ _)).bel⟩
end Go.Proofs.Ytokfenogiajcgaa
