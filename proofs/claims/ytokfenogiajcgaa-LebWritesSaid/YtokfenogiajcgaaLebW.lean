/- The law LebWrites, walked. -/
import Derived.Test.YtokfenogiajcgaaLebR
import Derived.Deep.DeepCutAuto
import Derived.Deep.CutBlock
import Derived.Test.YtokfenogiajcgaaLebGa
import Derived.Test.YtokfenogiajcgaaLebGb
import Derived.LaidEqlPtr
namespace Go.Proofs.Ytokfenogiajcgaa
open Go.RowKit
attribute [local go_sem] Oper.semAt_some

theorem u8_next' (b : UInt8) : ((b.toNat : Int) + 1) % 256 = ((b + 1).toNat : Int) := by
  rw [UInt8.toNat_add]
  have := b.toNat_lt
  simp
theorem Rows.inc {w0 : World} {xs ys l : List UInt8} {vs vw : Value} {A : Option Addr} {c : Nat} {W : World} (h : Rows w0 xs ys vs vw (.slice A l.length c) l W) : (A = none ∧ l.length = 0) ∨ ∃ go, A = some ⟨go, 0, none⟩ ∧ IncAt go l.length W := by
  rcases h.own.2 with ⟨e, h0⟩ | ⟨g', cap', cur, e, _⟩
  · injection e with e1; exact .inl ⟨e1, h0⟩
  · injection e with e1
    subst e1
    exact .inr ⟨g', rfl, IncAt.of_own h.own rfl⟩
theorem lenSum_mono (L : List OpV) (k : Nat) (h : k ≤ L.length) : lenSum L k ≤ lenSum L L.length := by
  obtain ⟨d, hd⟩ : ∃ d, L.length = k + d := ⟨L.length - k, by omega⟩
  rw [hd]
  clear hd h
  induction d with
  | zero => exact Nat.le_refl _
  | succ d ih =>
    refine Nat.le_trans ih ?_
    by_cases hh : k + d < L.length
    · have := lenSum_succ L (k + d) hh
      rw [Nat.add_assoc] at this
      omega
    · unfold lenSum
      rw [List.take_of_length_le (by omega), List.take_of_length_le (by omega)]
      exact Nat.le_refl _
/-- One call that came in, in whatever world keeps what came in. -/
theorem OpRow.at {w : World} {a : Option Addr} {len cap : Nat} {L : List OpV} (hR : OpRow w a len cap L) (k : Nat) (hk : k < L.length) (hsum : lenSum L L.length ≤ 20000) :
    ∃ (ad : Addr) (kd om : Int) (on : Nat) (oA : Option Addr) (olen ocap : Nat) (ol : List UInt8), a = some ad ∧ on < 18446744073709551616 ∧ ol.length = olen ∧ olen ≤ ocap ∧ (ocap : Int) ≤ 9223372036854775807 ∧ olen ≤ 20000 ∧ lenSum L (k + 1) = lenSum L k + olen ∧ lenSum L (k + 1) ≤ 20000 ∧
      ∀ W, Below w.heap.size w W → RdC W oA (u8v ol) ∧ (∀ x, oA = some x → x.block < w.heap.size ∨ ol = []) ∧ W.cell? (ad.add (k * 4)) = some (.int .i64 kd) ∧ W.cell? ⟨(ad.add (k * 4)).block, (ad.add (k * 4)).off + 1, none⟩ = some (.int .i64 om) ∧ W.cell? ⟨(ad.add (k * 4)).block, (ad.add (k * 4)).off + 2, none⟩ = some (.int .u64 (on : Int)) ∧ W.cell? ⟨(ad.add (k * 4)).block, (ad.add (k * 4)).off + 3, none⟩ = some (.slice oA olen ocap) := by
  obtain ⟨ad, rfl, q0, q1, q2, q3⟩ := hR.cell k hk
  obtain ⟨_, _, hn, ⟨o1, o2, o3, o4⟩, o5⟩ := hR.2.2.2.1 _ (List.getElem_mem hk)
  have hs := lenSum_succ L k hk
  have hm := lenSum_mono L (k + 1) hk
  have carry : ∀ (W : World) (p : Addr) (v : Value), Below w.heap.size w W → w.cell? p = some v → W.cell? p = some v := fun W p v hb h => (hb.cell (World.block_lt_of_cell? w p h)).trans h
  refine ⟨ad, _, _, _, _, _, _, _, rfl, hn, o1, o2, by unfold maxLen at o3; omega, by omega, hs, by omega, fun W hb => ⟨o4.below hb, fun x hx => ?_, carry W _ _ hb q0, carry W _ _ hb q1, carry W _ _ hb q2, carry W _ _ hb q3⟩⟩
  cases hl : (L[k]).l with
  | nil => exact .inr rfl
  | cons b r =>
    refine .inl ?_
    obtain ⟨ad', e, hc⟩ := o4 0 _ (u8v_get _ 0 (by rw [hl]; simp))
    rw [hx] at e
    cases e
    have := World.block_lt_of_cell? w _ hc
    rwa [addr_add_block] at this
set_option maxRecDepth 100000 in
set_option maxHeartbeats 4000000 in
theorem lebWrites_walk (a : Option Addr) (len cap : Nat) (L : List OpV) (w : World) (hR : OpRow w a len cap L) :
    Calls Try.prog 3 #[.slice a len cap] w fun e w' => e = .returned (.bool true) ∧ Below w.heap.size w w' := by
  have hgreat := great_any a len cap L w hR
  have qp : ∀ (W : World) (b : Nat), (binOp .eql 32 (.pointer (some ⟨b, 0, none⟩)) (.pointer (some ⟨b, 0, none⟩))).run Try.prog W = .ok (.bool true) W := fun W b => by
    obtain ⟨j, hj⟩ := Option.isSome_iff_exists.1 (show (Try.prog.info? 26).isSome = true by kernel_rfl)
    exact run_eql_ptr_same W _ Try.underlying32 hj
  obtain ⟨hl, hlc, hcm, hok, hcell⟩ := id hR
  have hb : (len : Int) ≤ 9223372036854775807 := by unfold maxLen at hcm; omega
  go_enter Try.func3, Try.ntmps3
  go_upto_block 0 with (go_at_call 10; refine hgreat.mono ?_; rintro e w' ⟨hw', b, rfl, hgb⟩; rw [hw']; clear hw')
  · go_ret
    exact ⟨rfl, Below.refl _ _⟩
  have hbf : b = false := by assumption
  obtain ⟨h100, hsum⟩ := hgb hbf
  subst hbf
  clear hgreat hgb
  have hS0 : Rows w [] [] (.slice none 0 0) (.slice none 0 0) (.slice none 0 0) [] (w.alloc (.cells #[.slice none 0 0] 26)) :=
    ⟨⟨heap_alloc_new _ _, World.ownsRow_nil ..⟩, World.ownsRow_nil .., World.ownsRow_nil .., (fun b hb => by cases hb), (fun b hb => by cases hb), (Below.refl _ _).alloc (Nat.le_refl _) _⟩
  go_wp2_with fail
  go_loopg [4, 15] len (fun r want i wr => ∃ (k : Nat) (xs : List UInt8) (vs vw : Value), k ≤ len ∧ r = len - k ∧ i = .int .i64 (k : Int) ∧ want = vw ∧ xs.length ≤ lenSum L k + 10 * k ∧ Rows w xs xs vs vw (.slice none 0 0) [] wr)
  case atStart => exact ⟨0, [], _, _, by omega, by omega, rfl, rfl, by simp, hS0⟩
  case round =>
    obtain ⟨k, xs, vs, vw, hk, rfl, rfl, rfl, hxs, hS⟩ := hrel
    by_cases hlt : k < len
    · obtain ⟨ad, kd, om, on, oA, olen, ocap, ol, rfl, hon, rfl, hoc, hocm, ho2, hls, hls2, hq⟩ := hR.at k (by omega) hsum
      clear hR hok hcell
      generalize hp : ad.add (k * 4) = p at hq
      obtain ⟨hr0, _, q0, q1, q2, q3⟩ := hq wr hS.bel
      have htwin := twin_any oA ol.length ocap ol rfl (by omega) wr hr0
      go_upto_block 2 with (go_at_call 11; refine htwin.mono ?_; rintro e w1 ⟨vo, hvo, hnew⟩; rw [hvo]; clear hvo; have hS1 := hS.newOwn hnew; obtain ⟨hr1, _, q10, q11, q12, q13⟩ := hq w1 hS1.bel; obtain ⟨Ao, co, hvo, hoc2, _, hro, _⟩ := RdC.of_own hnew.1; rw [hvo] at hS1 ⊢; clear hnew hvo htwin)
      go_cut [4, 7] (fun want same wx => same = .bool true ∧ ∃ (xs' : List UInt8) (vs' : Value), xs'.length ≤ lenSum L (k + 1) + 10 * (k + 1) ∧ Rows w xs' xs' vs' want (.slice Ao ol.length co) ol wx)
      case first =>
        have h10 := numB_ten on hon
        by_cases h0 : kd = 0
        · subst h0
          go_upto_region 13 with (first
            | (go_at_call 12; refine (rnumber_any on hon w1).mono ?_; rintro e w2 ⟨v2, hv2, hn2⟩; have hS2 := hS1.below hn2.2; obtain ⟨A2, c2, hv, _, _, hr2, _⟩ := RdC.of_own hn2.1; rw [hv2, hv]; clear hv2 hv)
            | (at_builtin; refine wpList_app2 elt8 rfl (.tmp 31) (.tmp 37) rfl (w.heap.size + 1) u4 xs.length (u8v xs) rfl hS2.want A2 (numB on).length c2 (u8v (numB on)) rfl (by rw [u8v_length]; omega) hr2 (u8v_one _) (by unfold maxLen; omega) (by omega) hS2.glt ?_; intro vw' w3 ho3 hg3 hor3)
            | fail)
          have hS3 := (hS2.wantOn rfl ho3 hg3 hor3).below (Below.refl _ w3).drew
          have hlt' : k < len := hlt
          refine Reg.phase_start (ops := Reg.opsOf Try.f3 13) (by kernel_rfl) (lw13a ad p len cap k on w.heap.size w3.drew hlt' hp (fun W hb => (hq W (below_then hS3.bel hb (Nat.le_refl _))).2.2.2.2.1) fun w4 hb4 => ?_)
          have hS4 := hS3.below hb4
          refine lw13o on w.heap.size w4 ((number_any w.heap.size on hon xs (by omega) vs w4 hS4.sink).mono ?_)
          rintro e w5 ⟨rfl, vs5, hs5⟩
          have hS5 := hS4.sinkOn hs5
          refine ⟨_, rfl, lw13b ad p len cap k on w.heap.size w5 hlt' hp hon qp (fun W hb => (hq W (below_then hS5.bel hb (Nat.le_refl _))).2.2.2.2.1) fun w6 r58 hb6 => ?_⟩
          have hS6 := hS5.below hb6
          go_wp2_with fail
          go_meet
          case rel => exact ⟨rfl, xs ++ numB on, vs5, by rw [List.length_append]; omega, hS6⟩
        · by_cases h1 : kd = 1
          · subst h1
            have hl10 := numB_ten ol.length (by omega)
            have hrb := rbytes_any oA ol.length ocap ol rfl (by omega) w1 hr1
            obtain ⟨yl, hyl⟩ : ∃ yl, numB ol.length ++ ol = yl := ⟨_, rfl⟩
            have hyll : yl.length ≤ ol.length + 10 := by rw [← hyl, List.length_append]; omega
            rw [hyl] at hrb
            go_upto_region 16 with (first
              | (go_at_call 15; refine hrb.mono ?_; rintro e w2 ⟨v2, hv2, hn2⟩; have hS2 := hS1.below hn2.2; obtain ⟨A2, c2, hv, _, _, hr2, _⟩ := RdC.of_own hn2.1; rw [hv2, hv]; clear hv2 hv)
              | (at_builtin; refine wpList_app2 elt8 rfl (.tmp 64) (.tmp 70) rfl (w.heap.size + 1) u4 xs.length (u8v xs) rfl hS2.want A2 yl.length c2 (u8v yl) rfl (by rw [u8v_length]; omega) hr2 (u8v_one _) (by unfold maxLen; omega) (by omega) hS2.glt ?_; intro vw' w3 ho3 hg3 hor3)
              | fail)
            have hS3 := hS2.wantOn rfl ho3 hg3 hor3
            obtain ⟨hro3, hA3⟩ := hS3.ownRd
            go_wp2_with (go_at_call 16; refine (bytes_any w.heap.size vs xs Ao ol.length co ol rfl (by omega) w3 hS3.sink hro3 hA3).mono ?_; rintro e w4 ⟨rfl, vs4, hs4⟩; rw [hyl] at hs4; have hS4 := hS3.sinkOn hs4)
            go_meet
            case rel => exact ⟨rfl, xs ++ yl, vs4, by rw [List.length_append]; omega, hS4⟩
          · by_cases h2 : kd = 2
            · subst h2
              go_upto_region 19 with (at_builtin; refine wpList_app2 elt8 rfl (.tmp 77) (.tmp 82) rfl (w.heap.size + 1) u4 xs.length (u8v xs) rfl hS1.want oA ol.length ocap (u8v ol) rfl (by rw [u8v_length]; omega) hr1 (u8v_one _) (by unfold maxLen; omega) (by omega) hS1.glt ?_; intro vw' w3 ho3 hg3 hor3)
              have hS3 := hS1.wantOn rfl ho3 hg3 hor3
              obtain ⟨hro3, hA3⟩ := hS3.ownRd
              go_wp2_with (go_at_call 17; refine (raw_any w.heap.size vs xs Ao ol.length co ol rfl (by omega) w3 hS3.sink hro3).mono ?_; rintro e w4 ⟨rfl, vs4, hs4⟩; have hS4 := hS3.sinkOn hs4)
              go_meet
              case rel => exact ⟨rfl, xs ++ ol, vs4, by rw [List.length_append]; omega, hS4⟩
            · go_wp2_with fail
              go_meet
              case rel => exact ⟨rfl, xs, vs, by omega, hS1⟩
      case rest =>
        obtain ⟨rfl, xs', vs', hxs', hS2⟩ := hcut
        clear q0 q1 q2 q3 q10 q11 q12 q13 hr1 hro hS1 hS hS0 hr0
        go_upto_region 20 with fail
        have hlt' : k < len := hlt
        refine lw20 ad p len cap k co ocap Ao oA ol wc hlt' hp (fun W hb => run_string_of W _ _ _ Try.underlying24 Try.underlying5 Try.underlying9 Ao ol co (hS2.below hb).ownRd.1) (fun W hb => run_string_of W _ _ _ Try.underlying24 Try.underlying5 Try.underlying9 oA ol ocap (hq W (below_then hS2.bel hb (Nat.le_refl _))).1) (fun W hb => (hq W (below_then hS2.bel hb (Nat.le_refl _))).2.2.2.2.2) fun w2 hb2 => ?_
        have hS3 := hS2.below hb2
        have hown := hS3.inc
        clear hS2
        go_wp2_with fail
        go_loopg [102] ol.length (fun r i wr => ∃ j : Nat, j ≤ ol.length ∧ r = ol.length - j ∧ i = .int .i64 (j : Int) ∧ Kept (fun b => (Value.slice Ao ol.length co).ownBlock = some b) w2 wr ∧ ∀ go, Ao = some ⟨go, 0, none⟩ → IncAt go ol.length wr)
        case atStart =>
          refine ⟨0, by omega, by omega, rfl, Kept.refl _ _, fun go e => ?_⟩
          rcases hown with ⟨h, _⟩ | ⟨go', h, hi⟩
          · rw [h] at e; cases e
          · rw [h] at e; cases e; exact hi
        case round =>
          obtain ⟨j, hj, rfl, rfl, hkp, hinc⟩ := hrel
          by_cases hjl : j < ol.length
          · rcases hown with ⟨_, h0⟩ | ⟨go, rfl, _⟩
            · omega
            have hi := hinc go rfl
            obtain ⟨f1, b, f2⟩ := hi.cell j hjl
            go_wp2_with fail
            rw [u8_next' b]
            go_roundg (ol.length - (j + 1))
            case measure => omega
            case rel => exact ⟨j + 1, by omega, rfl, by go_num, hkp.set rfl, fun go' e => by cases e; exact hi.step⟩
          · obtain rfl : j = ol.length := by omega
            clear hown hinc
            have hS4 := hS3.ownGone hkp
            have hall := all_any w.heap.size vs' xs' (by omega) wr hS4.sink
            obtain ⟨Aw, cw, hvw, _, _, _, _⟩ := RdC.of_own hS4.want
            subst hvw
            go_upto_block 5 with (go_at_call 18; refine hall.mono ?_; rintro e w5 ⟨va, hva, hna⟩; have hS5 := hS4.newOwn hna; obtain ⟨Aa, ca, hv, _⟩ := RdC.of_own hna.1; rw [hva, hv]; rw [hv] at hS5; have k1 := run_string_of (P := Try.prog) w5 24 9 5 Try.underlying24 Try.underlying5 Try.underlying9 Aa xs' ca hS5.ownRd.1; have k2 := run_string_of (P := Try.prog) w5 24 9 5 Try.underlying24 Try.underlying5 Try.underlying9 Aw xs' cw (hS5.wantRd); clear hva hv hna hall)
            have hown := hS5.inc
            go_wp2_with fail
            go_loopg [120] xs'.length (fun r i wr => ∃ j : Nat, j ≤ xs'.length ∧ r = xs'.length - j ∧ i = .int .i64 (j : Int) ∧ Kept (fun b => (Value.slice Aa xs'.length ca).ownBlock = some b) w5 wr ∧ ∀ go, Aa = some ⟨go, 0, none⟩ → IncAt go xs'.length wr)
            case atStart =>
              refine ⟨0, by omega, by omega, rfl, Kept.refl _ _, fun go e => ?_⟩
              rcases hown with ⟨h, _⟩ | ⟨go', h, hi⟩
              · rw [h] at e; cases e
              · rw [h] at e; cases e; exact hi
            case round =>
              obtain ⟨j, hj, rfl, rfl, hkp2, hinc⟩ := hrel
              by_cases hjl : j < xs'.length
              · rcases hown with ⟨_, h0⟩ | ⟨go, rfl, _⟩
                · omega
                have hi := hinc go rfl
                obtain ⟨f1, b, f2⟩ := hi.cell j hjl
                go_wp2_with fail
                rw [u8_next' b]
                go_roundg (xs'.length - (j + 1))
                case measure => omega
                case rel => exact ⟨j + 1, by omega, rfl, by go_num, hkp2.set rfl, fun go' e => by cases e; exact hi.step⟩
              · obtain rfl : j = xs'.length := by omega
                clear hown hinc
                have hS6 := hS5.ownGone hkp2
                go_wp2_with fail
                go_roundg (len - (k + 1))
                case measure => omega
                case rel => exact ⟨k + 1, xs', vs', _, by omega, rfl, by go_num, rfl, by omega, hS6⟩
    · obtain rfl : k = len := by omega
      obtain ⟨Aw, cw, hvw, _, _, _, _⟩ := RdC.of_own hS.want
      subst hvw
      have hm := lenSum_mono L k (by omega)
      go_upto_region 36 with fail
      refine lw36 vs _ w.heap.size xs wr (fun W hb => (hS.below hb).sink) (by omega) (fun W hb => run_string_of W _ _ _ Try.underlying24 Try.underlying5 Try.underlying9 Aw xs cw (hS.below hb).wantRd) fun w2 r131 hb2 => ?_
      go_wp2_with fail
      go_ret
      exact ⟨rfl, (hS.below hb2).bel⟩
end Go.Proofs.Ytokfenogiajcgaa
