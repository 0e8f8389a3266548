/- The law SumRuns, walked. -/
import Derived.Test.YtnpdbnphoifjlaaSumE
import Derived.Test.YtnpdbnphoifjlaaSumB
import Derived.Lib.SmallJoins
namespace Go.Proofs.Ytnpdbnphoifjlaa
open Go.RowKit

theorem unwrap_yes (A : Option Addr) (n c : Nat) (b x : List UInt8) (hx : unwrapB b = some x) (hn0 : b.length = n) (w : World) (hr : RdC w A (u8v b)) (hl2 : n ≤ 140737488355328) (hc : n ≤ c) :
    Calls Try.prog 19 #[.slice A n c] w fun e w' => (∃ A n c, e = .returned (.tuple #[.slice A n c, .int .i64 0])) ∧ Below w.heap.size w w' :=
  (unwrap_any A n c b hn0 w hr hl2 hc).mono fun e w' h => by
    rcases h with ⟨y, v, _, rfl, ⟨A', c', rfl, _⟩, hb⟩ | ⟨h, _⟩
    · exact ⟨⟨_, _, _, rfl⟩, hb⟩
    · rw [hx] at h; cases h
theorem unwrap_no (A : Option Addr) (n c : Nat) (b : List UInt8) (hx : unwrapB b = none) (hn0 : b.length = n) (w : World) (hr : RdC w A (u8v b)) (hl2 : n ≤ 140737488355328) (hc : n ≤ c) :
    Calls Try.prog 19 #[.slice A n c] w fun e w' => (∃ A n c, e = .returned (.tuple #[.slice A n c, .int .i64 20])) ∧ Below w.heap.size w w' :=
  (unwrap_any A n c b hn0 w hr hl2 hc).mono fun e w' h => by
    rcases h with ⟨y, v, h, _⟩ | ⟨_, rfl, hb⟩
    · rw [hx] at h; cases h
    · exact ⟨⟨_, _, _, rfl⟩, hb⟩
/-- Whatever it says: its number, and whether it is the good one. -/
theorem unwrap_says (A : Option Addr) (n c : Nat) (b : List UInt8) (P : Prop) (hP : P ↔ unwrapB b ≠ none) (hn0 : b.length = n) (w : World) (hr : RdC w A (u8v b)) (hl2 : n ≤ 140737488355328) (hc : n ≤ c) :
    Calls Try.prog 19 #[.slice A n c] w fun e w' => (∃ A n c r, e = .returned (.tuple #[.slice A n c, .int .i64 r]) ∧ (r = 0 ↔ P)) ∧ Below w.heap.size w w' := by
  cases hx : unwrapB b with
  | none => exact (unwrap_no A n c b hx hn0 w hr hl2 hc).mono fun e w' ⟨⟨A, n, c, h⟩, hb⟩ => ⟨⟨A, n, c, 20, h, by rw [hP, hx]; simp⟩, hb⟩
  | some x => exact (unwrap_yes A n c b x hx hn0 w hr hl2 hc).mono fun e w' ⟨⟨A, n, c, h⟩, hb⟩ => ⟨⟨A, n, c, 0, h, by rw [hP, hx]; simp⟩, hb⟩

set_option maxRecDepth 20000 in
set_option maxHeartbeats 4000000 in
theorem sumRuns_walk (A : Option Addr) (n c : Nat) (l : List UInt8) (at1 x2 x3 : Nat) (A4 : Option Addr) (n4 c4 : Nat) (l4 : List UInt8) (w : World)
    (h0 : ByteRow w A n c l) (h1 : at1 < 65536) (h2 : x2 < 4294967296) (h3 : x3 < 65536) (h4 : ByteRow w A4 n4 c4 l4) :
    Calls Try.prog 7 #[.slice A n c, .int .u16 at1, .int .u32 x2, .int .u16 x3, .slice A4 n4 c4] w fun e w' => e = .returned (.bool true) ∧ Below w.heap.size w w' := by
  obtain ⟨hl, hc, hm, hr⟩ := h0
  obtain ⟨hl4, hc4, hm4, hr4⟩ := h4
  subst hl
  have HL4 := Lib.hid hl4
  clear hl4
  go_enter Try.func7, Try.ntmps7
  go_wp2_with fail
  refine (alive_any w).mono ?_
  rintro e wa ⟨rfl, hba⟩
  replace hr := hr.below hba
  replace hr4 := hr4.below hba
  have hza := hba.size
  by_cases hA : 2000 < l.length
  · go_wp2_with fail
    go_ret
    exact ⟨rfl, hba⟩
  by_cases hB : 20 < n4
  · go_wp2_with fail
    go_ret
    exact ⟨rfl, hba⟩
  go_wp2_with fail
  refine (wrap_any A c l wa hr (by omega)).mono ?_
  rintro e w1 ⟨⟨v, rfl, hf⟩, hb1⟩
  obtain ⟨A1, c1, rfl, hc1, hm1, hr1, hB1⟩ := hf
  clear hB1
  rw [wrapB_length] at *
  replace hr := hr.below hb1
  replace hr4 := hr4.below hb1
  have hw1 := below_then hba hb1 (Nat.le_refl _)
  clear hba hb1
  go_wp2_with fail
  refine (unwrap_any A1 (l.length + 8) c1 _ (wrapB_length l) w1 hr1 (by omega) hc1).mono ?_
  rintro e w2 (⟨x, v, hf, rfl, f1, hb2⟩ | ⟨hf, rfl, hb2⟩)
  case inr => 
    rw [unwrapB_wrap l (by omega)] at hf
    cases hf
  rw [unwrapB_wrap l (by omega)] at hf
  simp only [Option.some.injEq] at hf
  subst hf
  obtain ⟨A2, c2, rfl, hc2, hm2, hr2, hB2⟩ := f1
  clear hB2
  replace hr := hr.below hb2
  replace hr4 := hr4.below hb2
  replace hr1 := hr1.below hb2
  have hw2 := below_then hw1 hb2 (Nat.le_refl _)
  clear hw1 hb2
  have k1 : (convert 22 9 (.slice A2 l.length c2)).run Try.prog w2 = .ok (.string (bstr l)) w2 :=
    run_string_of (P := Try.prog) w2 22 9 5 Try.underlying22 Try.underlying5 Try.underlying9 A2 l c2 hr2
  have k2 : (convert 22 9 (.slice A l.length c)).run Try.prog w2 = .ok (.string (bstr l)) w2 :=
    run_string_of (P := Try.prog) w2 22 9 5 Try.underlying22 Try.underlying5 Try.underlying9 A l c hr
  clear hr2 hr
  have hz2 := hw2.size
  have ho0 : (w2.alloc (Obj.cells #[] 5)).ownsRow w2.heap.size 5 1 (.slice (some ⟨w2.heap.size, 0, none⟩) 0 0) 0 [] := World.ownsRow_lit w2 #[] 0 (Nat.le_refl _) (by unfold maxLen; omega) rfl
  go_wp2_with (at_builtin; refine wpList_app elt8 rfl (.tmp 71) (.tmp 72) rfl w2.heap.size (.slice (some ⟨w2.heap.size, 0, none⟩) 0 0) 0 [] rfl ho0 A1 (l.length + 8) c1 (u8v (wrapB l)) rfl ?_ (hr1.alloc _) (u8v_one _) ?_ ?_ (by simp) ?_)
  case refine_1 => rw [u8v_length, wrapB_length]; simp
  case refine_2 => unfold maxLen; omega
  case refine_3 => omega
  intro vt w3 ho hg
  have hb3 := below_grown ((Below.refl _ w2).alloc (Nat.le_refl _) (Obj.cells #[] 5)) ho0 hg (by simp) (Nat.le_refl _)
  obtain ⟨gt, ct, rfl⟩ := Joins.ownsRow_form ho (by omega)
  clear ho0 hg k1 k2
  obtain ⟨fr, hfr, hfr2⟩ : ∃ fr : Nat, (at1 : Int) % (8 * ((l.length : Int) + 8)) = (fr : Int) ∧ fr < 8 * (l.length + 8) := ⟨at1 % (8 * (l.length + 8)), by simp, Nat.mod_lt _ (by omega)⟩
  have hmod3 : (x3 : Int) % ((l.length : Int) + 8) = ((x3 % (l.length + 8) : Nat) : Int) := by simp
  have hcut := Nat.mod_lt x3 (show 0 < l.length + 8 by omega)
  obtain ⟨ct3, hct3⟩ : ∃ ct3, ct3 = x3 % (l.length + 8) := ⟨_, rfl⟩
  rw [← hct3] at hmod3 hcut
  clear hct3
  go_wp2_with fail
  go_loopw [18] (fun i wr => ∃ k : Nat, k ≤ 32 ∧ i = .int .i64 k ∧ ∃ (tl : List UInt8) (v : Nat), Hid (tl.length = l.length + 8) ∧ Hid (leN tl = leN (wrapB l) ^^^ (2 ^ fr * v)) ∧ v < 2 ^ k ∧ wr.ownsRow w2.heap.size 5 1 (.slice (some ⟨gt, 0, none⟩) (l.length + 8) ct) (l.length + 8) (u8v tl) ∧ Below w2.heap.size w2 wr) (fun i _ => 32 - (intOf i).toNat)
  case atStart => exact ⟨0, by omega, rfl, wrapB l, 0, wrapB_length l, by show _ = _; simp, by omega, ho, hb3⟩
  case round =>
    obtain ⟨k, hk, rfl, tl, v, htl, hle, hv, hown, hbr⟩ := hrel
    have htl' := htl.out
    by_cases hlt : k < 32
    · have hand : bits BinOp.and IntKind.u32 ((x2 : Int) / 2 ^ k) 1 = ((x2 / 2 ^ k % 2 : Nat) : Int) := by
        have := u32_and_nat (x2 / 2 ^ k) 1 (Nat.lt_of_le_of_lt (Nat.div_le_self _ _) h2) (by omega)
        rw [show x2 / 2 ^ k &&& 1 = x2 / 2 ^ k % 2 from Nat.and_two_pow_sub_one_eq_mod _ 1] at this
        rw [← this]
        simp
      obtain ⟨q, hq⟩ : ∃ q, q = x2 / 2 ^ k % 2 := ⟨_, rfl⟩
      have hq2 : q < 2 := by omega
      rw [← hq] at hand
      clear hq
      have hstay : ∃ (tl' : List UInt8) (v : Nat), Hid (tl'.length = l.length + 8) ∧ Hid (leN tl' = leN (wrapB l) ^^^ (2 ^ fr * v)) ∧ v < 2 ^ (k + 1) ∧ wr.ownsRow w2.heap.size 5 1 (.slice (some ⟨gt, 0, none⟩) (l.length + 8) ct) (l.length + 8) (u8v tl') := ⟨tl, v, htl, hle, by rw [Nat.pow_succ]; omega, hown⟩
      by_cases hbit : q = 1
      · subst hbit
        by_cases hin : fr + k < 8 * (l.length + 8)
        · clear hstay
          have hix : (fr + k) / 8 < tl.length := by omega
          have hcell := hown.cells (g := gt) rfl ((fr + k) / 8) _ (u8v_get tl _ hix)
          rw [addr_add_plain, Nat.zero_add] at hcell
          have hfro := hown.frozenAt ((fr + k) / 8)
          obtain ⟨b, hb⟩ : ∃ b, b = tl[(fr + k) / 8] := ⟨_, rfl⟩
          rw [← hb] at hcell
          have HB := Lib.hid hb
          clear hb
          have hb8 := b.toNat_lt
          have hpow : (2 : Nat) ^ ((fr + k) % 8) < 256 := by
            have h8 := Nat.pow_le_pow_right (n := 2) (by omega) (show (fr + k) % 8 ≤ 7 by omega)
            omega
          obtain ⟨mb, hmb⟩ : ∃ mb : UInt8, mb.toNat = 2 ^ ((fr + k) % 8) := ⟨UInt8.ofNat (2 ^ ((fr + k) % 8)), by rw [UInt8.toNat_ofNat']; exact Nat.mod_eq_of_lt hpow⟩
          have hxor : bits BinOp.xor IntKind.u8 (b.toNat : Int) (2 ^ ((fr + k) % 8) % 256) = ((b ^^^ mb).toNat : Int) := by
            rw [UInt8.toNat_xor, ← u8_xor_nat _ _ (by omega) mb.toNat_lt, hmb]
            congr 1
            have : ((2 ^ ((fr + k) % 8) : Nat) : Int) = 2 ^ ((fr + k) % 8) := by simp
            omega
          have hst := hown.stored ((fr + k) / 8) (.int .u8 ((b ^^^ mb).toNat : Int))
          have hbs := below_grown hbr hown hst.2 hbr.size (Nat.le_refl _)
          have hrow : (u8v tl).set ((fr + k) / 8) (.int .u8 ((b ^^^ mb).toNat : Int)) = u8v (tl.set ((fr + k) / 8) (b ^^^ mb)) := by unfold u8v; rw [List.map_set]
          rw [hrow] at hst
          have hturn := turn_more (from_ := fr) hle.out hv
          have hflip := leN_flip tl (fr + k) mb hmb hix
          rw [← HB.out, hturn.1] at hflip
          have HF := Lib.hid hflip
          clear hflip hrow hmb
          go_wp2_with fail
          go_roundw
          case rel => exact ⟨k + 1, by omega, by go_num, tl.set ((fr + k) / 8) (b ^^^ mb), v ^^^ 2 ^ k, by show _ = _; rw [List.length_set]; exact htl', HF.out, hturn.2, hst.1, hbs⟩
          case measure => simp [intOf]; omega
        · go_wp2_with fail
          go_roundw
          case rel => 
            obtain ⟨tl', v', s1, s2, s3, s4⟩ := hstay
            exact ⟨k + 1, by omega, by go_num, tl', v', s1, s2, s3, s4, hbr⟩
          case measure => simp [intOf]; omega
      · obtain rfl : q = 0 := by omega
        go_wp2_with fail
        go_roundw
        case rel => 
          obtain ⟨tl', v', s1, s2, s3, s4⟩ := hstay
          exact ⟨k + 1, by omega, by go_num, tl', v', s1, s2, s3, s4, hbr⟩
        case measure => simp [intOf]; omega
    · obtain rfl : k = 32 := by omega
      have hzr := hbr.size
      clear ho hb3
      have hsame : tl = wrapB l ↔ unwrapB tl ≠ none := ⟨fun h => by rw [h, unwrapB_wrap l (by omega)]; simp, fun h => burst (x := l) (t := tl) (from_ := fr) (v := v) (by omega) (by rw [htl', wrapB_length]) (by omega) (by omega) hle.out h⟩
      go_wp2_with fail
      refine (unwrap_says (some ⟨gt, 0, none⟩) (l.length + 8) ct tl _ hsame htl' wr (fun j u hj => ⟨_, rfl, hown.cells (g := gt) rfl j u hj⟩) (by omega) ?_).mono ?_
      · obtain ⟨_, _, he, hcc, _⟩ := RdC.of_own hown
        cases he
        exact hcc
      rintro e w4 ⟨⟨T1, T2, T3, r1, rfl, hr1s⟩, hb4⟩
      have hbw4 := below_then hbr hb4 (Nat.le_refl _)
      have hown4 := own_below hown hb4
      have hr1w := hr1.below hbw4
      have s1 := run_sub_h (P := Try.prog) w4 22 A1 (l.length + 8) c1 1 Try.underlying22 (Try.sizeOf5 w4) (ct3 : Int) ct3 rfl (by omega)
      clear hown hbr hb4
      go_wp2_with fail
      refine (unwrap_no A1 ct3 c1 ((wrapB l).take ct3) (unwrapB_cut l (by omega) ct3 hcut) (by rw [List.length_take, wrapB_length]; omega) w4 (by rw [← u8v_take]; exact hr1w.take _) (by omega) (by omega)).mono ?_
      rintro e w5 ⟨⟨U1, U2, U3, rfl⟩, hb5⟩
      have hbw5 := below_then hbw4 hb5 (Nat.le_refl _)
      have hown5 := own_below hown4 hb5
      clear s1 hr1w hown4 hb5 hbw4
      have hr1w := hr1.below hbw5
      have hr4w := hr4.below hbw5
      have hz5 := hbw5.size
      have ho0 : (w5.alloc (Obj.cells #[] 5)).ownsRow w5.heap.size 5 1 (.slice (some ⟨w5.heap.size, 0, none⟩) 0 0) 0 [] := World.ownsRow_lit w5 #[] 0 (Nat.le_refl _) (by unfold maxLen; omega) rfl
      go_wp2_with (at_builtin; refine wpList_app elt8 rfl (.tmp 131) (.tmp 132) rfl w5.heap.size (.slice (some ⟨w5.heap.size, 0, none⟩) 0 0) 0 [] rfl ho0 A1 (l.length + 8) c1 (u8v (wrapB l)) rfl ?_ (hr1w.alloc _) (u8v_one _) ?_ ?_ (by simp) ?_)
      case refine_1 => rw [u8v_length, wrapB_length]; simp
      case refine_2 => unfold maxLen; omega
      case refine_3 => omega
      intro v6 w6 ho6 hg6
      have hb6 := below_grown ((Below.refl _ w5).alloc (Nat.le_refl _) (Obj.cells #[] 5)) ho0 hg6 (by simp) (Nat.le_refl _)
      have hr4x := hr4w.below hb6
      clear ho0 hg6
      go_wp2_with (at_builtin; refine wpList_app elt8 rfl (.tmp 133) (.tmp 134) rfl w5.heap.size v6 (l.length + 8) _ rfl ho6 A4 n4 c4 (u8v l4) rfl ?_ hr4x (u8v_one _) ?_ ?_ hb6.size ?_)
      case refine_1 => rw [u8v_length, HL4.out]; simp
      case refine_2 => unfold maxLen; omega
      case refine_3 => omega
      intro v7 w7 ho7 hg7
      have hb7 := below_grown hb6 ho6 hg7 hb6.size (Nat.le_refl _)
      clear ho6 hg7 hb6 hr4x hr4w hr1w
      obtain ⟨A7, c7, rfl, hc7, hm7, hr7, hB7⟩ := RdC.of_own ho7
      clear hB7 ho7
      rw [← u8v_append] at hr7
      have hmore : n4 = 0 ↔ unwrapB (wrapB l ++ l4) ≠ none := by
        rw [← HL4.out]
        cases l4 with
        | nil => rw [List.append_nil, unwrapB_wrap l (by omega)]; simp
        | cons a r => rw [unwrapB_more l (a :: r) (by omega) (by simp)]; simp
      go_wp2_with fail
      refine (unwrap_says A7 (l.length + 8 + n4) c7 (wrapB l ++ l4) _ hmore (by rw [List.length_append, wrapB_length, HL4.out]) w7 hr7 (by omega) hc7).mono ?_
      rintro e w8 ⟨⟨V1, V2, V3, r3, rfl, hr3s⟩, hb8⟩
      have hbw7 := below_then hbw5 hb7 (Nat.le_refl _)
      have hbw8 := below_then hbw7 hb8 (Nat.le_refl _)
      have hown8 := own_below (own_below hown5 hb7) hb8
      have hr1w := hr1.below hbw8
      clear hown5 hb7 hb8 hr7 hbw5 hbw7 hr1 hr4
      have k1 : (convert 22 9 (.slice (some ⟨gt, 0, none⟩) (l.length + 8) ct)).run Try.prog w8 = .ok (.string (bstr tl)) w8 := by
        rw [← htl']
        exact run_string_of (P := Try.prog) w8 22 9 5 Try.underlying22 Try.underlying5 Try.underlying9 (some ⟨gt, 0, none⟩) tl ct (fun j u hj => ⟨_, rfl, hown8.cells (g := gt) rfl j u hj⟩)
      have k2 : (convert 22 9 (.slice A1 (l.length + 8) c1)).run Try.prog w8 = .ok (.string (bstr (wrapB l))) w8 := by
        rw [← wrapB_length l]
        exact run_string_of (P := Try.prog) w8 22 9 5 Try.underlying22 Try.underlying5 Try.underlying9 A1 (wrapB l) c1 hr1w
      have hend := below_then hw2 hbw8 (Nat.le_refl _)
      have hstr : (bstr tl).toList = (bstr (wrapB l)).toList ↔ tl = wrapB l := by rw [bstr_toList, bstr_toList]
      obtain ⟨X, hX⟩ : ∃ X, X = bstr tl := ⟨_, rfl⟩
      obtain ⟨Y, hY⟩ : ∃ Y, Y = bstr (wrapB l) := ⟨_, rfl⟩
      rw [← hX] at k1 hstr
      rw [← hY] at k2 hstr
      have hq1 : (r1 == 0) = (X.toList == Y.toList) := by
        rw [Bool.eq_iff_iff, beq_iff_eq, beq_iff_eq, hstr, hr1s]
      have hq3 : (r3 == 0) = ((n4 : Int) == 0) := by
        rw [Bool.eq_iff_iff, beq_iff_eq, beq_iff_eq, hr3s]
        omega
      clear hX hY hstr hr1s hr3s hsame hmore hown8 hr1w htl htl' hle hfr hmod3
      go_wp2_with fail
      go_ret
      exact ⟨by simp, hend⟩
end Go.Proofs.Ytnpdbnphoifjlaa
