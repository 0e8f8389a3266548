/- The walks through the reference of sums: the same plain functions. -/
import Derived.Test.YtnpdbnphoifjlaaSumW3
import Derived.Test.YtnpdbnphoifjlaaSumL
namespace Go.Proofs.Ytnpdbnphoifjlaa
open Go.RowKit

theorem xor_poly (n : Nat) (h : n < 4294967296) : bits BinOp.xor IntKind.u32 (n : Int) 3988292384 = ((n ^^^ poly : Nat) : Int) := u32_xor_nat n 3988292384 h (by omega)

set_option maxHeartbeats 400000 in
theorem turned_any (n : Nat) (h : n < 4294967296) (w : World) :
    Calls Try.prog 22 #[.int .u32 n] w fun e w' => e = .returned (.int .u32 (4294967295 - n : Nat)) ∧ w = w' := by
  go_enter Try.func22, Try.ntmps22
  go_wp2
  go_ret
  exact ⟨by show Ending.returned (.int .u32 (4294967295 - (n : Int))) = _; rw [Int.ofNat_sub (by omega)]; rfl, rfl⟩

set_option maxHeartbeats 400000 in
theorem rrow_any (c : UInt8) (w : World) :
    Calls Try.prog 14 #[.int .u8 (c.toNat : Int)] w fun e w' => e = .returned (.int .u32 (rowN c.toNat)) ∧ w = w' := by
  have hc := c.toNat_lt
  go_enter Try.func14, Try.ntmps14
  go_wp2
  go_loop [3, 4] (fun m i => ∃ k : Nat, k ≤ 8 ∧ i = .int .i64 k ∧ ∃ q : Nat, q < 4294967296 ∧ m = .int .u32 q ∧ Hid (q = iterN k c.toNat)) (fun _ i => 8 - (intOf i).toNat)
  case atStart => exact ⟨0, by omega, rfl, c.toNat, by omega, rfl, rfl⟩
  case round =>
    obtain ⟨k, hk, rfl, q, hq, rfl, hq2⟩ := hrel
    have hx := xor_poly (q / 2) (by omega)
    by_cases hlt : k < 8
    · rcases Nat.mod_two_eq_zero_or_one q with hm | hm
      · have h0 : ((q : Int) % 2) = 0 := by omega
        go_wp2
        go_round
        case rel => exact ⟨k+1, by omega, by go_num, q / 2, by omega, rfl, by show _ = _; rw [iterN, ← hq2.out]; unfold stepN; rw [if_neg (by omega)]; simp⟩
        case measure => simp [intOf]; omega
      · have h0 : ((q : Int) % 2) = 1 := by omega
        go_wp2
        go_round
        case rel => exact ⟨k+1, by omega, by go_num, stepN q, stepN_lt q hq, by unfold stepN; rw [if_pos hm, ← hx]; rfl, by show _ = _; rw [iterN, ← hq2.out]⟩
        case measure => simp [intOf]; omega
    · obtain rfl : k = 8 := by omega
      go_wp2
      go_ret
      exact ⟨by rw [hq2.out]; rfl, rfl⟩

set_option maxHeartbeats 1000000 in
theorem over_any (s : Nat) (hs : s < 4294967296) (A : Option Addr) (n c : Nat) (l : List UInt8) (hn0 : l.length = n) (w : World) (hr : RdC w A (u8v l)) (hl0 : n ≤ 9223372036854775807) :
    Calls Try.prog 23 #[.int .u32 s, .slice A n c] w fun e w' => e = .returned (.int .u32 (overN s l)) ∧ w = w' := by
  subst hn0
  have hl := hl0
  go_enter Try.func23, Try.ntmps23
  go_wp2
  go_loop [0, 5] (fun m i => ∃ k : Nat, k ≤ l.length ∧ i = .int .i64 k ∧ ∃ q : Nat, q < 4294967296 ∧ m = .int .u32 q ∧ Hid (q = overN s (l.take k))) (fun _ i => l.length - (intOf i).toNat)
  case atStart => exact ⟨0, by omega, rfl, s, by omega, rfl, rfl⟩
  case round =>
    obtain ⟨k, hk, rfl, q, hq, rfl, hq2⟩ := hrel
    by_cases hlt : k < l.length
    · obtain ⟨ad, rfl, hc⟩ := cell_of_rd hr k hlt
      obtain ⟨b, hb⟩ : ∃ b, b = l[k] := ⟨_, rfl⟩
      rw [← hb] at hc
      have hB : Hid (b = l[k]) := hb
      clear hb
      have hb8 := b.toNat_lt
      go_wp2
      go_loop [0, 6, 7] (fun m y i => ∃ j : Nat, j ≤ 8 ∧ i = .int .i64 j ∧ ∃ x z : Nat, x < 4294967296 ∧ z < 256 ∧ m = .int .u32 x ∧ y = .int .u8 z ∧ Hid (x = bitsN j q b.toNat) ∧ Hid (z = b.toNat / 2 ^ j)) (fun _ _ i => 8 - (intOf i).toNat)
      case atStart => exact ⟨0, by omega, rfl, q, b.toNat, hq, by omega, rfl, rfl, rfl, by show _ = _; simp⟩
      case round =>
        obtain ⟨j, hj, rfl, x, z, hx, hz, rfl, rfl, hx2, hz2⟩ := hrel
        have hxp : bits BinOp.xor IntKind.u32 ((x : Int) / 2) 3988292384 = ((x / 2 ^^^ poly : Nat) : Int) := xor_poly (x / 2) (by omega)
        have hzz : z / 2 = b.toNat / 2 ^ (j + 1) := by rw [hz2.out, Nat.div_div_eq_div_mul, Nat.pow_succ]
        have hZ := Lib.hid hzz
        clear hzz
        by_cases hj8 : j < 8
        · by_cases hu : x % 2 = z % 2
          · have hd : ((x : Int) % 2 != (z : Int) % 2) = false := by simp; omega
            go_wp2
            go_round
            case rel => exact ⟨j+1, by omega, by go_num, x / 2, z / 2, by omega, by omega, rfl, rfl, by show _ = _; rw [bitsN, ← hx2.out, ← hz2.out]; unfold bitN; rw [if_pos hu]; simp, hZ.out⟩
            case measure => simp [intOf]; omega
          · have hd : ((x : Int) % 2 != (z : Int) % 2) = true := by simp; omega
            have hlt2 := xor_lt32 (x / 2) poly (by omega) (by unfold poly; omega)
            go_wp2
            go_round
            case rel => exact ⟨j+1, by omega, by go_num, x / 2 ^^^ poly, z / 2, hlt2, by omega, rfl, rfl, by show _ = _; rw [bitsN, ← hx2.out, ← hz2.out]; unfold bitN; rw [if_neg hu], hZ.out⟩
            case measure => simp [intOf]; omega
        · obtain rfl : j = 8 := by omega
          go_wp2
          go_round
          case rel => exact ⟨k+1, by omega, by go_num, x, hx, rfl, by show _ = _; rw [overN_snoc _ _ _ hlt, ← hq2.out, ← hB.out, hx2.out, bits8]⟩
          case measure => simp [intOf]; omega
    · obtain rfl : k = l.length := by omega
      go_wp2
      go_ret
      exact ⟨by rw [hq2.out, List.take_length]; rfl, rfl⟩

theorem ofN_one (l : List UInt8) : ofN [l] = onN 0 l := rfl
set_option maxHeartbeats 400000 in
theorem rof_any (A : Option Addr) (n c : Nat) (l : List UInt8) (hn0 : l.length = n) (w : World) (hr : RdC w A (u8v l)) (hl0 : n ≤ 9223372036854775807) :
    Calls Try.prog 9 #[.slice A n c] w fun e w' => e = .returned (.int .u32 (ofN [l])) ∧ w = w' := by
  have h1 := over_any 4294967295 (by omega) A n c l hn0 w hr hl0
  have h2 := turned_any (overN 4294967295 l) (overN_lt l _ (by omega)) w
  have e : ofN [l] = 4294967295 - overN 4294967295 l := rfl
  rw [← e] at h2
  clear e
  go_enter Try.func9, Try.ntmps9
  go_wp2_with fail
  refine h1.mono ?_
  rintro e w' ⟨rfl, rfl⟩
  go_wp2_with fail
  refine h2.mono ?_
  rintro e w' ⟨rfl, rfl⟩
  go_wp2_with fail
  go_ret
  exact ⟨rfl, rfl⟩
set_option maxHeartbeats 400000 in
theorem ron_any (s : Nat) (hs : s < 4294967296) (A : Option Addr) (n c : Nat) (l : List UInt8) (hn0 : l.length = n) (w : World) (hr : RdC w A (u8v l)) (hl0 : n ≤ 9223372036854775807) :
    Calls Try.prog 12 #[.int .u32 s, .slice A n c] w fun e w' => e = .returned (.int .u32 (onN s l)) ∧ w = w' := by
  have h0 := turned_any s hs w
  have h1 := over_any (4294967295 - s) (by omega) A n c l hn0 w hr hl0
  have h2 := turned_any (overN (4294967295 - s) l) (overN_lt l _ (by omega)) w
  have e : onN s l = 4294967295 - overN (4294967295 - s) l := rfl
  rw [← e] at h2
  clear e
  go_enter Try.func12, Try.ntmps12
  go_wp2_with fail
  refine h0.mono ?_
  rintro e w' ⟨rfl, rfl⟩
  go_wp2_with fail
  refine h1.mono ?_
  rintro e w' ⟨rfl, rfl⟩
  go_wp2_with fail
  refine h2.mono ?_
  rintro e w' ⟨rfl, rfl⟩
  go_wp2_with fail
  go_ret
  exact ⟨rfl, rfl⟩

set_option maxHeartbeats 400000 in
theorem rnumber_any (A : Option Addr) (n c : Nat) (l : List UInt8) (hn0 : l.length = n) (w : World) (hr : RdC w A (u8v l)) (h4 : 4 ≤ n) :
    Calls Try.prog 30 #[.slice A n c] w fun e w' => e = .returned (.int .u32 (numB l)) ∧ w = w' := by
  subst hn0
  obtain ⟨ad, rfl, c0⟩ := cell_of_rd hr 0 (by omega)
  obtain ⟨_, e1, c1⟩ := cell_of_rd hr 1 (by omega)
  obtain ⟨_, e2, c2⟩ := cell_of_rd hr 2 (by omega)
  obtain ⟨_, e3, c3⟩ := cell_of_rd hr 3 (by omega)
  cases e1
  cases e2
  cases e3
  have hnum : Hid (numB l = l[0].toNat + 256 * l[1].toNat + 65536 * l[2].toNat + 16777216 * l[3].toNat) := by
    show _ = _
    simp [numB, List.getD, show 0 < l.length by omega, show 1 < l.length by omega, show 2 < l.length by omega, show 3 < l.length by omega]
  have h0 := l[0].toNat_lt
  have h1 := l[1].toNat_lt
  have h2 := l[2].toNat_lt
  have h3 := l[3].toNat_lt
  generalize l[0].toNat = b0 at *
  generalize l[1].toNat = b1 at *
  generalize l[2].toNat = b2 at *
  generalize l[3].toNat = b3 at *
  simp only [Addr.add, Nat.reduceEqDiff, if_false, if_true, ↓reduceIte] at c0 c1 c2 c3
  go_enter Try.func30, Try.ntmps30
  go_wp2
  refine wp_loop_rounds 5 ?_
  rw [rounds_succ]
  go_wp2
  rw [rounds_succ]
  go_wp2
  rw [rounds_succ]
  go_wp2
  rw [rounds_succ]
  go_wp2
  rw [rounds_succ]
  go_wp2
  go_ret
  refine ⟨?_, rfl⟩
  rw [hnum.out]
  refine congrArg Ending.returned (congrArg (Value.int .u32) ?_)
  simp
  omega

/-- 'append(x, y...)' where x is the call's own and y lies anywhere: the law at bytes. -/
theorem info8 : (Try.prog.info? 5).map (fun i => (i.zero, i.size, i.bytes)) = some (some (.int .u8 0), 1, 1) := by kernel_rfl

set_option maxHeartbeats 400000 in
theorem rfour_any (n : Nat) (h : n < 4294967296) (w : World) :
    Calls Try.prog 29 #[.int .u32 n] w fun e w' => (∃ v, e = .returned v ∧ w'.ownsRow w.heap.size 5 1 v 4 (u8v (fourB n))) ∧ Below w.heap.size w w' := by
  go_enter Try.func29, Try.ntmps29
  go_wp2
  go_ret
  refine ⟨⟨_, rfl, ?_⟩, (Below.refl _ _).alloc (Nat.le_refl _) _⟩
  have := World.ownsRow_lit (e := 5) (base := w.heap.size) (size := 1) w (u8v (fourB n)).toArray 4 (Nat.le_refl _) (by unfold maxLen; omega) (by simp [u8v, fourB])
  simp only [u8v, fourB, List.map_cons, List.map_nil, byte_of _ (show n % 256 < 256 by omega), byte_of _ (show n / 256 % 256 < 256 by omega), byte_of _ (show n / 65536 % 256 < 256 by omega), byte_of _ (show n / 16777216 % 256 < 256 by omega)] at this ⊢
  have e4 : ((n / 16777216 % 256 : Nat) : Int) = (n : Int) / 16777216 := by omega
  rw [e4] at this ⊢
  exact this
end Go.Proofs.Ytnpdbnphoifjlaa
