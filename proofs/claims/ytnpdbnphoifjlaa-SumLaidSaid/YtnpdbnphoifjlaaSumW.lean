/- The walks through package sum: what each function computes. -/
import Derived.Test.YtnpdbnphoifjlaaProg
import Derived.Test.YtnpdbnphoifjlaaSumP
import Derived.Test.YtnpdbnphoifjlaaShelf
namespace Go.Proofs.Ytnpdbnphoifjlaa
open Go.RowKit

set_option maxHeartbeats 400000 in
theorem step_any (n : Nat) (w : World) (h1 : n < 4294967296) :
    Calls Try.prog 31 #[.int .u32 n] w fun e w' => e = .returned (.int .u32 (stepN n)) ∧ w = w' := by
  have hn : (n : Int) ≤ 4294967295 := by omega
  go_enter Try.func31, Try.ntmps31
  go_wp2
  go_ret
  exact ⟨congrArg _ (congrArg _ (step_eq n h1)), rfl⟩

set_option maxHeartbeats 400000 in
theorem row_any (n : Nat) (w : World) (h1 : n < 4294967296) :
    Calls Try.prog 24 #[.int .u32 n] w fun e w' => e = .returned (.int .u32 (rowN n)) ∧ w = w' := by
  go_enter Try.func24, Try.ntmps24
  go_wp2
  go_loop [0, 4] (fun m i => ∃ k : Nat, k ≤ 8 ∧ i = .int .i64 k ∧ ∃ q : Nat, q < 4294967296 ∧ m = .int .u32 q ∧ Hid (q = iterN k n)) (fun _ i => 8 - (intOf i).toNat)
  case atStart => exact ⟨0, by omega, rfl, n, h1, rfl, rfl⟩
  case round =>
    obtain ⟨k, hk, rfl, q, hq, rfl, hq2⟩ := hrel
    go_wp2_with (go_at_call 31; refine (step_any _ _ hq).mono ?_; rintro e w' ⟨rfl, rfl⟩)
    · go_round
      case rel => exact ⟨k+1, by omega, by go_num, _, stepN_lt q hq, rfl, by show _ = _; rw [iterN, hq2.out]⟩
      case measure => simp [intOf]; omega
    · go_ret
      obtain rfl : k = 8 := by omega
      exact ⟨by rw [hq2.out]; rfl, rfl⟩

theorem not_nat32 (s : Nat) (h : s < 4294967296) : 4294967295 ^^^ s = 4294967295 - s := by
  have e := congrArg BitVec.toNat (BitVec.allOnes_sub_eq_not (x := BitVec.ofNat 32 s))
  have h2 : BitVec.toNat (BitVec.allOnes 32 ^^^ BitVec.ofNat 32 s) = 4294967295 ^^^ s := by
    rw [BitVec.toNat_xor, BitVec.toNat_ofNat, Nat.mod_eq_of_lt h, BitVec.toNat_allOnes]
  rw [← h2, BitVec.allOnes_xor, ← e, BitVec.toNat_sub, BitVec.toNat_allOnes, BitVec.toNat_ofNat, Nat.mod_eq_of_lt h]
  omega
theorem not_u32 (s : Nat) (h : s < 4294967296) : bits BinOp.xor IntKind.u32 IntKind.u32.max (s : Int) = ((4294967295 - s : Nat) : Int) :=
  (u32_xor_nat 4294967295 s (by omega) h).trans (congrArg _ (not_nat32 s h))

set_option maxHeartbeats 400000 in
theorem on_any (s : Nat) (hs : s < 4294967296) (A : Option Addr) (n c : Nat) (l : List UInt8) (hn0 : l.length = n) (w : World) (hr : RdC w A (u8v l)) (hl0 : n ≤ 9223372036854775807) :
    Calls Try.prog 11 #[.int .u32 s, .slice A n c] w fun e w' => e = .returned (.int .u32 (onN s l)) ∧ w = w' := by
  subst hn0
  have hl := hl0
  have hn := not_u32 s hs
  go_enter Try.func11, Try.ntmps11
  go_wp2
  go_loop [5, 12] (fun m i => ∃ k : Nat, k ≤ l.length ∧ i = .int .i64 k ∧ ∃ q : Nat, q < 4294967296 ∧ m = .int .u32 q ∧ Hid (q = overN (4294967295 - s) (l.take k))) (fun _ i => l.length - (intOf i).toNat)
  case atStart => exact ⟨0, by omega, rfl, _, by omega, rfl, rfl⟩
  case round =>
    obtain ⟨k, hk, rfl, q, hq, rfl, hq2⟩ := hrel
    by_cases hlt : k < l.length
    · obtain ⟨ad, rfl, hc⟩ := cell_of_rd hr k hlt
      obtain ⟨b, hb⟩ : ∃ b, b = l[k] := ⟨_, rfl⟩
      rw [← hb] at hc
      have hB : Hid (b = l[k]) := hb
      clear hb
      have hb8 := b.toNat_lt
      have e1 : bits BinOp.xor IntKind.u8 ((q : Int) % 256) (b.toNat : Int) = ((q % 256 ^^^ b.toNat : Nat) : Int) := u8_xor_nat (q % 256) _ (by omega) hb8
      have hx := xor_lt8 (q % 256) b.toNat (by omega) hb8
      have hrow := rowN_lt (q % 256 ^^^ b.toNat) (by omega)
      have e2 : bits BinOp.xor IntKind.u32 ((q : Int) / 256) (rowN (q % 256 ^^^ b.toNat) : Nat) = (byteN q b : Nat) := u32_xor_nat (q / 256) _ (by omega) hrow
      go_wp2_with (go_at_call 24; refine (row_any _ _ (by omega)).mono ?_; rintro e w' ⟨rfl, rfl⟩)
      go_round
      case rel => exact ⟨k+1, by omega, by go_num, _, byteN_lt q b hq, rfl, by show _ = _; rw [overN_snoc _ _ _ hlt, ← hq2.out, ← hB.out]⟩
      case measure => simp [intOf]; omega
    · obtain rfl : k = l.length := by omega
      have hn2 := not_u32 q hq
      go_wp2
      go_ret
      exact ⟨by unfold onN; rw [hq2.out, List.take_length]; rfl, rfl⟩

/-- A list of byte slices, as they lie. -/
structure SlB where
  A : Option Addr
  n : Nat
  c : Nat
  l : List UInt8
def SlB.val (s : SlB) : Value := .slice s.A s.n s.c
def SlB.ok (w : World) (s : SlB) : Prop := RdC w s.A (u8v s.l) ∧ s.l.length = s.n ∧ s.n ≤ 9223372036854775807

theorem ofN_snoc (L : List SlB) (k : Nat) (h : k < L.length) : ofN ((L.take (k + 1)).map (·.l)) = onN (ofN ((L.take k).map (·.l))) L[k].l := by
  unfold ofN
  rw [List.take_succ_eq_append_getElem h, List.map_append, List.foldl_append]
  rfl
set_option maxHeartbeats 400000 in
theorem of_any (A : Option Addr) (n c : Nat) (L : List SlB) (hn0 : L.length = n) (w : World) (hr : RdC w A (L.map SlB.val)) (ho : ∀ s ∈ L, s.ok w) (hl0 : n ≤ 9223372036854775807) :
    Calls Try.prog 10 #[.slice A n c] w fun e w' => e = .returned (.int .u32 (ofN (L.map (·.l)))) ∧ w = w' := by
  subst hn0
  have hl := hl0
  go_enter Try.func10, Try.ntmps10
  go_wp2
  go_loop [3, 8] (fun m i => ∃ k : Nat, k ≤ L.length ∧ i = .int .i64 k ∧ ∃ q : Nat, q < 4294967296 ∧ m = .int .u32 q ∧ Hid (q = ofN ((L.take k).map (·.l)))) (fun _ i => L.length - (intOf i).toNat)
  case atStart => exact ⟨0, by omega, rfl, 0, by omega, rfl, rfl⟩
  case round =>
    obtain ⟨k, hk, rfl, q, hq, rfl, hq2⟩ := hrel
    by_cases hlt : k < L.length
    · obtain ⟨ad, rfl, hc⟩ := hr k (L[k].val) (by simp [hlt])
      obtain ⟨b, hb⟩ : ∃ b, b = L[k] := ⟨_, rfl⟩
      rw [← hb] at hc
      have hB : Hid (b = L[k]) := hb
      have hbo : b.ok w := ho b (by rw [hb]; exact List.getElem_mem _)
      clear hb
      unfold SlB.val at hc
      go_wp2_with (go_at_call 11; refine (on_any _ hq _ _ _ _ hbo.2.1 _ hbo.1 hbo.2.2).mono ?_; rintro e w' ⟨rfl, rfl⟩)
      go_round
      case rel => exact ⟨k+1, by omega, by go_num, _, onN_lt _ _, rfl, by show _ = _; rw [ofN_snoc L k hlt, hq2.out, hB.out]⟩
      case measure => simp [intOf]; omega
    · obtain rfl : k = L.length := by omega
      go_wp2
      go_ret
      exact ⟨by rw [hq2.out, List.take_length]; rfl, rfl⟩

theorem byte_of (n : Nat) (h : n < 256) : ((UInt8.ofNat n).toNat : Int) = n := by rw [UInt8.toNat_ofNat']; omega
/-- A number's four bytes, the lowest first. -/
def fourB (n : Nat) : List UInt8 := [UInt8.ofNat (n % 256), UInt8.ofNat (n / 256 % 256), UInt8.ofNat (n / 65536 % 256), UInt8.ofNat (n / 16777216 % 256)]

set_option maxHeartbeats 400000 in
set_option maxRecDepth 20000 in
theorem four_any (n : Nat) (h : n < 4294967296) (w : World) :
    Calls Try.prog 25 #[.int .u32 n] w fun e w' => e = .returned (.agg (u8v (fourB n)).toArray) ∧ Below w.heap.size w w' := by
  go_enter Try.func25, Try.ntmps25
  go_wp2
  refine bodyPost_ret (v := .agg (u8v (fourB n)).toArray) ?_ rfl ⟨rfl, (Below.refl _ _).alloc (Nat.le_refl _) _⟩
  simp only [u8v, fourB, List.map_cons, List.map_nil, byte_of _ (show n % 256 < 256 by omega), byte_of _ (show n / 256 % 256 < 256 by omega), byte_of _ (show n / 65536 % 256 < 256 by omega), byte_of _ (show n / 16777216 % 256 < 256 by omega)]
  simp [results, Try.results25, go_sem]
  omega

/-- Four bytes' number, the lowest first (what lacks counts as 0). -/
def numB (l : List UInt8) : Nat := (l.getD 0 0).toNat + 256 * (l.getD 1 0).toNat + 65536 * (l.getD 2 0).toNat + 16777216 * (l.getD 3 0).toNat
theorem numB_lt (l : List UInt8) : numB l < 4294967296 := by
  unfold numB
  have h0 := (l.getD 0 0).toNat_lt
  have h1 := (l.getD 1 0).toNat_lt
  have h2 := (l.getD 2 0).toNat_lt
  have h3 := (l.getD 3 0).toNat_lt
  omega
theorem or_of (a b i : Nat) (ha : a < 2 ^ i) : a ||| 2 ^ i * b = a + 2 ^ i * b := by
  rw [Nat.or_comm, nat_join i _ _ (Nat.mul_mod_right _ _) ha, Nat.add_comm]
theorem or4 (a b c d : Nat) (ha : a < 256) (hb : b < 256) (hc : c < 256) (hd : d < 256) :
    bits BinOp.or IntKind.u32 (bits BinOp.or IntKind.u32 (bits BinOp.or IntKind.u32 (a : Int) ((b : Int) * 256)) ((c : Int) * 65536)) ((d : Int) * 16777216) = ((a + 256 * b + 65536 * c + 16777216 * d : Nat) : Int) := by
  have e1 : bits BinOp.or IntKind.u32 (a : Int) ((b : Int) * 256) = ((a + 256 * b : Nat) : Int) := by
    rw [Int.mul_comm]
    exact (u32_or_nat a (256 * b) (by omega) (by omega)).trans (congrArg _ (or_of a b 8 (by omega)))
  have e2 : bits BinOp.or IntKind.u32 ((a + 256 * b : Nat) : Int) ((c : Int) * 65536) = ((a + 256 * b + 65536 * c : Nat) : Int) := by
    rw [Int.mul_comm]
    exact (u32_or_nat _ (65536 * c) (by omega) (by omega)).trans (congrArg _ (or_of _ c 16 (by omega)))
  have e3 : bits BinOp.or IntKind.u32 ((a + 256 * b + 65536 * c : Nat) : Int) ((d : Int) * 16777216) = ((a + 256 * b + 65536 * c + 16777216 * d : Nat) : Int) := by
    rw [Int.mul_comm]
    exact (u32_or_nat _ (16777216 * d) (by omega) (by omega)).trans (congrArg _ (or_of _ d 24 (by omega)))
  rw [e1, e2, e3]
theorem splice4 (l : List UInt8) : splice [Value.int .u8 0, .int .u8 0, .int .u8 0, .int .u8 0] 0 (u8v (l.take 4)) = [.int .u8 ((l.getD 0 0).toNat : Int), .int .u8 ((l.getD 1 0).toNat : Int), .int .u8 ((l.getD 2 0).toNat : Int), .int .u8 ((l.getD 3 0).toNat : Int)] := by
  match l with
  | [] => rfl
  | [a] => rfl
  | [a, b] => rfl
  | [a, b, c] => rfl
  | a :: b :: c :: d :: r => simp [splice, u8v]
set_option maxHeartbeats 400000 in
theorem number_any (A : Option Addr) (n c : Nat) (l : List UInt8) (hn0 : l.length = n) (w : World) (hr : RdC w A (u8v l)) (hl0 : n ≤ 9223372036854775807) :
    Calls Try.prog 27 #[.slice A n c] w fun e w' => e = .returned (.int .u32 (numB l)) ∧ Below w.heap.size w w' := by
  subst hn0
  have hl := hl0
  have hcs : (u8v (l.take 4)).length = Nat.min l.length 4 := by rw [u8v_length, List.length_take, Nat.min_comm]; done
  have o4 := or4 (l.getD 0 0).toNat (l.getD 1 0).toNat (l.getD 2 0).toNat (l.getD 3 0).toNat (l.getD 0 0).toNat_lt (l.getD 1 0).toNat_lt (l.getD 2 0).toNat_lt (l.getD 3 0).toNat_lt
  have hs4 := splice4 l
  have hnum : Hid (numB l = (l.getD 0 0).toNat + 256 * (l.getD 1 0).toNat + 65536 * (l.getD 2 0).toNat + 16777216 * (l.getD 3 0).toNat) := (rfl : numB l = _)
  have hlt0 := (l.getD 0 0).toNat_lt
  have hlt1 := (l.getD 1 0).toNat_lt
  have hlt2 := (l.getD 2 0).toNat_lt
  have hlt3 := (l.getD 3 0).toNat_lt
  generalize (l.getD 0 0).toNat = b0 at *
  generalize (l.getD 1 0).toNat = b1 at *
  generalize (l.getD 2 0).toNat = b2 at *
  generalize (l.getD 3 0).toNat = b3 at *
  have HS := Lib.hid hs4
  clear hs4
  go_enter Try.func27, Try.ntmps27
  go_wp2_with (with_reducible refine wpList_copy_splice rfl (.tmp 4) (.tmp 5) 22 22 rfl 5 Try.underlying22 (by kernel_rfl) _ _ _ _ _ _ rfl rfl w.heap.size 0 [.int .u8 0, .int .u8 0, .int .u8 0, .int .u8 0] 49 ?c1 (u8v (l.take 4)) hcs ?c2 ?c3 (u8v_one _) w.heap.size w ?c4 (Nat.le_refl _) ?_)
  case c1 => exact heap_alloc_new w _
  case c2 =>
    intro hp
    obtain ⟨ad, rfl, _⟩ := cell_of_rd hr 0 (by have h4 : Nat.min l.length 4 ≤ l.length := Nat.min_le_left _ _; omega)
    refine ⟨ad, rfl, fun j v hj => ?_⟩
    rw [← u8v_take] at hj
    obtain ⟨_, e, hc⟩ := (hr.alloc _).take 4 j v hj
    cases e
    exact hc
  case c3 => rw [hcs]; have h4 : Nat.min l.length 4 ≤ 4 := Nat.min_le_right _ _; clear o4; simp only [List.length_cons, List.length_nil]; omega
  case c4 => exact (Below.refl _ _).alloc (Nat.le_refl _) _
  intro w' hg hb
  have hg' := hg.out
  rw [HS.out] at hg'
  have c0 : w'.cell? ⟨w.heap.size, 0, none⟩ = some (.int .u8 (b0 : Int)) := cell_of_row w' _ 0 _ _ _ hg'
  have c1 : w'.cell? ⟨w.heap.size, 1, none⟩ = some (.int .u8 (b1 : Int)) := cell_of_row w' _ 1 _ _ _ hg'
  have c2 : w'.cell? ⟨w.heap.size, 2, none⟩ = some (.int .u8 (b2 : Int)) := cell_of_row w' _ 2 _ _ _ hg'
  have c3 : w'.cell? ⟨w.heap.size, 3, none⟩ = some (.int .u8 (b3 : Int)) := cell_of_row w' _ 3 _ _ _ hg'
  clear hg hg'
  go_wp2
  go_ret
  exact ⟨by rw [hnum.out]; rfl, hb⟩

theorem Fresh.of_fb {B : Nat} {w : World} {v : Value} {l : List UInt8} (h : Lib.FreshBytes B w v l) : Fresh B w v l := by
  obtain ⟨g, cap, zs, rfl, hB, hl, hm, hz, hb, hbs, hc, hf⟩ := h
  refine ⟨_, cap, rfl, hl, hm, fun j u hj => ⟨_, rfl, ?_⟩, fun ad e _ => ?_⟩
  · have hjl : j < l.length := by have := (List.getElem?_eq_some_iff.1 hj).1; rwa [u8v_length] at this
    rw [u8v_get l j hjl] at hj
    cases hj
    rw [addr_add_plain, Nat.zero_add, hc j (by omega)]
    have e : l[j]? = (Lib.bytesOf (zs.take l.length))[j]? := by rw [hbs]
    rw [List.getElem?_eq_getElem hjl] at e
    simp only [Lib.bytesOf, List.getElem?_map, List.getElem?_take, hjl, if_true] at e
    rw [List.getElem?_eq_getElem (show j < zs.length by omega)] at e
    simp only [Option.map_some, Option.some.injEq] at e
    rw [e, List.getD_eq_getElem?_getD, List.getElem?_eq_getElem (show j < zs.length by omega)]
    have := hb zs[j] (List.getElem_mem _)
    rw [Option.getD_some, UInt8.toNat_ofNat']
    congr 2
    omega
  · cases e
    refine ⟨hB, rfl, fun j hj => ?_⟩
    rw [addr_add_plain, Nat.zero_add]
    exact hf j (by omega)

theorem four_lit (n : Nat) (h : n < 4294967296) (w : World) :
    Calls Try.prog 25 #[.int .u32 n] w fun e w' => (∃ b0 b1 b2 b3 : UInt8, Hid (fourB n = [b0, b1, b2, b3]) ∧ e = .returned (.agg #[.int .u8 (b0.toNat : Int), .int .u8 (b1.toNat : Int), .int .u8 (b2.toNat : Int), .int .u8 (b3.toNat : Int)])) ∧ Below w.heap.size w w' :=
  (four_any n h w).mono fun e w' ⟨he, hb⟩ => ⟨⟨_, _, _, _, (rfl : fourB n = _), he⟩, hb⟩
end Go.Proofs.Ytnpdbnphoifjlaa
