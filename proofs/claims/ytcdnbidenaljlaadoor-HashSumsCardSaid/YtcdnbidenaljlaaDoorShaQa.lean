/- The reference's SHA-256: padded. -/
import Derived.Test.YtcdnbidenaljlaaDoorShaE
namespace Go.Proofs.YtcdnbidenaljlaaDoor
open Go.RowKit

theorem pad_test (n z N : Nat) (hN : N = n + 1 + z) (hz : z ≤ noughts n) : (N : Int) % 64 = 56 ↔ z = noughts n := by
  unfold noughts at *
  omega
set_option maxRecDepth 100000 in
set_option maxHeartbeats 2000000 in
theorem padded_any (A : Option Addr) (n c : Nat) (l : List UInt8) (hl : l.length = n) (hn : n ≤ 100000) (w : World) (hr : RdC w A (u8v l)) :
    Calls Tryd.prog 23 #[.slice A n c] w fun e w' => ∃ v, e = .returned v ∧ w'.ownsRow w.heap.size 5 1 v (padB l).length (u8v (padB l)) ∧ Below w.heap.size w w' := by
  have hl1 : (u8v l).length = n * 1 := by rw [u8v_length, hl, Nat.mul_one]
  have HL1 := Lib.hid hl1
  have ho0 : w.ownsRow w.heap.size 5 1 (.slice none 0 0) 0 [] := World.ownsRow_nil _ _ _ _
  clear hl1
  go_enter Tryd.func23, Tryd.ntmps23
  go_upto_region 2 with (fail)
  go_upto_region 3 with (first
    | (at_builtin; go_loud (refine wpList_app elt8 rfl (.tmp 6) (.tmp 7) rfl w.heap.size (.slice none 0 0) 0 [] rfl ho0 A n c (u8v l) rfl HL1.out hr (u8v_one _) (by unfold maxLen; omega) (by omega) (Nat.le_refl _) ?_; intro v1 w1 ho1 hg1; have hb1 := below_grown (Below.refl _ w) ho0 hg1 (Nat.le_refl _) (Nat.le_refl _); rw [Nat.zero_add, List.nil_append] at ho1; clear hg1 ho0; obtain ⟨A1, c1, rfl, _⟩ := RdC.of_own ho1; obtain ⟨wx, hwx⟩ : ∃ wx, wx = w1.alloc (.cells #[.int .u8 128] 5) := (⟨_, rfl⟩); have hbx : Below w1.heap.size w1 wx := (by rw [hwx]; exact (Below.refl _ _).alloc (Nat.le_refl _) _); have hox := own_below ho1 hbx; have hrx : RdC wx (some ⟨w1.heap.size, 0, none⟩) (u8v [128]) := (fun j u hj => (by refine ⟨_, rfl, ?_⟩; have hg : wx.heap[w1.heap.size]? = some (.cells #[.int .u8 128] 5 (0, 0)) := (by rw [hwx]; exact heap_alloc_new _ _); rw [addr_add_plain, Nat.zero_add, cell_of_row _ _ _ _ _ _ hg, ← hj, ← Array.getElem?_toList]; rfl)); have hsx := below_then hb1 hbx (Nat.le_refl _); have HWX := Lib.hid hwx; clear hwx hb1 hbx ho1))
    | (at_builtin; go_loud (rw [← HWX.out]; refine wpList_app elt8 rfl (.tmp 8) (.tmp 9) rfl w.heap.size _ n (u8v l) rfl hox (some ⟨w1.heap.size, 0, none⟩) 1 1 (u8v [128]) rfl rfl hrx (u8v_one _) (by unfold maxLen; omega) (by omega) hsx.size ?_; intro v2 w2 ho2 hg2; have hb2 := below_grown hsx hox hg2 hsx.size (Nat.le_refl _)))
    | fail)
  rw [← u8v_append] at ho2
  clear hox hrx hsx HWX hg2 HL1
  go_wp2_with fail
  go_loopw [3] (fun t wr => ∃ z : Nat, z ≤ noughts n ∧ wr.ownsRow w.heap.size 5 1 t (n + 1 + z) (u8v (l ++ 128 :: List.replicate z 0)) ∧ Below w.heap.size w wr) (fun t _ => match t with | .slice _ k _ => n + 70 - k | _ => 0)
  case atStart => exact ⟨0, by omega, ho2, hb2⟩
  case round =>
    obtain ⟨z, hz, hown, hbr⟩ := hrel
    clear ho2 hb2
    obtain ⟨A3, c3, rfl, _⟩ := RdC.of_own hown
    obtain ⟨N, hN⟩ : ∃ N, N = n + 1 + z := ⟨_, rfl⟩
    have ht := pad_test n z N hN hz
    have hz64 : noughts n < 64 := by unfold noughts; omega
    rw [← hN] at hown ⊢
    have HN := Lib.hid hN
    have hNle : N ≤ 100100 := by omega
    clear hN
    by_cases hlt : z < noughts n
    · have ht' : ¬ (N : Int) % 64 = 56 := fun e => by have := ht.1 e; omega
      clear ht
      obtain ⟨wx, hwx⟩ : ∃ wx, wx = wr.alloc (.cells #[.int .u8 0] 5) := ⟨_, rfl⟩
      have hbx : Below wr.heap.size wr wx := by rw [hwx]; exact (Below.refl _ _).alloc (Nat.le_refl _) _
      have hox := own_below hown hbx
      have hrx : RdC wx (some ⟨wr.heap.size, 0, none⟩) (u8v [0]) := fun j u hj => by
        refine ⟨_, rfl, ?_⟩
        have hg : wx.heap[wr.heap.size]? = some (.cells #[.int .u8 0] 5 (0, 0)) := by rw [hwx]; exact heap_alloc_new _ _
        rw [addr_add_plain, Nat.zero_add, cell_of_row _ _ _ _ _ _ hg, ← hj, ← Array.getElem?_toList]
        rfl
      have hsx := below_then hbr hbx (Nat.le_refl _)
      have HWX := Lib.hid hwx
      clear hwx hbr hbx hown
      go_wp2_with (first
        | (at_builtin; go_loud (rw [← HWX.out]; refine wpList_app elt8 rfl (.tmp 15) (.tmp 16) rfl w.heap.size _ N (u8v (l ++ 128 :: List.replicate z 0)) rfl hox (some ⟨wr.heap.size, 0, none⟩) 1 1 (u8v [0]) rfl rfl hrx (u8v_one _) (by unfold maxLen; omega) (by omega) hsx.size ?_; intro v' w' ho hg; have hbn := below_grown hsx hox hg hsx.size (Nat.le_refl _)))
        | fail)
      clear hg hox hrx hsx HWX
      rw [← u8v_append] at ho
      have e1 : (l ++ 128 :: List.replicate z 0) ++ [0] = l ++ 128 :: List.replicate (z + 1) 0 := by rw [List.append_assoc, List.cons_append, List.replicate_succ']
      rw [e1] at ho
      obtain ⟨A4, c4, rfl, _⟩ := RdC.of_own ho
      go_roundw
      case rel => exact ⟨z + 1, hlt, by rw [show n + 1 + (z + 1) = N + 1 by rw [HN.out]; omega]; exact ho, hbn⟩
      case measure => show n + 70 - (N + 1) < n + 70 - N; have := HN.out; omega
    · obtain rfl : z = noughts n := by omega
      have ht' : (N : Int) % 64 = 56 := ht.2 rfl
      clear ht
      have hpad : padB l = (l ++ 128 :: List.replicate (noughts n) 0) ++ (be8 (8 * n)).take 8 := by
        unfold padB tailB
        rw [hl, List.append_assoc]
        rfl
      obtain ⟨X, hX⟩ : ∃ X, X = l ++ 128 :: List.replicate (noughts n) 0 := ⟨_, rfl⟩
      rw [← hX] at hpad hown
      have hXl : X.length = N := by rw [hX, HN.out]; simp [hl]; omega
      have HP := Lib.hid hpad
      have HX := Lib.hid hXl
      clear hX hpad hXl HN
      have own9 := hown
      have hbr9 := hbr
      clear hown hbr
      go_wp2_with fail
      clear ht'
      go_loopw [3, 5] (fun t i wr => ∃ k j : Nat, k + j = 8 ∧ i = .int .i64 ((j : Int) - 1) ∧ wr.ownsRow w.heap.size 5 1 t (N + k) (u8v (X ++ (be8 (8 * n)).take k)) ∧ Below w.heap.size w wr) (fun _ i _ => (intOf i + 1).toNat)
      case atStart => exact ⟨0, 8, rfl, rfl, by rw [List.take_zero, List.append_nil]; exact own9, hbr9⟩
      case round =>
        obtain ⟨k, j, hkj, rfl, hown, hbr⟩ := hrel
        clear own9 hbr9
        obtain ⟨A4, c4, rfl, _⟩ := RdC.of_own hown
        cases j with
        | zero =>
          obtain rfl : k = 8 := by omega
          go_wp2_with fail
          go_ret
          refine ⟨_, rfl, ?_, hbr⟩
          rw [HP.out, List.length_append, HX.out]
          exact hown
        | succ j =>
          have e8 : (((j + 1 : Nat) : Int) - 1) = (j : Int) := by omega
          rw [e8]
          have hk8 : k < 8 := by omega
          have hj56 : 56 - 8 * k = 8 * j := by omega
          have hby := be8_snoc (8 * n) k hk8
          rw [hj56] at hby
          obtain ⟨y, hy⟩ : ∃ y, y = UInt8.ofNat (8 * n / 2 ^ (8 * j)) := ⟨_, rfl⟩
          have hv : (8 * (n : Int)) / 2 ^ (8 * j) % 256 = (y.toNat : Int) := by
            rw [hy, UInt8.toNat_ofNat']
            rw [Int.natCast_emod, Int.natCast_ediv, Int.natCast_mul, Int.natCast_pow]
            rfl
          rw [← hy] at hby
          have HBY := Lib.hid hby
          have hj8 : j < 8 := by omega
          have hji : (j : Int) < 8 := by omega
          obtain ⟨wx, hwx⟩ : ∃ wx, wx = wr.alloc (.cells #[.int .u8 (8 * (n : Int) / 2 ^ (8 * j) % 256)] 5) := ⟨_, rfl⟩
          have hbx : Below wr.heap.size wr wx := by rw [hwx]; exact (Below.refl _ _).alloc (Nat.le_refl _) _
          have hox := own_below hown hbx
          have hrx : RdC wx (some ⟨wr.heap.size, 0, none⟩) (u8v [y]) := fun j u hj => by
            refine ⟨_, rfl, ?_⟩
            have hg : wx.heap[wr.heap.size]? = some (.cells #[.int .u8 (y.toNat : Int)] 5 (0, 0)) := by rw [hwx, ← hv]; exact heap_alloc_new _ _
            rw [addr_add_plain, Nat.zero_add, cell_of_row _ _ _ _ _ _ hg, ← hj, ← Array.getElem?_toList]
            rfl
          have hsx := below_then hbr hbx (Nat.le_refl _)
          have HWX := Lib.hid hwx
          have hNk : N + k ≤ 100200 := by omega
          clear hk8 hj56 hby hy e8 hv hwx hown hbr hbx
          go_wp2_with (first
            | (at_builtin; go_loud (rw [← HWX.out]; refine wpList_app elt8 rfl (.tmp 26) (.tmp 33) rfl w.heap.size _ (N + k) (u8v (X ++ (be8 (8 * n)).take k)) rfl hox (some ⟨wr.heap.size, 0, none⟩) 1 1 (u8v [y]) rfl rfl hrx (u8v_one _) (by unfold maxLen; omega) (by omega) hsx.size ?_; intro v' w' ho hg; have hbn := below_grown hsx hox hg hsx.size (Nat.le_refl _)))
            | fail)
          have ho2 : w'.ownsRow w.heap.size 5 1 v' (N + (k + 1)) (u8v (X ++ (be8 (8 * n)).take (k + 1))) := by
            rw [HBY.out, ← List.append_assoc, u8v_append, ← Nat.add_assoc]; exact ho
          clear ho hg hox hrx hsx
          go_roundw
          case rel => exact ⟨k + 1, j, by omega, rfl, ho2, hbn⟩
          case measure => simp [intOf]; try omega
end Go.Proofs.YtcdnbidenaljlaaDoor
