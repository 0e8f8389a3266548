/- Ids of texts: the program's Parse. -/
import Derived.Test.YtcdnbidenaljlaaDoorMHashNames7
import Derived.Test.YtcdnbidenaljlaaDoorShelf
import Derived.Lib.SlBytesConst
namespace Go.Proofs.YtcdnbidenaljlaaDoor
open Go.RowKit

def digC : Array Value := #[.int .u8 48, .int .u8 49, .int .u8 50, .int .u8 51, .int .u8 52, .int .u8 53, .int .u8 54, .int .u8 55, .int .u8 56, .int .u8 57, .int .u8 97, .int .u8 98, .int .u8 99, .int .u8 100, .int .u8 101, .int .u8 102]
theorem index_any (g c : Nat) (x : UInt8) (w : World) (fr : Nat × Nat) (h : w.heap[g]? = some (.cells digC 5 fr)) :
    Calls Tryd.prog 29 #[.slice (some ⟨g, 0, none⟩) 16 c, .int .u8 (x.toNat : Int)] w fun e w' => e = .returned (.int .i64 (digN x)) ∧ w' = w := by
  have := Tryd.bytes_IndexByte g 0 16 c (digs.map fun b => (b.toNat : Int)) (x.toNat : Int) w rfl (fun i hi => by
    rw [Nat.zero_add, cell_of_row _ _ _ _ _ _ h]
    match i, hi with
    | 0, _ | 1, _ | 2, _ | 3, _ | 4, _ | 5, _ | 6, _ | 7, _ | 8, _ | 9, _ | 10, _ | 11, _ | 12, _ | 13, _ | 14, _ | 15, _ => rfl
    | j + 16, hj => exact absurd hj (by omega))
  rw [bytesOf_nums, Int.toNat_natCast, show x.toNat.toUInt8 = x by simp, index_dig] at this
  exact this
def halfL (s : List UInt8) (k : Nat) : List UInt8 := if k % 2 = 0 then partB s (k / 2) else (partB s (k / 2)).set (k / 2) (UInt8.ofNat (digN (s.getD (k - 1) 0)).toNat)
theorem halfL_length (s : List UInt8) (k : Nat) (h : k ≤ 64) : (halfL s k).length = 32 := by
  unfold halfL
  split
  · exact partB_length s _ (by omega)
  · rw [List.length_set]; exact partB_length s _ (by omega)
theorem partB_at (s : List UInt8) (k : Nat) (h : k < 32) : (partB s k).getD k 0 = 0 := by
  unfold partB
  rw [List.getD_eq_getElem?_getD, List.getElem?_append_right (by rw [pairB_length]; exact Nat.le_refl _), pairB_length, Nat.sub_self]
  rw [show 32 - k = (32 - (k + 1)) + 1 by omega, List.replicate_succ]
  rfl
/-- One digit more. -/
theorem halfL_step (s : List UInt8) (k : Nat) (h : k < 64) (hd : ∀ j, j ≤ k → 0 ≤ digN (s.getD j 0)) :
    ∃ z : UInt8, halfL s (k + 1) = (halfL s k).set (k / 2) z ∧ bits BinOp.or IntKind.u8 ((((halfL s k).getD (k / 2) 0).toNat : Int) * 16 % 256) (digN (s.getD k 0)) = (z.toNat : Int) := by
  have hk := hd k (Nat.le_refl _)
  have hlt := digN_lt (s.getD k 0)
  by_cases hp : k % 2 = 0
  · refine ⟨UInt8.ofNat (digN (s.getD k 0)).toNat, ?_, ?_⟩
    · unfold halfL
      rw [if_neg (by omega), if_pos hp, show (k + 1) / 2 = k / 2 by omega, Nat.add_sub_cancel]
    · have h0 : (halfL s k).getD (k / 2) 0 = 0 := by unfold halfL; rw [if_pos hp]; exact partB_at s _ (by omega)
      rw [h0]
      obtain ⟨d, hd'⟩ : ∃ d : Nat, digN (s.getD k 0) = (d : Int) := ⟨(digN (s.getD k 0)).toNat, by omega⟩
      rw [hd'] at hlt ⊢
      have := u8_or_nat 0 d (by omega) (by omega)
      rw [Nat.zero_or] at this
      rw [Int.toNat_natCast, UInt8.toNat_ofNat', Nat.mod_eq_of_lt (show d < 2 ^ 8 by omega)]
      exact this
  · have hj : k = 2 * (k / 2) + 1 := by omega
    have hk1 := hd (k - 1) (by omega)
    have hlt1 := digN_lt (s.getD (k - 1) 0)
    refine ⟨byteOf (s.getD (2 * (k / 2)) 0) (s.getD (2 * (k / 2) + 1) 0), ?_, ?_⟩
    · have e := partB_set s (k / 2) (by omega)
      unfold halfL
      rw [if_pos (by omega), if_neg hp, show (k + 1) / 2 = k / 2 + 1 by omega, ← e, List.set_set]
    · have h0 : (halfL s k).getD (k / 2) 0 = UInt8.ofNat (digN (s.getD (k - 1) 0)).toNat := by
        unfold halfL
        rw [if_neg hp, List.getD_eq_getElem?_getD, List.getElem?_set_self (by rw [partB_length s _ (by omega)]; omega)]
        rfl
      rw [h0, ← hj, show 2 * (k / 2) = k - 1 by omega]
      unfold byteOf
      obtain ⟨d, hd'⟩ : ∃ d : Nat, digN (s.getD k 0) = (d : Int) := ⟨(digN (s.getD k 0)).toNat, by omega⟩
      obtain ⟨c, hc'⟩ : ∃ c : Nat, digN (s.getD (k - 1) 0) = (c : Int) := ⟨(digN (s.getD (k - 1) 0)).toNat, by omega⟩
      rw [hd'] at hlt ⊢
      rw [hc'] at hlt1 ⊢
      rw [Int.toNat_natCast, Int.toNat_natCast, UInt8.toNat_ofNat', UInt8.toNat_ofNat', Nat.mod_eq_of_lt (show c < 2 ^ 8 by omega), Nat.mod_eq_of_lt (show 16 * c + d < 2 ^ 8 by omega)]
      have := u8_or_nat (c * 16) d (by omega) (by omega)
      rw [show (c : Int) * 16 % 256 = ((c * 16 : Nat) : Int) by omega, this]
      congr 1
      rw [Nat.mul_comm c 16, Nat.or_comm, show 16 * c = 2 ^ 4 * c from rfl]
      have h2 := Nat.two_pow_add_eq_or_of_lt (i := 4) (b := d) (by omega) c
      rw [Nat.or_comm, ← h2]
set_option maxRecDepth 20000 in
set_option maxHeartbeats 4000000 in
theorem parse_any (s : List UInt8) (hs : s.length ≤ 100) (w : World) :
    Calls Tryd.prog 14 #[.string (bstr s)] w fun e w' => e = .returned (.tuple #[.agg (idC (parseL s)), .int .i64 (parseE s)]) ∧ Below w.heap.size w w' := by
  obtain ⟨Z, hz0, hZs, hZ1, HZ⟩ : ∃ Z : Array Value, (Tryd.prog.info? 25).bind (fun i => i.zero.map Value.cells) = some Z ∧ Z.size = 32 ∧ (∀ u ∈ Z.toList, u.oneCell' = true) ∧ Hid (Z = idC zeros) := ⟨idC zeros, zero_id, by rw [idC_size]; rfl, by simpa [idC] using u8v_one zeros, rfl⟩
  have bz := fun W => run_build_z (P := Tryd.prog) W 25 5 32 Z hz0 Tryd.underlying25 ⟨_, Tryd.sizeOf5 W⟩
  have kc := fun (w : World) (C : Array Value) (n c : Nat) => Lib.run_convert_bytes_const (P := Tryd.prog) w 22 5 C n c Tryd.underlying22 Tryd.underlying5
  have hsz : (bstr s).size = s.length := bstr_size s
  have hsi : (Tryd.prog.info? 25).map (·.size) = some Z.size := by rw [hZs]; exact size_id
  have hg2 : ((w.alloc (.cells Z 25)).alloc (.cells Z 25)).heap[w.heap.size + 1]? = some (.cells Z 25 (0, 0)) := heap_alloc2_new _ _ _
  have hg3 : ((w.alloc (.cells Z 25)).alloc (.cells Z 25)).heap[w.heap.size]? = some (.cells Z 25 (0, 0)) := heap_alloc2_old _ _ _
  have hb2 : Below w.heap.size w ((w.alloc (.cells Z 25)).alloc (.cells Z 25)) := ((Below.refl _ w).alloc (Nat.le_refl _) _).alloc (by simp) _
  have HS := Lib.hid hZs
  clear hZs
  by_cases h64 : s.length = 64
  · have hlen : ((bstr s).size : Int) = 64 := by rw [hsz, h64]; rfl
    clear hsz
    go_enter Tryd.func14, Tryd.ntmps14
    go_wp2_with (first
      | (with_reducible refine wpList_alloc_z rfl 25 rfl Z hz0 ?_)
      | fail)
    obtain ⟨w1, hw1⟩ : ∃ w1, w1 = (w.alloc (.cells Z 25)).alloc (.cells Z 25) := ⟨_, rfl⟩
    rw [← hw1] at hb2 hg2 hg3 ⊢
    clear hw1
    go_loopw [13] (fun i wr => ∃ k : Nat, k ≤ 64 ∧ i = .int .i64 k ∧ (∀ j, j < k → 0 ≤ digN (s.getD j 0)) ∧ wr.heap[w.heap.size + 1]? = some (.cells (idC (halfL s k)) 25 (0, 0)) ∧ wr.heap[w.heap.size]? = some (.cells Z 25 (0, 0)) ∧ Below w.heap.size w wr) (fun i _ => 64 - (intOf i).toNat)
    case atStart => exact ⟨0, by omega, rfl, fun j hj => by omega, by rw [show halfL s 0 = zeros from partB_zero s, ← HZ.out]; exact hg2, hg3, hb2⟩
    case round =>
      obtain ⟨k, hk, rfl, hall, hp, hq, hbr⟩ := hrel
      by_cases hlt : k < 64
      · have k1 : k < s.length := by omega
        have f1 : ∀ W, (Instr.index 9 (.string (bstr s)) (.int .i64 (k : Int))).run Tryd.prog W = .ok (.int .u8 (s[k].toNat : Int)) W := fun W => str_index W s k k1 _ rfl
        have hgk : s.getD k 0 = s[k] := by rw [List.getD_eq_getElem?_getD, List.getElem?_eq_getElem k1]; rfl
        have hn1 : digN s[k] < 0 → ¬ okB s = true := okB_not k k1
        have hstep : 0 ≤ digN s[k] → ∃ z : UInt8, halfL s (k + 1) = (halfL s k).set (k / 2) z ∧ bits BinOp.or IntKind.u8 ((((halfL s k).getD (k / 2) 0).toNat : Int) * 16 % 256) (digN s[k]) = (z.toNat : Int) := fun h => by
          have := halfL_step s k hlt fun j hj => by
            by_cases e : j = k
            · rw [e, hgk]; exact h
            · exact hall j (by omega)
          rwa [hgk] at this
        have hall2 : 0 ≤ digN s[k] → ∀ j, j < k + 1 → 0 ≤ digN (s.getD j 0) := fun h j hj => by
          by_cases e : j = k
          · rw [e, hgk]; exact h
          · exact hall j (by omega)
        clear hall hgk
        have l1 := digN_lt s[k]
        have e1 := digN_ge s[k]
        generalize s[k] = x at *
        go_wp2_with fail
        refine (index_any wr.heap.size 16 x (wr.alloc (.cells digC 5 (16, 17))) (16, 17) (heap_alloc_new wr _)).mono ?_
        rintro e w' ⟨rfl, rfl⟩
        have hb9 : Below wr.heap.size wr (wr.alloc (.cells digC 5 (16, 17))) := (Below.refl _ wr).alloc (Nat.le_refl _) _
        replace hp : (wr.alloc (.cells digC 5 (16, 17))).heap[w.heap.size + 1]? = some (.cells (idC (halfL s k)) 25 (0, 0)) := by rw [hb9.block _ (lt_of_get hp)]; exact hp
        replace hq : (wr.alloc (.cells digC 5 (16, 17))).heap[w.heap.size]? = some (.cells Z 25 (0, 0)) := by rw [hb9.block _ (lt_of_get hq)]; exact hq
        replace hbr := below_then hbr hb9 (Nat.le_refl _)
        obtain ⟨w2, hw2⟩ : ∃ w2, w2 = wr.alloc (.cells digC 5 (16, 17)) := ⟨_, rfl⟩
        rw [← hw2] at hp hq hbr ⊢
        clear hw2 hb9 kc
        generalize digN x = dx at *
        by_cases h1 : dx < 0
        · have hno := hn1 h1
          have hqr := setRow_heap _ w.heap.size Z Z _ _ hq
          have hbq := below_setRow hbr (Nat.le_refl _) Z
          go_wp2_with (first
            | (with_reducible refine wpList_build_z rfl 25 rfl Z (bz _) ?_)
            | (with_reducible refine wpList_store_z rfl 25 (.tmp 2) (.tmp 24) rfl _ rfl Z rfl Z _ hq rfl hsi hZ1 ?_)
            | fail)
          refine bodyPost_ret (results_cell_tmp rfl _ _ w.heap.size 25 Z (0, 0) _ rfl hqr Tryd.underlying25 rfl hsi) rfl ⟨?_, hbq⟩
          unfold parseL parseE
          rw [if_neg hno, if_neg hno, HZ.out]
          rfl
        · obtain ⟨z, hz1, hz2⟩ := hstep (by omega)
          have hall3 := hall2 (by omega)
          have hhl := halfL_length s k (by omega)
          have hk2 : k / 2 < (halfL s k).length := by omega
          have hcell : w2.cell? ⟨w.heap.size + 1, k / 2, none⟩ = some (.int .u8 (((halfL s k).getD (k / 2) 0).toNat : Int)) := by
            rw [cell_of_row _ _ _ _ _ _ hp, idC_get _ _ hk2, List.getD_eq_getElem?_getD, List.getElem?_eq_getElem hk2]
            rfl
          have hfro : w2.frozen? ⟨w.heap.size + 1, k / 2, none⟩ = false := frozen_of_row w2 _ (k / 2) _ _ hp
          have hnew := heap_setCell_same w2 (w.heap.size + 1) (k / 2) (idC (halfL s k)) _ (.int .u8 (z.toNat : Int)) hp
          rw [← idC_set, ← hz1] at hnew
          have hold : (w2.setCell ⟨w.heap.size + 1, k / 2, none⟩ (.int .u8 (z.toNat : Int))).heap[w.heap.size]? = some (.cells Z 25 (0, 0)) := by rw [heap_setCell_other _ _ _ _ (by simp)]; exact hq
          have hbn := hbr.setCell (p := ⟨w.heap.size + 1, k / 2, none⟩) (show w.heap.size ≤ w.heap.size + 1 by omega) (.int .u8 (z.toNat : Int))
          have ho8 := ((halfL s k).getD (k / 2) 0).toNat_lt
          generalize ((halfL s k).getD (k / 2) 0).toNat = old at *
          clear hstep hall2 hn1 hz1 hp hq
          go_wp2_with fail
          go_roundw
          case rel => exact ⟨k + 1, by omega, by go_num, hall3, hnew, hold, hbn⟩
          case measure => simp [intOf]; omega
      · obtain rfl : k = 64 := by omega
        have hok : okB s = true := okB_of h64 fun j hj => by
          have := hall j (by omega)
          rwa [List.getD_eq_getElem?_getD, List.getElem?_eq_getElem (by omega)] at this
        have hh : halfL s 64 = partB s 32 := rfl
        rw [hh] at hp
        have hsp : (Tryd.prog.info? 25).map (·.size) = some (idC (partB s 32)).size := by rw [idC_size, partB_length s 32 (by omega)]; exact size_id
        have hqr := setRow_heap _ w.heap.size Z (idC (partB s 32)) _ _ hq
        have hbq := below_setRow hbr (Nat.le_refl _) (idC (partB s 32))
        have h1c : ∀ u ∈ (idC (partB s 32)).toList, u.oneCell' = true := by simpa [idC] using u8v_one (partB s 32)
        have hss : (idC (partB s 32)).size = Z.size := by rw [HS.out, idC_size, partB_length s 32 (by omega)]
        have hfin : parseL s = partB s 32 ∧ parseE s = 0 := by unfold parseL parseE; rw [if_pos hok, if_pos hok, partB_full]; exact ⟨rfl, rfl⟩
        have hfin1 : idC (parseL s) = idC (partB s 32) := by rw [hfin.1]
        have hfin2 := Lib.hid hfin.2
        clear hfin hh
        generalize idC (partB s 32) = V at *
        have hfin3 := Lib.hid hfin1
        clear hfin1
        go_wp2_with (first
          | (with_reducible refine wpList_load_row rfl 25 (.tmp 4) rfl _ rfl 25 V _ _ hp Tryd.underlying25 rfl hsp ?_)
          | (with_reducible refine wpList_store_z rfl 25 (.tmp 2) (.tmp 37) rfl _ rfl V rfl Z _ hq hss hsp h1c ?_)
          | fail)
        refine bodyPost_ret (results_cell_tmp rfl _ _ w.heap.size 25 V (0, 0) _ rfl hqr Tryd.underlying25 rfl hsp) rfl ⟨?_, hbq⟩
        rw [hfin3.out, hfin2.out]
        rfl
  · have hno : ¬ okB s = true := fun h => by
      unfold okB at h
      rw [Bool.and_eq_true] at h
      exact h64 (by simpa using h.1)
    have hlen : ((bstr s).size : Int) = (s.length : Int) := by rw [hsz]
    have hq4 := setRow_heap _ w.heap.size Z Z _ _ hg3
    have hb4 := below_setRow hb2 (Nat.le_refl w.heap.size) Z
    have hne : ((s.length : Int) != 64) = true := by simp; omega
    clear hsz
    go_enter Tryd.func14, Tryd.ntmps14
    go_wp2_with (first
      | (with_reducible refine wpList_alloc_z rfl 25 rfl Z hz0 ?_)
      | (with_reducible refine wpList_load_row rfl 25 (.tmp 4) rfl _ rfl 25 Z _ _ hg2 Tryd.underlying25 rfl hsi ?_)
      | (with_reducible refine wpList_store_z rfl 25 (.tmp 2) (.tmp 10) rfl _ rfl Z rfl Z _ hg3 rfl hsi hZ1 ?_)
      | fail)
    refine bodyPost_ret (results_cell_tmp rfl _ _ w.heap.size 25 Z (0, 0) _ rfl hq4 Tryd.underlying25 rfl hsi) rfl ⟨?_, hb4⟩
    unfold parseL parseE
    rw [if_neg hno, if_neg hno, HZ.out]
    rfl
end Go.Proofs.YtcdnbidenaljlaaDoor
