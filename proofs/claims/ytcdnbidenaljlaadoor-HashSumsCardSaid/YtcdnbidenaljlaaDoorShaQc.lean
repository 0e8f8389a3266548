/- The reference's SHA-256: Of. -/
import Derived.Test.YtcdnbidenaljlaaDoorShaQb
import Derived.Test.YtcdnbidenaljlaaDoorShaF
namespace Go.Proofs.YtcdnbidenaljlaaDoor
open Go.RowKit

theorem bytes_at (s : S8) (k : Nat) (h : k < 32) : s.bytes.getD k 0 = UInt8.ofNat (s.l.getD (k / 4) 0 / 2 ^ (24 - 8 * (k % 4))) := by
  have : k = 0 ∨ k = 1 ∨ k = 2 ∨ k = 3 ∨ k = 4 ∨ k = 5 ∨ k = 6 ∨ k = 7 ∨ k = 8 ∨ k = 9 ∨ k = 10 ∨ k = 11 ∨ k = 12 ∨ k = 13 ∨ k = 14 ∨ k = 15 ∨ k = 16 ∨ k = 17 ∨ k = 18 ∨ k = 19 ∨ k = 20 ∨ k = 21 ∨ k = 22 ∨ k = 23 ∨ k = 24 ∨ k = 25 ∨ k = 26 ∨ k = 27 ∨ k = 28 ∨ k = 29 ∨ k = 30 ∨ k = 31 := by omega
  rcases this with rfl | rfl | rfl | rfl | rfl | rfl | rfl | rfl | rfl | rfl | rfl | rfl | rfl | rfl | rfl | rfl | rfl | rfl | rfl | rfl | rfl | rfl | rfl | rfl | rfl | rfl | rfl | rfl | rfl | rfl | rfl | rfl
  all_goals simp [S8.bytes, be4, S8.l]
def byK (l : List UInt8) (k : Nat) : List UInt8 := l.take k ++ List.replicate (32 - k) 0
theorem byK_length (l : List UInt8) (hl : l.length = 32) (k : Nat) (h : k ≤ 32) : (byK l k).length = 32 := by
  unfold byK
  rw [List.length_append, List.length_take, List.length_replicate]
  omega
theorem byK_full (l : List UInt8) (hl : l.length = 32) : byK l 32 = l := by
  unfold byK
  rw [List.take_of_length_le (by omega)]
  simp
theorem byK_step (l : List UInt8) (hl : l.length = 32) (k : Nat) (h : k < 32) : (byK l k).set k (l.getD k 0) = byK l (k + 1) := by
  unfold byK
  have hk : (l.take k).length = k := by rw [List.length_take]; omega
  rw [List.set_append_right _ _ (by rw [hk]; exact Nat.le_refl _), hk, Nat.sub_self, show 32 - k = (32 - (k + 1)) + 1 by omega, List.replicate_succ, List.set_cons_zero, List.take_succ_eq_append_getElem (by omega), List.append_assoc]
  congr 1
  rw [List.getD_eq_getElem?_getD, List.getElem?_eq_getElem (by omega)]
  rfl
theorem hs_zero (l : List UInt8) : hs l 0 = S8.begin := rfl
theorem hs_succ (l : List UInt8) (k : Nat) : mixedS (hs l k) ((l.drop (64 * k)).take 64) = hs l (k + 1) := rfl
theorem sha_eq (l : List UInt8) : sha l = (hs (padB l) ((padB l).length / 64)).bytes := rfl
theorem begin_lit : #[Value.int .u32 1779033703, .int .u32 3144134277, .int .u32 1013904242, .int .u32 2773480762, .int .u32 1359893119, .int .u32 2600822924, .int .u32 528734635, .int .u32 1541459225] = u32C S8.begin.l := by simp [u32C, S8.l, S8.begin]
theorem byK_zero (l : List UInt8) : byK l 0 = zeros := rfl
set_option maxRecDepth 100000 in
set_option maxHeartbeats 2000000 in
theorem rof_any (A : Option Addr) (n c : Nat) (l : List UInt8) (hl : l.length = n) (hn : n ≤ 100000) (w : World) (hr : RdC w A (u8v l)) :
    Calls Tryd.prog 8 #[.slice A n c] w fun e w' => e = .returned (.agg (idC (sha l))) ∧ Below w.heap.size w w' := by
  obtain ⟨Z, hZ0, hZ⟩ : ∃ Z : Array Value, (Tryd.prog.info? 25).bind (fun i => i.zero.map Value.cells) = some Z ∧ Hid (Z = idC zeros) := ⟨_, zero_id, rfl⟩
  obtain ⟨w1, hw1⟩ : ∃ w1, w1 = (w.alloc (.cells Z 25)).alloc (.cells #[.int .u32 1779033703, .int .u32 3144134277, .int .u32 1013904242, .int .u32 2773480762, .int .u32 1359893119, .int .u32 2600822924, .int .u32 528734635, .int .u32 1541459225] 27) := ⟨_, rfl⟩
  have hb1 : Below w.heap.size w w1 := by rw [hw1]; exact ((Below.refl _ w).alloc (Nat.le_refl _) _).alloc (by simp) _
  have q0 : w1.heap[w.heap.size]? = some (.cells Z 25 (0, 0)) := by rw [hw1]; exact heap_alloc2_old _ _ _
  have q1 : w1.heap[w.heap.size + 1]? = some (.cells (u32C S8.begin.l) 27 (0, 0)) := by rw [hw1, begin_lit]; exact heap_alloc2_new _ _ _
  have hpd := padded_any A n c l hl hn w1 (hr.below hb1)
  have HW1 := Lib.hid hw1
  clear hw1
  go_enter Tryd.func8, Tryd.ntmps8
  go_upto_region 2 with (first
    | (with_reducible refine wpList_alloc_z rfl 25 rfl Z hZ0 ?_)
    | fail)
  rw [← HW1.out]
  go_upto_region 3 with (first
    | (go_at_call 23; refine hpd.mono ?_; rintro e w2 ⟨v2, rfl, ho2, hb2⟩)
    | fail)
  obtain ⟨N, hN⟩ : ∃ N, N = (padB l).length := ⟨_, rfl⟩
  have hN64 := padB_mod l
  have hNle : N ≤ 100200 := by
    rw [hN]
    simp only [padB, List.length_append, tailB_length]
    unfold noughts
    omega
  have hN9 : 9 ≤ N := by
    rw [hN]
    simp only [padB, List.length_append, tailB_length]
    omega
  rw [← hN] at ho2 hN64
  rcases ho2.2 with ⟨_, h0⟩ | ⟨g4, c4, cur, rfl, hbg, hg4, hnc, hcm, hcs, htake⟩
  · omega
  have hr2 : ∀ j, j < N → w2.cell? ⟨g4, j, none⟩ = some (.int .u8 (((padB l).getD j 0).toNat : Int)) := fun j hj => by
    rw [cell_of_row _ _ _ _ _ _ hg4]
    have h1 : (u8v (padB l))[j]? = some (.int .u8 (((padB l).getD j 0).toNat : Int)) := by
      rw [u8v_get _ _ (by rw [← hN]; exact hj), List.getD_eq_getElem?_getD, List.getElem?_eq_getElem (by rw [← hN]; exact hj)]
      rfl
    rw [← htake, Nat.mul_one, List.getElem?_take, if_pos hj, Array.getElem?_toList] at h1
    exact h1
  have q02 := (hb2.block _ (lt_of_get q0)).trans q0
  have q12 := (hb2.block _ (lt_of_get q1)).trans q1
  have hb02 := below_then hb1 hb2 (Nat.le_refl _)
  have hg4l := lt_of_get hg4
  have hs1 : w.heap.size + 1 < w2.heap.size := lt_of_get q12
  clear htake hcs hg4 ho2 hbg q0 q1 hb1 hb2 hpd HW1 hr
  obtain ⟨w3, hw3⟩ : ∃ w3, w3 = w2.alloc (.cells (u32C ks) 27) := ⟨_, rfl⟩
  have hb3 : Below w2.heap.size w2 w3 := by rw [hw3]; exact (Below.refl _ w2).alloc (Nat.le_refl _) _
  have qk3 : w3.heap[w2.heap.size]? = some (.cells (u32C ks) 27 (0, 0)) := by rw [hw3]; exact heap_alloc_new _ _
  have q03 := (hb3.block _ (lt_of_get q02)).trans q02
  have q13 := (hb3.block _ (lt_of_get q12)).trans q12
  have hb03 := below_then hb02 hb3 (Nat.le_refl _)
  have hr3 : ∀ W, Below w3.heap.size w3 W → ∀ j, j < N → W.cell? ⟨g4, j, none⟩ = some (.int .u8 (((padB l).getD j 0).toNat : Int)) := fun W hW j hj => by
    have h1 := (hb3.cell (p := ⟨g4, j, none⟩) hg4l).trans (hr2 j hj)
    exact (hW.cell (World.block_lt_of_cell? w3 _ h1)).trans h1
  have HW3 := Lib.hid hw3
  have hsz3 : w2.heap.size < w3.heap.size := lt_of_get qk3
  have HR3 := Lib.hid hr3
  have HNN := Lib.hid hN
  clear hw3 q02 q12 hb02 hb3 hr2 hr3 hN
  go_wp2_with (first
    | (go_at_call 24; refine (constants_any w2).mono ?_; rintro e w' ⟨rfl, rfl⟩; rw [← HW3.out])
    | fail)
  go_loopw [3, 6] (fun t i wr => ∃ k d b : Nat, d = 64 * k ∧ d ≤ N ∧ t = .slice (some ⟨b, 0, none⟩) 8 8 ∧ i = .int .i64 (d : Int) ∧ wr.heap[b]? = some (.cells (u32C (hs (padB l) k).l) 27 (0, 0)) ∧ Below w3.heap.size w3 wr) (fun _ i _ => N - (intOf i).toNat)
  case atStart => exact ⟨0, 0, w.heap.size + 1, rfl, by omega, rfl, rfl, by rw [hs_zero]; exact q13, Below.refl _ _⟩
  case round =>
    obtain ⟨k, d, b, hd, hdN, rfl, rfl, gb, hbr⟩ := hrel
    clear q13
    by_cases hlt : d < N
    · have hki : (d : Int) < (N : Int) := by omega
      have hd64 : d + 64 ≤ N := by omega
      have hd64i : (d : Int) + 64 ≤ (N : Int) := by omega
      obtain ⟨x, hx⟩ : ∃ x, x = ((padB l).drop (64 * k)).take 64 := ⟨_, rfl⟩
      have hxl : x.length = 64 := by rw [hx, List.length_take, List.length_drop, ← HNN.out]; omega
      have hsl : ∀ W : World, (Instr.slice 22 (.slice (some ⟨g4, 0, none⟩) N c4) (some (.int .i64 (d : Int))) (some (.int .i64 ((d : Int) + 64))) none).run Tryd.prog W = .ok (.slice (some ⟨g4, d, none⟩) 64 (c4 - d)) W := fun W => by
        have := run_sub_lh (P := Tryd.prog) W 22 (some ⟨g4, 0, none⟩) N c4 1 Tryd.underlying22 (Tryd.sizeOf5 W) (d : Int) ((d : Int) + 64) d (d + 64) rfl (by omega) (by omega) (by omega)
        rw [this]
        have e1 : subA (some ⟨g4, 0, none⟩) c4 d 1 = some ⟨g4, d, none⟩ := by
          unfold subA
          rw [if_neg (by omega)]
          simp [Addr.add]
          intro h; exact h.symm
        rw [e1, show d + 64 - d = 64 by omega]
      have hX : rdB wr g4 d x := fun j hj => by
        rw [HR3.out wr hbr (d + j) (by omega), hx, hd]
        congr 3
        rw [List.getD_eq_getElem?_getD, List.getD_eq_getElem?_getD, List.getElem?_take, if_pos (by omega), List.getElem?_drop]
      have hS : rdW wr b 0 (hs (padB l) k).l := fun j hj => by
        rw [Nat.zero_add, cell_of_row _ _ _ _ _ _ gb]
        exact u32C_get _ _ hj
      have hK : rdW wr w2.heap.size 0 ks := fun j hj => by
        rw [Nat.zero_add, cell_of_row _ _ _ _ _ _ ((hbr.block _ hsz3).trans qk3)]
        exact u32C_get _ _ hj
      have htn := turn_any (hs (padB l) k) (hs_ok _ _) b 8 x hxl g4 d (c4 - d) w2.heap.size 64 wr hS hX hK
      have hnext : mixedS (hs (padB l) k) x = hs (padB l) (k + 1) := by rw [hx]; exact hs_succ _ _
      have hb3s := hbr.size
      have HNX := Lib.hid hnext
      have HDD := Lib.hid hd
      clear hx hX hS hK hnext hxl gb hd
      go_wp2_with (first
        | (go_at_call 25; refine htn.mono ?_; rintro e w4 ⟨b4, rfl, gb4, hb4l, hb4⟩)
        | fail)
      have hb34 := below_then hbr hb4 (Nat.le_refl _)
      rw [HNX.out] at gb4
      go_roundw
      case rel => exact ⟨k + 1, d + 64, b4, by have := HDD.out; omega, hd64, rfl, rfl, gb4, hb34⟩
      case measure => simp [intOf]; omega
    · obtain rfl : d = N := by omega
      have hst : hs (padB l) k = hs (padB l) ((padB l).length / 64) := by rw [← HNN.out, hd]; congr 1; omega
      rw [hst] at gb
      obtain ⟨st, hstt⟩ : ∃ st, st = hs (padB l) ((padB l).length / 64) := ⟨_, rfl⟩
      rw [← hstt] at gb
      have hsha : sha l = st.bytes := by rw [hstt]; exact sha_eq l
      have HSH := Lib.hid hsha
      have hb0r := below_then hb03 hbr (by omega)
      have q0r := (hbr.block _ (lt_of_get q03)).trans q03
      clear hst hstt hsha hd hlt hdN
      have bz := fun W => run_build_z (P := Tryd.prog) W 25 5 32 Z hZ0 Tryd.underlying25 ⟨_, Tryd.sizeOf5 W⟩
      have hZi : (Tryd.prog.info? 25).map (·.size) = some Z.size := by rw [hZ.out, idC_size]; exact size_id
      have hZ1 : ∀ u ∈ Z.toList, u.oneCell' = true := by rw [hZ.out]; simpa [idC] using u8v_one zeros
      have qn : (wr.alloc (.cells Z 25)).heap[wr.heap.size]? = some (.cells Z 25 (0, 0)) := heap_alloc_new _ _
      go_upto_region 8 with (fail)
      go_upto_region 9 with (first
        | (with_reducible refine wpList_build_z rfl 25 rfl Z (bz _) ?_)
        | (with_reducible refine wpList_alloc_z rfl 25 rfl Z hZ0 ?_)
        | (with_reducible refine wpList_store_z rfl 25 (.tmp 7) (.tmp 27) rfl _ rfl Z rfl Z _ qn rfl hZi hZ1 ?_)
        | fail)
      obtain ⟨w5, hw5⟩ : ∃ w5, w5 = (wr.alloc (.cells Z 25)).setRow wr.heap.size Z := ⟨_, rfl⟩
      have hb5 : Below wr.heap.size wr w5 := by rw [hw5]; exact below_setRow ((Below.refl _ wr).alloc (Nat.le_refl _) _) (Nat.le_refl _) Z
      have q5 : w5.heap[wr.heap.size]? = some (.cells (idC (byK st.bytes 0)) 25 (0, 0)) := by rw [byK_zero, ← hZ.out, hw5]; exact setRow_heap _ _ _ _ _ _ qn
      have gb5 := (hb5.block _ (lt_of_get gb)).trans gb
      have q05 := (hb5.block _ (lt_of_get q0r)).trans q0r
      have hb05 := below_then hb0r hb5 (Nat.le_refl _)
      have hbl := lt_of_get gb
      have h0l := lt_of_get q0r
      rw [← hw5]
      obtain ⟨gi, hgi⟩ : ∃ gi, gi = wr.heap.size := ⟨_, rfl⟩
      rw [← hgi] at q5 hbl h0l ⊢
      have hbsl : st.bytes.length = 32 := bytes_length st
      clear hw5 hb5 q0r hb0r gb hgi hbr qn bz
      go_wp2_with fail
      go_loopw [8] (fun i wr => ∃ k : Nat, k ≤ 32 ∧ i = .int .i64 (k : Int) ∧ wr.heap[gi]? = some (.cells (idC (byK st.bytes k)) 25 (0, 0)) ∧ wr.heap[b]? = some (.cells (u32C st.l) 27 (0, 0)) ∧ wr.heap[w.heap.size]? = some (.cells Z 25 (0, 0)) ∧ Below w.heap.size w wr) (fun i _ => 32 - (intOf i).toNat)
      case atStart => exact ⟨0, by omega, rfl, q5, gb5, q05, hb05⟩
      case round =>
        obtain ⟨k, hk, rfl, g1, g2, g3, gbw⟩ := hrel
        clear q5 gb5 q05 hb05
        by_cases hlt : k < 32
        · have hki : (k : Int) < 32 := by omega
          have hby := bytes_at st k hlt
          have hstep := byK_step st.bytes hbsl k hlt
          rw [hby] at hstep
          obtain ⟨j, hj⟩ : ∃ j, j = k / 4 := ⟨_, rfl⟩
          obtain ⟨m, hm⟩ : ∃ m, m = k % 4 := ⟨_, rfl⟩
          obtain ⟨sh, hsh⟩ : ∃ sh, sh = 24 - 8 * m := ⟨_, rfl⟩
          rw [← hj, ← hm, ← hsh] at hstep
          have hq : (k : Int) / 4 = (j : Int) := by omega
          have hmm : (k : Int) % 4 = (m : Int) := by omega
          have hs2 : 24 - 8 * (m : Int) = (sh : Int) := by omega
          have hj8 : j < 8 := by omega
          have hji : (j : Int) < 8 := by omega
          have hm4 : (m : Int) < 4 := by omega
          have hs24 : (sh : Int) ≤ 24 := by omega
          have cz : wr.cell? ⟨b, j, none⟩ = some (.int .u32 (st.l.getD j 0 : Nat)) := by
            rw [cell_of_row _ _ _ _ _ _ g2]
            exact u32C_get _ _ hj8
          have hfro : wr.frozen? ⟨gi, k, none⟩ = false := frozen_of_row wr _ k _ _ g1
          have hlen : (byK st.bytes k).length = 32 := byK_length _ hbsl k hk
          have hcell : wr.cell? ⟨gi, k, none⟩ = some (.int .u8 (((byK st.bytes k).getD k 0).toNat : Int)) := by
            rw [cell_of_row _ _ _ _ _ _ g1]
            have := u8v_get (byK st.bytes k) k (by omega)
            rw [List.getD_eq_getElem?_getD, List.getElem?_eq_getElem (by omega)]
            simpa [idC] using this
          generalize st.l.getD j 0 = z at cz hstep
          obtain ⟨y, hy⟩ : ∃ y, y = UInt8.ofNat (z / 2 ^ sh) := ⟨_, rfl⟩
          have hv : (z : Int) / 2 ^ sh % 256 = (y.toNat : Int) := by
            rw [hy, UInt8.toNat_ofNat', Int.natCast_emod, Int.natCast_ediv, Int.natCast_pow]
            rfl
          rw [← hy] at hstep
          have HSTP := Lib.hid hstep
          have HV := Lib.hid hv
          clear hby hstep hj hm hsh hy hv
          go_wp2_with fail
          rw [HV.out]
          refine ⟨⟨k + 1, by omega, rfl, ?_, ?_, ?_, gbw.setCell (p := ⟨gi, k, none⟩) (Nat.le_of_lt h0l) _⟩, by simp [intOf]; omega⟩
          · rw [heap_setCell_same _ _ _ _ _ _ g1, ← idC_set, HSTP.out]
          · rw [heap_setCell_other _ _ _ _ (show b ≠ gi by omega)]; exact g2
          · rw [heap_setCell_other _ _ _ _ (show w.heap.size ≠ gi by omega)]; exact g3
        · obtain rfl : k = 32 := by omega
          rw [byK_full _ hbsl, ← HSH.out] at g1
          obtain ⟨D, hD, hDs, hD1⟩ : ∃ D : Array Value, Hid (D = idC (sha l)) ∧ D.size = 32 ∧ (∀ u ∈ D.toList, u.oneCell' = true) := ⟨_, rfl, by rw [idC_size]; rfl, by simpa [idC] using u8v_one (sha l)⟩
          rw [← hD.out] at g1
          have hDi : (Tryd.prog.info? 25).map (·.size) = some D.size := by rw [hDs]; exact size_id
          have hDz : D.size = Z.size := by rw [hDs, hZ.out, idC_size]; rfl
          have gr := setRow_heap wr w.heap.size _ D _ _ g3
          have gbr := below_setRow gbw (Nat.le_refl w.heap.size) D
          rw [show ((32 : Nat) : Int) = 32 from rfl]
          clear hlt hk hZ1 hZi HSH
          go_wp2_with (first
            | (with_reducible refine wpList_load_row rfl 25 (.tmp 7) rfl _ rfl 25 D _ _ g1 Tryd.underlying25 rfl hDi ?_)
            | (with_reducible refine wpList_store_z rfl 25 (.tmp 2) (.tmp 46) rfl _ rfl D rfl Z _ g3 hDz hDi hD1 ?_)
            | fail)
          exact bodyPost_ret (results_cell_row rfl _ _ w.heap.size 25 D (0, 0) _ rfl gr Tryd.underlying25 rfl hDi) rfl ⟨by rw [hD.out], gbr⟩
end Go.Proofs.YtcdnbidenaljlaaDoor
