/- The reference's SHA-256: constants, turn. -/
import Derived.Test.YtcdnbidenaljlaaDoorShaQa
import Derived.Test.YtcdnbidenaljlaaDoorShaR
import Derived.Test.YtcdnbidenaljlaaDoorShaM
import Derived.StillTailTactics
namespace Go.Proofs.YtcdnbidenaljlaaDoor
open Go.RowKit

set_option maxRecDepth 20000 in
theorem constants_any (w : World) : Calls Tryd.prog 24 #[] w fun e w' => e = .returned (.slice (some ⟨w.heap.size, 0, none⟩) 64 64) ∧ w' = w.alloc (.cells (u32C ks) 27) := by
  go_enter Tryd.func24, Tryd.ntmps24
  go_wp2
  go_ret
  exact ⟨rfl, rfl⟩
/-- A slice of words that is read. -/
def rdW (w : World) (g o : Nat) (l : List Nat) : Prop := ∀ j, j < l.length → w.cell? ⟨g, o + j, none⟩ = some (.int .u32 (l.getD j 0 : Nat))
def rdB (w : World) (g o : Nat) (l : List UInt8) : Prop := ∀ j, j < l.length → w.cell? ⟨g, o + j, none⟩ = some (.int .u8 ((l.getD j 0).toNat : Int))
theorem right_q (x k : Nat) (kk : Int) (hk : kk = (k : Int)) (hx : x < 4294967296) (h1 : 1 ≤ k) (h2 : k < 32) (w : World) (n : Nat) :
    Calls Tryd.prog 41 #[.int .u32 (x : Int), .int .u64 kk] (w.drewN n) fun e w' => e = .returned (.int .u32 (rr x k : Nat)) ∧ ∃ m, w' = w.drewN m := by
  subst hk
  exact Calls.quiet_of_same ((right_any x k hx h1 h2 _).mono fun _ _ h => ⟨h.1, h.2.symm⟩)
theorem right_l (x k : Nat) (kk : Int) (hk : kk = (k : Int)) (hx : x < 4294967296) (h1 : 1 ≤ k) (h2 : k < 32) (w : World) :
    Calls Tryd.prog 41 #[.int .u32 (x : Int), .int .u64 kk] w fun e w' => e = .returned (.int .u32 (rr x k : Nat)) ∧ w = w' := by
  subst hk
  exact right_any x k hx h1 h2 w
theorem mk_words : ∃ O : Obj, O = .cells (u32C (List.replicate 64 0)) 27 ∧ ∀ W : World, (Instr.makeSlice 53 (.int .i64 64) (.int .i64 64)).run Tryd.prog W = .ok (.slice (some ⟨W.heap.size, 0, none⟩) 64 64) (W.alloc O) := ⟨_, rfl, fun W => by kernel_rfl⟩
set_option maxRecDepth 100000 in
set_option maxHeartbeats 2000000 in
theorem turn_any (s : S8) (hs : s.ok) (gs sc : Nat) (x : List UInt8) (hx : x.length = 64) (gx ox xc gk kc : Nat) (w : World) (hS : rdW w gs 0 s.l) (hX : rdB w gx ox x) (hK : rdW w gk 0 ks) :
    Calls Tryd.prog 25 #[.slice (some ⟨gs, 0, none⟩) 8 sc, .slice (some ⟨gx, ox, none⟩) 64 xc, .slice (some ⟨gk, 0, none⟩) 64 kc] w fun e w' => ∃ b, e = .returned (.slice (some ⟨b, 0, none⟩) 8 8) ∧ w'.heap[b]? = some (.cells (u32C (mixedS s x).l) 27 (0, 0)) ∧ w.heap.size ≤ b ∧ Below w.heap.size w w' := by
  obtain ⟨O, hO, hmk⟩ := mk_words
  obtain ⟨w1, hw1⟩ : ∃ w1, w1 = w.alloc O := ⟨_, rfl⟩
  have hb1 : Below w.heap.size w w1 := by rw [hw1]; exact (Below.refl _ _).alloc (Nat.le_refl _) _
  have q1 : w1.heap[w.heap.size]? = some (.cells (u32C (schL x 0)) 27 (0, 0)) := by rw [hw1, hO]; exact heap_alloc_new _ _
  have HW1 := Lib.hid hw1
  clear hw1 hO
  go_enter Tryd.func25, Tryd.ntmps25
  go_upto_region 2 with (fail)
  rw [← HW1.out]
  go_wp2_with fail
  go_loopw [8] (fun i wr => ∃ k : Nat, k ≤ 16 ∧ i = .int .i64 (k : Int) ∧ wr.heap[w.heap.size]? = some (.cells (u32C (schL x k)) 27 (0, 0)) ∧ Below w.heap.size w wr) (fun i _ => 16 - (intOf i).toNat)
  case atStart => exact ⟨0, by omega, rfl, q1, hb1⟩
  case round =>
    obtain ⟨k, hk, rfl, g1, gb⟩ := hrel
    clear q1 hb1 HW1 hmk
    by_cases hlt : k < 16
    · have hki : (k : Int) < 16 := by omega
      have c0 := (gb.cell (World.block_lt_of_cell? w _ (hX (4 * k) (by omega)))).trans (hX (4 * k) (by omega))
      have c1 := (gb.cell (World.block_lt_of_cell? w _ (hX (4 * k + 1) (by omega)))).trans (hX (4 * k + 1) (by omega))
      have c2 := (gb.cell (World.block_lt_of_cell? w _ (hX (4 * k + 2) (by omega)))).trans (hX (4 * k + 2) (by omega))
      have c3 := (gb.cell (World.block_lt_of_cell? w _ (hX (4 * k + 3) (by omega)))).trans (hX (4 * k + 3) (by omega))
      have hbw : beW x k = (x.getD (4 * k) 0).toNat * 16777216 + (x.getD (4 * k + 1) 0).toNat * 65536 + (x.getD (4 * k + 2) 0).toNat * 256 + (x.getD (4 * k + 3) 0).toNat := rfl
      have l0 := (x.getD (4 * k) 0).toNat_lt
      have l1 := (x.getD (4 * k + 1) 0).toNat_lt
      have l2 := (x.getD (4 * k + 2) 0).toNat_lt
      have l3 := (x.getD (4 * k + 3) 0).toNat_lt
      generalize (x.getD (4 * k) 0).toNat = y0 at *
      generalize (x.getD (4 * k + 1) 0).toNat = y1 at *
      generalize (x.getD (4 * k + 2) 0).toNat = y2 at *
      generalize (x.getD (4 * k + 3) 0).toNat = y3 at *
      have m0 : (y0 : Int) < 256 := by omega
      have m1 : (y1 : Int) < 256 := by omega
      have m2 : (y2 : Int) < 256 := by omega
      have m3 : (y3 : Int) < 256 := by omega
      have HBW := Lib.hid hbw
      clear hbw l0 l1 l2 l3
      go_upto_region 5 with (fail)
      obtain ⟨d, hd⟩ : ∃ d, d = 4 * k := ⟨_, rfl⟩
      rw [← hd] at c0 c1 c2 c3
      have hd4 : 4 * (k : Int) = (d : Int) := by omega
      have hd60 : d ≤ 60 := by omega
      have e0 : IntKind.i64.wrap (d : Int) = (d : Int) := by rw [IntKind.wrap_i64]; omega
      have e1 : IntKind.i64.wrap ((d : Int) + 1) = (d : Int) + 1 := by rw [IntKind.wrap_i64]; omega
      have e2 : IntKind.i64.wrap ((d : Int) + 2) = (d : Int) + 2 := by rw [IntKind.wrap_i64]; omega
      have e3 : IntKind.i64.wrap ((d : Int) + 3) = (d : Int) + 3 := by rw [IntKind.wrap_i64]; omega
      have i0 : (d : Int) < 64 := by omega
      have i1 : (d : Int) + 1 < 64 := by omega
      have n1 : ((d : Int) + 1).toNat = d + 1 := by omega
      have p1 : 0 ≤ (d : Int) + 1 := by omega
      have i2 : (d : Int) + 2 < 64 := by omega
      have n2 : ((d : Int) + 2).toNat = d + 2 := by omega
      have p2 : 0 ≤ (d : Int) + 2 := by omega
      have i3 : (d : Int) + 3 < 64 := by omega
      have n3 : ((d : Int) + 3).toNat = d + 3 := by omega
      have p3 : 0 ≤ (d : Int) + 3 := by omega
      have v0 : IntKind.u32.wrap (y0 : Int) = (y0 : Int) := by rw [IntKind.wrap_u32]; omega
      have v1 : IntKind.u32.wrap (y1 : Int) = (y1 : Int) := by rw [IntKind.wrap_u32]; omega
      have v2 : IntKind.u32.wrap (y2 : Int) = (y2 : Int) := by rw [IntKind.wrap_u32]; omega
      have v3 : IntKind.u32.wrap (y3 : Int) = (y3 : Int) := by rw [IntKind.wrap_u32]; omega
      have hk64 : (k : Int) < 64 := by omega
      clear hd hki hk
      go_still_tail 36, (by kernel_rfl)
      change wpList _ _ _ _ _ wr.drew
      have hv : IntKind.u32.wrap (IntKind.u32.wrap (IntKind.u32.wrap (IntKind.u32.wrap ((y0 : Int) * 16777216) + IntKind.u32.wrap ((y1 : Int) * 65536)) + IntKind.u32.wrap ((y2 : Int) * 256)) + (y3 : Int)) = (wrd x (sched x k) k : Nat) := by
        rw [wrd, if_pos (by omega), HBW.out]
        simp only [IntKind.wrap_u32]
        omega
      rw [hv]
      have hlen : (schL x k).length = 64 := schL_length x k (by omega)
      obtain ⟨w2, hw2⟩ : ∃ w2, w2 = wr.drew := ⟨_, rfl⟩
      have hb2 : Below w.heap.size w w2 := by rw [hw2]; exact gb.drew
      have g2 : w2.heap[w.heap.size]? = some (.cells (u32C (schL x k)) 27 (0, 0)) := by rw [hw2]; exact g1
      have hfro : w2.frozen? ⟨w.heap.size, k, none⟩ = false := frozen_of_row w2 _ k _ _ g2
      have hcell : w2.cell? ⟨w.heap.size, k, none⟩ = some (.int .u32 ((schL x k).getD k 0 : Nat)) := by
        rw [cell_of_row _ _ _ _ _ _ g2]
        exact u32C_get _ _ (by omega)
      have hst := schL_set x k (by omega)
      have HST := Lib.hid hst
      rw [← hw2]
      clear hw2 hv hst c0 c1 c2 c3 e0 e1 e2 e3 i0 i1 i2 i3 n1 n2 n3 p1 p2 p3 v0 v1 v2 v3 m0 m1 m2 m3 g1 gb hd4 hd60
      generalize wrd x (sched x k) k = wv at *
      go_wp2_with fail
      refine ⟨⟨k + 1, by omega, rfl, ?_, hb2.setCell (p := ⟨w.heap.size, k, none⟩) (Nat.le_refl _) _⟩, by simp [intOf]; omega⟩
      rw [heap_setCell_same _ _ _ _ _ _ g2, ← u32C_set, HST.out]
    · obtain rfl : k = 16 := by omega
      rw [show ((16 : Nat) : Int) = 16 from rfl]
      clear hlt hk
      go_wp2_with fail
      have g16 := g1
      have gb16 := gb
      clear g1 gb
      go_loopw [9] (fun i wr => ∃ k : Nat, 16 ≤ k ∧ k ≤ 64 ∧ i = .int .i64 (k : Int) ∧ wr.heap[w.heap.size]? = some (.cells (u32C (schL x k)) 27 (0, 0)) ∧ Below w.heap.size w wr) (fun i _ => 64 - (intOf i).toNat)
      case atStart => exact ⟨16, by omega, by omega, rfl, g16, gb16⟩
      case round =>
        obtain ⟨k, h16, hk, rfl, g1, gb⟩ := hrel
        clear g16 gb16
        by_cases hlt : k < 64
        · have hki : (k : Int) < 64 := by omega
          have bl (j : Nat) (hj : j < k) : wr.cell? ⟨w.heap.size, j, none⟩ = some (.int .u32 (wrd x (sched x j) j : Nat)) := by
            rw [cell_of_row _ _ _ _ _ _ g1, u32C_get _ _ (by rw [schL_length _ _ hk]; omega), schL_get _ _ _ hj]
          obtain ⟨j0, e0⟩ : ∃ j, j = k - 16 := ⟨_, rfl⟩
          obtain ⟨j1, e1⟩ : ∃ j, j = k - 15 := ⟨_, rfl⟩
          obtain ⟨j9, e9⟩ : ∃ j, j = k - 7 := ⟨_, rfl⟩
          obtain ⟨jd, ed⟩ : ∃ j, j = k - 2 := ⟨_, rfl⟩
          have hnx : wrd x (sched x k) k = add32 (add32 (add32 (wrd x (sched x j0) j0) (low0 (wrd x (sched x j1) j1))) (wrd x (sched x j9) j9)) (high0 (wrd x (sched x jd) jd)) := by
            rw [wrd, if_neg (by omega)]
            unfold nxt
            rw [← e0, ← e1, ← e9, ← ed, sched_get _ _ _ (by omega), sched_get _ _ _ (by omega), sched_get _ _ _ (by omega), sched_get _ _ _ (by omega)]
          have b0 := bl j0 (by omega)
          have b1 := bl j1 (by omega)
          have b9 := bl j9 (by omega)
          have b14 := bl jd (by omega)
          have L1 := Lib.hid (wrd_lt x (sched x j1) j1)
          have L14 := Lib.hid (wrd_lt x (sched x jd) jd)
          generalize wrd x (sched x j0) j0 = z0 at *
          generalize wrd x (sched x j1) j1 = z1 at *
          generalize wrd x (sched x j9) j9 = z9 at *
          generalize wrd x (sched x jd) jd = z14 at *
          have HN := Lib.hid hnx
          have p0 : IntKind.i64.wrap ((k : Int) - 16) = (j0 : Int) := by rw [show (k : Int) - 16 = j0 by omega]; exact IntWalk.i64_in _ (by omega)
          have p1 : IntKind.i64.wrap ((k : Int) - 15) = (j1 : Int) := by rw [show (k : Int) - 15 = j1 by omega]; exact IntWalk.i64_in _ (by omega)
          have p9 : IntKind.i64.wrap ((k : Int) - 7) = (j9 : Int) := by rw [show (k : Int) - 7 = j9 by omega]; exact IntWalk.i64_in _ (by omega)
          have p14 : IntKind.i64.wrap ((k : Int) - 2) = (jd : Int) := by rw [show (k : Int) - 2 = jd by omega]; exact IntWalk.i64_in _ (by omega)
          have i0 : j0 < 64 := by omega
          have i1 : j1 < 64 := by omega
          have i9 : j9 < 64 := by omega
          have id : jd < 64 := by omega
          have hst := Lib.hid (schL_set x k hlt)
          have hlen : (schL x k).length = 64 := schL_length x k (by omega)
          have hk64 : k < 64 := hlt
          have H16 := Lib.hid h16
          have HKK := Lib.hid hk
          clear bl hnx e0 e1 e9 ed h16 hk
          have r7 := Lib.hid (right_q z1 7 7 rfl L1.out (by omega) (by omega))
          have r18 := Lib.hid (right_q z1 18 18 rfl L1.out (by omega) (by omega))
          have r17 := Lib.hid (right_q z14 17 17 rfl L14.out (by omega) (by omega))
          have r19 := Lib.hid (right_q z14 19 19 rfl L14.out (by omega) (by omega))
          go_upto_region 9 with (fail)
          go_quiet ((first
            | (go_at_call 41; with_reducible exact r7.out _ _)
            | (go_at_call 41; with_reducible exact r18.out _ _)))
          rw [low_bits _ L1.out]
          obtain ⟨w2, hw2⟩ : ∃ w2, w2 = wr.drewN nq := ⟨_, rfl⟩
          replace b0 : w2.cell? ⟨w.heap.size, j0, none⟩ = some (.int .u32 (z0 : Int)) := by rw [hw2]; exact b0
          replace b9 : w2.cell? ⟨w.heap.size, j9, none⟩ = some (.int .u32 (z9 : Int)) := by rw [hw2]; exact b9
          replace b14 : w2.cell? ⟨w.heap.size, jd, none⟩ = some (.int .u32 (z14 : Int)) := by rw [hw2]; exact b14
          replace g1 : w2.heap[w.heap.size]? = some (.cells (u32C (schL x k)) 27 (0, 0)) := by rw [hw2]; exact g1
          replace gb : Below w.heap.size w w2 := by rw [hw2]; exact ⟨gb.os, gb.tape, gb.output, gb.size, gb.block⟩
          rw [← hw2]
          clear hw2 b1 p1 i1 r7 r18
          go_upto_region 10 with (fail)
          go_quiet ((first
            | (go_at_call 41; with_reducible exact r17.out _ _)
            | (go_at_call 41; with_reducible exact r19.out _ _)))
          rw [high_bits _ L14.out]
          obtain ⟨w3, hw3⟩ : ∃ w3, w3 = w2.drewN nq := ⟨_, rfl⟩
          replace b0 : w3.cell? ⟨w.heap.size, j0, none⟩ = some (.int .u32 (z0 : Int)) := by rw [hw3]; exact b0
          replace b9 : w3.cell? ⟨w.heap.size, j9, none⟩ = some (.int .u32 (z9 : Int)) := by rw [hw3]; exact b9
          replace g1 : w3.heap[w.heap.size]? = some (.cells (u32C (schL x k)) 27 (0, 0)) := by rw [hw3]; exact g1
          replace gb : Below w.heap.size w w3 := by rw [hw3]; exact ⟨gb.os, gb.tape, gb.output, gb.size, gb.block⟩
          have hfro : w3.frozen? ⟨w.heap.size, k, none⟩ = false := frozen_of_row w3 _ k _ _ g1
          have hcell : w3.cell? ⟨w.heap.size, k, none⟩ = some (.int .u32 ((schL x k).getD k 0 : Nat)) := by
            rw [cell_of_row _ _ _ _ _ _ g1]
            exact u32C_get _ _ (by omega)
          rw [← hw3]
          clear hw3 b14 p14 id r17 r19
          go_upto_region 11 with (fail)
          go_region
          rw [add_fold, ← HN.out]
          clear b0 b9 p0 p9 i0 i9 hcell hfro
          generalize wrd x (sched x k) k = wv at *
          go_wp2_with fail
          refine ⟨⟨k + 1, by have := H16.out; omega, by omega, rfl, ?_, (gb.setCell (p := ⟨w.heap.size, k, none⟩) (Nat.le_refl _) _).drew⟩, by simp [intOf]; omega⟩
          show (w3.setCell ⟨w.heap.size, k, none⟩ (.int .u32 (wv : Int))).heap[w.heap.size]? = _
          rw [heap_setCell_same _ _ _ _ _ _ g1, ← u32C_set, hst.out]
        · obtain rfl : k = 64 := by omega
          rw [show ((64 : Nat) : Int) = 64 from rfl]
          have hsl : schL x 64 = sched x 64 := by simp [schL]
          rw [hsl] at g1
          obtain ⟨t0, t1, t2, t3, t4, t5, t6, t7⟩ := s
          have cs : ∀ W, Below w.heap.size w W → ∀ j, j < 8 → W.cell? ⟨gs, j, none⟩ = some (.int .u32 ((S8.l ⟨t0, t1, t2, t3, t4, t5, t6, t7⟩).getD j 0 : Nat)) := fun W hW j hj => by
            have := hS j hj
            rw [Nat.zero_add] at this
            exact (hW.cell (World.block_lt_of_cell? w _ this)).trans this
          have f0 : wr.cell? ⟨gs, 0, none⟩ = some (.int .u32 (t0 : Int)) := cs wr gb 0 (by omega)
          have f1 : wr.cell? ⟨gs, 1, none⟩ = some (.int .u32 (t1 : Int)) := cs wr gb 1 (by omega)
          have f2 : wr.cell? ⟨gs, 2, none⟩ = some (.int .u32 (t2 : Int)) := cs wr gb 2 (by omega)
          have f3 : wr.cell? ⟨gs, 3, none⟩ = some (.int .u32 (t3 : Int)) := cs wr gb 3 (by omega)
          have HS := Lib.hid cs
          clear cs hlt h16 hk
          go_upto_region 12 with (fail)
          go_quiet (fail)
          obtain ⟨w2, hw2⟩ : ∃ w2, w2 = wr.drewN nq := ⟨_, rfl⟩
          replace g1 : w2.heap[w.heap.size]? = some (.cells (u32C (sched x 64)) 27 (0, 0)) := by rw [hw2]; exact g1
          replace gb : Below w.heap.size w w2 := by rw [hw2]; exact ⟨gb.os, gb.tape, gb.output, gb.size, gb.block⟩
          rw [← hw2]
          clear hw2 f0 f1 f2 f3
          have f4 : w2.cell? ⟨gs, 4, none⟩ = some (.int .u32 (t4 : Int)) := HS.out w2 gb 4 (by omega)
          have f5 : w2.cell? ⟨gs, 5, none⟩ = some (.int .u32 (t5 : Int)) := HS.out w2 gb 5 (by omega)
          have f6 : w2.cell? ⟨gs, 6, none⟩ = some (.int .u32 (t6 : Int)) := HS.out w2 gb 6 (by omega)
          have f7 : w2.cell? ⟨gs, 7, none⟩ = some (.int .u32 (t7 : Int)) := HS.out w2 gb 7 (by omega)
          go_upto_region 13 with (fail)
          go_quiet (fail)
          obtain ⟨w3, hw3⟩ : ∃ w3, w3 = w2.drewN nq := ⟨_, rfl⟩
          replace g1 : w3.heap[w.heap.size]? = some (.cells (u32C (sched x 64)) 27 (0, 0)) := by rw [hw3]; exact g1
          replace gb : Below w.heap.size w w3 := by rw [hw3]; exact ⟨gb.os, gb.tape, gb.output, gb.size, gb.block⟩
          rw [← hw3]
          clear hw3 f4 f5 f6 f7
          go_wp2_with fail
          have g3 := g1
          have gb3 := gb
          clear g1 gb
          go_loopw [12, 13, 14, 15, 16, 17, 18, 19, 20] (fun a b c d e f g h i wr => ∃ (k : Nat) (t : S8), k ≤ 64 ∧ t = rds (sched x 64) ⟨t0, t1, t2, t3, t4, t5, t6, t7⟩ k ∧ i = .int .i64 (k : Int) ∧ a = .int .u32 (t.a : Int) ∧ b = .int .u32 (t.b : Int) ∧ c = .int .u32 (t.c : Int) ∧ d = .int .u32 (t.d : Int) ∧ e = .int .u32 (t.e : Int) ∧ f = .int .u32 (t.f : Int) ∧ g = .int .u32 (t.g : Int) ∧ h = .int .u32 (t.h : Int) ∧ wr.heap[w.heap.size]? = some (.cells (u32C (sched x 64)) 27 (0, 0)) ∧ Below w.heap.size w wr) (fun _ _ _ _ _ _ _ _ i _ => 64 - (intOf i).toNat)
          case atStart => exact ⟨0, ⟨t0, t1, t2, t3, t4, t5, t6, t7⟩, by omega, rfl, rfl, rfl, rfl, rfl, rfl, rfl, rfl, rfl, rfl, g3, gb3⟩
          case round =>
            obtain ⟨k, ⟨ta, tb, tc, td, te, tf, tg, th⟩, hk, ht, rfl, rfl, rfl, rfl, rfl, rfl, rfl, rfl, rfl, g1, gb⟩ := hrel
            clear g3 gb3
            by_cases hlt : k < 64
            · have hki : (k : Int) < 64 := by omega
              have hok : (⟨ta, tb, tc, td, te, tf, tg, th⟩ : S8).ok := by rw [ht]; exact rds_ok _ _ _ hs
              have hnext : rds (sched x 64) ⟨t0, t1, t2, t3, t4, t5, t6, t7⟩ (k + 1) = rnd ⟨ta, tb, tc, td, te, tf, tg, th⟩ (ks.getD k 0) ((sched x 64).getD k 0) := by
                show rnd _ _ _ = _
                rw [← ht]
              have fk : wr.cell? ⟨gk, k, none⟩ = some (.int .u32 (ks.getD k 0 : Nat)) := by
                have := hK k hlt
                rw [Nat.zero_add] at this
                exact (gb.cell (World.block_lt_of_cell? w _ this)).trans this
              have fw : wr.cell? ⟨w.heap.size, k, none⟩ = some (.int .u32 ((sched x 64).getD k 0 : Nat)) := by
                rw [cell_of_row _ _ _ _ _ _ g1]
                exact u32C_get _ _ (by rw [sched_length]; exact hlt)
              generalize (sched x 64).getD k 0 = wv at fw hnext
              generalize ks.getD k 0 = kv at fk hnext
              obtain ⟨ka, kb, kc', kd, ke, kf, kg, kh⟩ := hok
              have hS1 := sig1_bits te ke
              have hS0 := sig0_bits ta ka
              have hM := maj_bits ta tb tc ka kb kc'
              obtain ⟨ne, hne⟩ : ∃ ne, ne = 4294967295 - te := ⟨_, rfl⟩
              have ke' : te < 4294967296 := ke
              have hNo : IntKind.u32.wrap (4294967295 - (te : Int)) = (ne : Int) := by rw [hne, IntKind.wrap_u32]; omega
              have hC := ch_bits te tf tg ke kf kg
              rw [← hne] at hC
              obtain ⟨o1, ho1⟩ : ∃ o, o = add32 (add32 (add32 (add32 th (sig1 te)) (chW te tf tg)) kv) wv := ⟨_, rfl⟩
              have hO1 := wrap_add32 th (sig1 te)
              have hO2 := wrap_add32 (add32 th (sig1 te)) (chW te tf tg)
              have hO3 := wrap_add32 (add32 (add32 th (sig1 te)) (chW te tf tg)) kv
              have hO4 := wrap_add32 (add32 (add32 (add32 th (sig1 te)) (chW te tf tg)) kv) wv
              rw [← ho1] at hO4
              have r6 := Lib.hid (right_q te 6 6 rfl ke (by omega) (by omega))
              have r11 := Lib.hid (right_q te 11 11 rfl ke (by omega) (by omega))
              have r25 := Lib.hid (right_q te 25 25 rfl ke (by omega) (by omega))
              have q2 := Lib.hid (right_l ta 2 2 rfl ka (by omega) (by omega))
              have q13 := Lib.hid (right_l ta 13 13 rfl ka (by omega) (by omega))
              have q22 := Lib.hid (right_l ta 22 22 rfl ka (by omega) (by omega))
              have HO := Lib.hid ho1
              have HN := Lib.hid hnext
              have hlk : (sched x 64).length = 64 := sched_length _ _
              clear ho1 hne hnext ka kb kc' kd ke kf kg kh ht ke'
              go_upto_region 17 with (fail)
              go_quiet ((first
                | (go_at_call 41; with_reducible exact r6.out _ _)
                | (go_at_call 41; with_reducible exact r11.out _ _)
                | (go_at_call 41; with_reducible exact r25.out _ _)))
              obtain ⟨w4, hw4⟩ : ∃ w4, w4 = wr.drewN nq := ⟨_, rfl⟩
              replace g1 : w4.heap[w.heap.size]? = some (.cells (u32C (sched x 64)) 27 (0, 0)) := by rw [hw4]; exact g1
              replace gb : Below w.heap.size w w4 := by rw [hw4]; exact ⟨gb.os, gb.tape, gb.output, gb.size, gb.block⟩
              rw [← hw4]
              clear hw4 r6 r11 r25 hS1 hNo hC hO1 hO2 hO3 hO4 fk fw
              go_wp2_with fail
              ((with_reducible refine (q2.out _).mono ?_))
              rintro e w' ⟨rfl, rfl⟩
              go_wp2_with fail
              ((with_reducible refine (q13.out _).mono ?_))
              rintro e w' ⟨rfl, rfl⟩
              go_wp2_with fail
              ((with_reducible refine (q22.out _).mono ?_))
              rintro e w' ⟨rfl, rfl⟩
              go_wp2_with fail
              have HNr := HN.out
              unfold rnd oneW twoW at HNr
              rw [← HO.out] at HNr
              go_roundw
              case rel =>
                refine ⟨k + 1, rnd ⟨ta, tb, tc, td, te, tf, tg, th⟩ kv wv, by omega, HN.out.symm, rfl, ?_, rfl, rfl, rfl, ?_, rfl, rfl, rfl, g1, gb⟩
                · unfold rnd oneW twoW
                  show Value.int .u32 _ = .int .u32 _
                  rw [← HO.out]
                  congr 1
                  try (unfold add32; omega)
                · unfold rnd oneW
                  show Value.int .u32 _ = .int .u32 _
                  rw [← HO.out]
                  congr 1
              case measure => simp [intOf]; try omega
            · obtain rfl : k = 64 := by omega
              rw [show ((64 : Nat) : Int) = 64 from rfl]
              have f0 : wr.cell? ⟨gs, 0, none⟩ = some (.int .u32 (t0 : Int)) := HS.out wr gb 0 (by omega)
              have f1 : wr.cell? ⟨gs, 1, none⟩ = some (.int .u32 (t1 : Int)) := HS.out wr gb 1 (by omega)
              have f2 : wr.cell? ⟨gs, 2, none⟩ = some (.int .u32 (t2 : Int)) := HS.out wr gb 2 (by omega)
              have f3 : wr.cell? ⟨gs, 3, none⟩ = some (.int .u32 (t3 : Int)) := HS.out wr gb 3 (by omega)
              have f4 : wr.cell? ⟨gs, 4, none⟩ = some (.int .u32 (t4 : Int)) := HS.out wr gb 4 (by omega)
              have f5 : wr.cell? ⟨gs, 5, none⟩ = some (.int .u32 (t5 : Int)) := HS.out wr gb 5 (by omega)
              have f6 : wr.cell? ⟨gs, 6, none⟩ = some (.int .u32 (t6 : Int)) := HS.out wr gb 6 (by omega)
              have f7 : wr.cell? ⟨gs, 7, none⟩ = some (.int .u32 (t7 : Int)) := HS.out wr gb 7 (by omega)
              have A0 : IntKind.u32.wrap ((t0 : Int) + (ta : Int)) = (add32 ta t0 : Nat) := by rw [wrap_add32]; unfold add32; rw [Nat.add_comm]
              have A1 : IntKind.u32.wrap ((t1 : Int) + (tb : Int)) = (add32 tb t1 : Nat) := by rw [wrap_add32]; unfold add32; rw [Nat.add_comm]
              have A2 : IntKind.u32.wrap ((t2 : Int) + (tc : Int)) = (add32 tc t2 : Nat) := by rw [wrap_add32]; unfold add32; rw [Nat.add_comm]
              have A3 : IntKind.u32.wrap ((t3 : Int) + (td : Int)) = (add32 td t3 : Nat) := by rw [wrap_add32]; unfold add32; rw [Nat.add_comm]
              have A4 : IntKind.u32.wrap ((t4 : Int) + (te : Int)) = (add32 te t4 : Nat) := by rw [wrap_add32]; unfold add32; rw [Nat.add_comm]
              have A5 : IntKind.u32.wrap ((t5 : Int) + (tf : Int)) = (add32 tf t5 : Nat) := by rw [wrap_add32]; unfold add32; rw [Nat.add_comm]
              have A6 : IntKind.u32.wrap ((t6 : Int) + (tg : Int)) = (add32 tg t6 : Nat) := by rw [wrap_add32]; unfold add32; rw [Nat.add_comm]
              have A7 : IntKind.u32.wrap ((t7 : Int) + (th : Int)) = (add32 th t7 : Nat) := by rw [wrap_add32]; unfold add32; rw [Nat.add_comm]
              have hfin : u32C (mixedS ⟨t0, t1, t2, t3, t4, t5, t6, t7⟩ x).l = #[.int .u32 (add32 ta t0 : Nat), .int .u32 (add32 tb t1 : Nat), .int .u32 (add32 tc t2 : Nat), .int .u32 (add32 td t3 : Nat), .int .u32 (add32 te t4 : Nat), .int .u32 (add32 tf t5 : Nat), .int .u32 (add32 tg t6 : Nat), .int .u32 (add32 th t7 : Nat)] := by
                unfold mixedS
                rw [← ht]
                rfl
              have HF := Lib.hid hfin
              clear hfin ht g1 HS hS hX hK hs
              go_upto_region 27 with (fail)
              go_still_tail 40, (by kernel_rfl)
              change wpList _ _ _ _ _ wr.drew
              obtain ⟨w5, hw5⟩ : ∃ w5, w5 = wr.drew := ⟨_, rfl⟩
              replace gb : Below w.heap.size w w5 := by rw [hw5]; exact gb.drew
              rw [← hw5]
              clear hw5 f0 f1 f2 f3 f4 f5 f6 f7 A0 A1 A2 A3 A4 A5 A6 A7
              go_wp2_with fail
              go_ret
              exact ⟨w5.heap.size, rfl, by rw [HF.out]; exact heap_alloc_new _ _, gb.size, gb.alloc gb.size _⟩
end Go.Proofs.YtcdnbidenaljlaaDoor
