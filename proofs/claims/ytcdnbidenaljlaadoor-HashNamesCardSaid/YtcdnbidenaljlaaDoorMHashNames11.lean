/- SHA-256: a block's words, handed out one by one. -/
import Derived.Test.YtcdnbidenaljlaaDoorMHashNames4
import Derived.Test.YtcdnbidenaljlaaDoorMHashNames10
import Derived.Test.YtcdnbidenaljlaaDoorMHashNames6
import Derived.RegionTactic
import Derived.ChangeAlike
import Derived.StillTailTactics
import Derived.Deep.DeepCutAuto
namespace Go.Proofs.YtcdnbidenaljlaaDoor
open Go.RowKit Go.Shelf
attribute [local go_sem] Oper.semAt_some

/-- Words as cells. -/
def u32C (l : List Nat) : Array Value := (l.map fun (n : Nat) => Value.int .u32 (n : Int)).toArray
theorem u32C_size (l : List Nat) : (u32C l).size = l.length := by simp [u32C]
theorem u32C_get (l : List Nat) (j : Nat) (h : j < l.length) : (u32C l)[j]? = some (.int .u32 (l.getD j 0 : Nat)) := by
  simp [u32C, h]
theorem u32C_one (l : List Nat) : ∀ u ∈ (u32C l).toList, u.oneCell' = true := by
  intro u hu
  simp only [u32C] at hu
  obtain ⟨_, _, rfl⟩ := List.mem_map.1 hu
  rfl
theorem u32C_set (l : List Nat) (k n : Nat) : u32C (l.set k n) = (u32C l).setIfInBounds k (.int .u32 (n : Int)) := by
  simp [u32C, List.map_set]
/-- The iterator's row behind k words. -/
def schL (x : List UInt8) (k : Nat) : List Nat := sched x k ++ List.replicate (64 - k) 0
theorem schL_length (x : List UInt8) (k : Nat) (h : k ≤ 64) : (schL x k).length = 64 := by simp [schL, sched_length]; omega
theorem schL_set (x : List UInt8) (k : Nat) (h : k < 64) : (schL x k).set k (wrd x (sched x k) k) = schL x (k + 1) := by
  unfold schL
  rw [List.set_append_right _ _ (by rw [sched_length]; omega), sched_length, Nat.sub_self, show 64 - k = (64 - (k + 1)) + 1 by omega, List.replicate_succ, List.set_cons_zero]
  show _ = (sched x k ++ [_]) ++ _
  rw [List.append_assoc]
  rfl
theorem schL_get (x : List UInt8) (k j : Nat) (h : j < k) : (schL x k).getD j 0 = wrd x (sched x j) j := by
  unfold schL
  rw [List.getD_eq_getElem?_getD, List.getElem?_append_left (by rw [sched_length]; omega), ← List.getD_eq_getElem?_getD, sched_get _ _ _ h]
/-- What it hands out. -/
def schP (x : List UInt8) : List (Nat × Nat) := (List.range 64).map fun i => (i, wrd x (sched x i) i)
def encW (z : Nat × Nat) : Array Value := #[.int .i64 (z.1 : Int), .int .u32 (z.2 : Int)]
theorem schP_at {x : List UInt8} {pre r : List (Nat × Nat)} {z : Nat × Nat} (h : schP x = pre ++ z :: r) : pre.length < 64 ∧ z = (pre.length, wrd x (sched x pre.length) pre.length) := by
  have hl : (schP x).length = 64 := by simp [schP]
  have hlt : pre.length < 64 := by rw [← hl, h]; simp
  refine ⟨hlt, ?_⟩
  have h1 : (schP x)[pre.length]? = some z := by rw [h]; simp
  unfold schP at h1
  rw [List.getElem?_map, List.getElem?_range hlt] at h1
  simpa using h1.symm
theorem schP_end {x : List UInt8} {pre : List (Nat × Nat)} (h : schP x = pre ++ []) : pre.length = 64 := by
  have hl : (schP x).length = 64 := by simp [schP]
  rw [h, List.append_nil] at hl
  exact hl
def blkC (x : List UInt8) : Array Value := (u8v x).toArray
def SprSt (bx b : Nat) (x : List UInt8) (k : Nat) (W : World) : Prop := W.heap[bx]? = some (.cells (blkC x) 58 (0, 0)) ∧ W.heap[b]? = some (.cells (u32C (schL x k)) 84 (0, 0)) ∧ bx ≠ b
def SprCh (b : Nat) (A A' : World) : Prop := A.grownBy A' (some b) ∧ ∀ o, A.heap[b]? = some o → o.isCells = false → A'.heap[b]? = some o
theorem SprCh.of_below {b : Nat} {A A' : World} (h : Below A.heap.size A A') : SprCh b A A' := ⟨grownBy_of_below h _, fun o ho _ => (h.block b (Array.getElem?_eq_some_iff.1 ho).1).trans ho⟩
theorem zero_w : (Tryd.prog.info? 84).bind (fun i => i.zero.map Value.cells) = some (u32C (List.replicate 64 0)) := by kernel_rfl
theorem spread_any (x : List UInt8) (w : World) : Calls Tryd.prog 42 #[.agg (blkC x)] w fun e w' => e = .returned (.func (.func 55) #[] #[.pointer (some ⟨w.heap.size, 0, none⟩)]) ∧ w' = w.alloc (.cells (blkC x) 58) := by
  go_enter Tryd.func42, Tryd.ntmps42
  go_wp2
  go_ret
  exact ⟨rfl, rfl⟩
theorem spr_step {bx b k : Nat} {x : List UInt8} {w : World} (hk : k < 64) (h1 : w.heap[bx]? = some (.cells (blkC x) 58 (0, 0))) (h2 : w.heap[b]? = some (.cells (u32C (schL x k)) 84 (0, 0))) (hne : bx ≠ b) :
    SprSt bx b x (k + 1) ((w.setCell ⟨b, k, none⟩ (.int .u32 (wrd x (sched x k) k : Nat))).drew) ∧ SprCh b w ((w.setCell ⟨b, k, none⟩ (.int .u32 (wrd x (sched x k) k : Nat))).drew) := by
  have hg : w.grownBy ((w.setCell ⟨b, k, none⟩ (.int .u32 (wrd x (sched x k) k : Nat))).drew) (some b) := ⟨rfl, rfl, rfl, by simp [World.drew], fun j _ hj => heap_setCell_other _ _ _ _ (fun e => hj (by rw [e]))⟩
  refine ⟨⟨?_, ?_, hne⟩, hg, fun o ho hc => by rw [h2] at ho; cases ho; cases hc⟩
  · have := hg.block bx (lt_of_get h1) (fun e => hne (Option.some.inj e))
    rw [this]; exact h1
  · show (w.setCell ⟨b, k, none⟩ (.int .u32 (wrd x (sched x k) k : Nat))).heap[b]? = _
    rw [heap_setCell_same _ _ _ _ _ _ h2, ← u32C_set, schL_set x k hk]
theorem low_bits (a : Nat) (h : a < 4294967296) : bits .xor .u32 (bits .xor .u32 (rr a 7 : Nat) (rr a 18 : Nat)) ((a : Int) / 8) = (low0 a : Nat) := by
  have h1 := u32_xor_nat _ _ (rr_lt a 7 h) (rr_lt a 18 h)
  have h2 := u32_xor_nat _ _ (xor_lt (rr_lt a 7 h) (rr_lt a 18 h)) (Nat.lt_of_le_of_lt (Nat.div_le_self a 8) h)
  rw [h1]
  exact h2
theorem high_bits (a : Nat) (h : a < 4294967296) : bits .xor .u32 (bits .xor .u32 (rr a 17 : Nat) (rr a 19 : Nat)) ((a : Int) / 1024) = (high0 a : Nat) := by
  have h1 := u32_xor_nat _ _ (rr_lt a 17 h) (rr_lt a 19 h)
  have h2 := u32_xor_nat _ _ (xor_lt (rr_lt a 17 h) (rr_lt a 19 h)) (Nat.lt_of_le_of_lt (Nat.div_le_self a 1024) h)
  rw [h1]
  exact h2
theorem add_fold (a b c d : Nat) : ((a : Int) + (b : Int) + (c : Int) + (d : Int)) % 4294967296 = (add32 (add32 (add32 a b) c) d : Nat) := by
  unfold add32
  omega
theorem noGoto_n {Q : Exit → Act → World → Prop} {a : Act} {w : World} (h : Q .normal a w) : Exit.noGoto Q .normal a w := h
theorem or_be (x0 x1 x2 x3 : UInt8) : bits .or .u32 (bits .or .u32 (bits .or .u32 ((x0.toNat : Int) * 16777216) ((x1.toNat : Int) * 65536)) ((x2.toNat : Int) * 256)) (x3.toNat : Int) = ((x0.toNat * 16777216 + x1.toNat * 65536 + x2.toNat * 256 + x3.toNat : Nat) : Int) := by
  have y0 := x0.toNat_lt
  have y1 := x1.toNat_lt
  have y2 := x2.toNat_lt
  have y3 := x3.toNat_lt
  have o1 := u32_or_nat (x0.toNat * 16777216) (x1.toNat * 65536) (by omega) (by omega)
  rw [nat_join 24 _ _ (by omega) (by omega)] at o1
  have o2 := u32_or_nat (x0.toNat * 16777216 + x1.toNat * 65536) (x2.toNat * 256) (by omega) (by omega)
  rw [nat_join 16 _ _ (by omega) (by omega)] at o2
  have o3 := u32_or_nat (x0.toNat * 16777216 + x1.toNat * 65536 + x2.toNat * 256) x3.toNat (by omega) (by omega)
  rw [nat_join 8 _ _ (by omega) (by omega)] at o3
  rw [Int.natCast_mul, Int.natCast_mul] at o1
  rw [Int.natCast_mul] at o2
  refine Eq.trans ?_ o3
  rw [← o2, ← o1]
  rfl
set_option maxRecDepth 100000 in
set_option maxHeartbeats 1000000 in
theorem spread_hands (n : Nat) (hn : 1 ≤ n) (bx : Nat) (x : List UInt8) (hx : x.length = 64) (W : World) (hS : W.heap[bx]? = some (.cells (blkC x) 58 (0, 0))) :
    HandsSome Fence.wide n Tryd.prog 55 #[.pointer (some ⟨bx, 0, none⟩)] encW (schP x) (SprSt bx W.heap.size x) (SprCh W.heap.size) W := by
  intro L J Jx hJ hY h0
  obtain ⟨Z, hZ0, hZ⟩ : ∃ Z : Array Value, (Tryd.prog.info? 84).bind (fun i => i.zero.map Value.cells) = some Z ∧ Hid (Z = u32C (schL x 0)) := ⟨_, zero_w, rfl⟩
  refine callsIn_of_wp Tryd.func55 rfl trivial ?_ rfl
  simp only [Tryd.ntmps55, List.size_toArray, List.length_cons, List.length_nil, Nat.reduceAdd, Nat.reduceSub, Array.replicate_succ, Array.replicate_zero, List.push_toArray, List.append_toArray, List.nil_append, List.cons_append]
  refine wpIn_wide.2 (wp_scope_straight ?_)
  go_wp2_with (first
    | (with_reducible refine wpList_alloc_z rfl 84 rfl Z hZ0 ?_)
    | fail)
  obtain ⟨w0, hw0⟩ : ∃ w0, w0 = W.alloc (.cells Z 84) := ⟨_, rfl⟩
  have hb0 : Below W.heap.size W w0 := by rw [hw0]; exact (Below.refl _ _).alloc (Nat.le_refl _) _
  have hg0 : w0.heap[W.heap.size]? = some (.cells (u32C (schL x 0)) 84 (0, 0)) := by rw [hw0, ← hZ.out]; exact heap_alloc_new _ _
  have hJ0 : J [] w0 := hJ _ _ _ h0 (SprCh.of_below hb0)
  have hx0 := (hb0.block _ (lt_of_get hS)).trans hS
  have hne : bx ≠ W.heap.size := by have := lt_of_get hS; omega
  rw [← hw0]
  clear hw0 hb0 hZ0 hZ h0 hS
  refine wp_label ?_
  go_wp2_with fail
  go_loopw [9] (fun i wr => ∃ pre rest, schP x = pre ++ rest ∧ i = .int .i64 (pre.length : Int) ∧ J pre wr ∧ SprSt bx W.heap.size x pre.length wr) (fun i _ => 64 - (intOf i).toNat)
  case atStart => exact ⟨[], schP x, rfl, rfl, hJ0, hx0, hg0, hne⟩
  case round =>
    obtain ⟨pre, rest, hl, rfl, hJs, hxr, hgr, hne'⟩ := hrel
    clear hx0 hg0 hJ0
    cases rest with
    | nil =>
      have hle := schP_end hl
      have hlti : ¬ (pre.length : Int) < 64 := by omega
      go_wp2_with fail
      go_end0
      exact ⟨⟨_, rfl⟩, .inl ⟨hJs, hxr, by rw [hle] at hgr; exact hgr, hne'⟩⟩
    | cons z r =>
      obtain ⟨hi, hz⟩ := schP_at hl
      subst hz
      have hlti : (pre.length : Int) < 64 := by omega
      obtain ⟨k, hk⟩ : ∃ k, k = pre.length := ⟨_, rfl⟩
      rw [← hk] at hgr hi hlti hl ⊢
      have HL := Lib.hid hl
      have HK := Lib.hid hk
      clear hk hl
      have hlen : (schL x k).length = 64 := schL_length x k (by omega)
      have hfro : wr.frozen? ⟨W.heap.size, k, none⟩ = false := frozen_of_row wr _ k _ _ hgr
      have hcell : wr.cell? ⟨W.heap.size, k, none⟩ = some (.int .u32 ((schL x k).getD k 0 : Nat)) := by
        rw [cell_of_row _ _ _ _ _ _ hgr]
        exact u32C_get _ _ (by omega)
      by_cases h16 : k < 16
      · have bl (j : Nat) (hj : j < 64) : wr.cell? ⟨bx, j, none⟩ = some (.int .u8 ((x.getD j 0).toNat : Int)) := by
          rw [cell_of_row _ _ _ _ _ _ hxr]
          simp [blkC, u8v, hx, hj]
        have b0 := bl (4 * k) (by omega)
        have b1 := bl (4 * k + 1) (by omega)
        have b2 := bl (4 * k + 2) (by omega)
        have b3 := bl (4 * k + 3) (by omega)
        generalize q0 : x.getD (4 * k) 0 = x0 at b0
        generalize q1 : x.getD (4 * k + 1) 0 = x1 at b1
        generalize q2 : x.getD (4 * k + 2) 0 = x2 at b2
        generalize q3 : x.getD (4 * k + 3) 0 = x3 at b3
        have y0 := x0.toNat_lt
        have y1 := x1.toNat_lt
        have y2 := x2.toNat_lt
        have y3 := x3.toNat_lt
        have p0 : IntKind.i64.wrap (4 * (k : Int)) = 4 * (k : Int) := IntWalk.i64_in _ (by omega)
        have p1 : IntKind.i64.wrap (4 * (k : Int) + 1) = 4 * (k : Int) + 1 := IntWalk.i64_in _ (by omega)
        have p2 : IntKind.i64.wrap (4 * (k : Int) + 2) = 4 * (k : Int) + 2 := IntWalk.i64_in _ (by omega)
        have p3 : IntKind.i64.wrap (4 * (k : Int) + 3) = 4 * (k : Int) + 3 := IntWalk.i64_in _ (by omega)
        have Q0 := Lib.hid q0
        have Q1 := Lib.hid q1
        have Q2 := Lib.hid q2
        have Q3 := Lib.hid q3
        clear bl q0 q1 q2 q3
        go_wp2_with fail
        go_region
        rw [or_be]
        have hwv : beW x k = x0.toNat * 16777216 + x1.toNat * 65536 + x2.toNat * 256 + x3.toNat := by
          unfold beW
          rw [Q0.out, Q1.out, Q2.out, Q3.out]
        rw [← hwv]
        clear hwv Q0 Q1 Q2 Q3 y0 y1 y2 y3 b0 b1 b2 b3
        have hwv : wrd x (sched x k) k = beW x k := by rw [wrd, if_pos h16]
        rw [← hwv]
        clear hwv
        go_upto_region 10 with (fail)
        obtain ⟨hst1, hgr1⟩ := spr_step hi hxr hgr hne'
        obtain ⟨w1, hw1⟩ : ∃ w1, w1 = (wr.setCell ⟨W.heap.size, k, none⟩ (.int .u32 (wrd x (sched x k) k : Nat))).drew := ⟨_, rfl⟩
        have hst2 : SprSt bx W.heap.size x (k + 1) w1 := by rw [hw1]; exact hst1
        have hJ2 : J pre w1 := hJ _ _ _ hJs (by rw [hw1]; exact hgr1)
        rw [← hw1]
        clear hw1 hst1 hgr1 hxr hgr hJs hcell hfro
        have hYy := hY pre _ r w1 HL.out hJ2 (by rw [← HK.out]; exact hst2)
        have cw : w1.cell? ⟨W.heap.size, k, none⟩ = some (.int .u32 (wrd x (sched x k) k : Nat)) := by
          rw [cell_of_row _ _ _ _ _ _ hst2.2.1, u32C_get _ _ (by rw [schL_length _ _ (by omega)]; omega), schL_get _ _ _ (by omega)]
        generalize wrd x (sched x k) k = wv at *
        obtain ⟨fn, tmps, assign, body, hy, hR⟩ := hYy
        unfold encW at hy
        refine (wpIn_wide (n := n)).1 ?_
        clear hst2 hY hJ hJ2
        gi_wp2_with fail
        refine hR.mono ?_
        rintro e W3 (⟨rfl, hJ3, hS3⟩ | ⟨rfl, hJ3⟩)
        · gi_wp2_with fail
          go_wp2_with fail
          exact ⟨⟨pre ++ [(k, wv)], r, by rw [HL.out, List.append_assoc]; rfl, by rw [List.length_append, ← HK.out]; rfl, hJ3, by rw [List.length_append]; exact hS3⟩, by simp [intOf]; omega⟩
        · gi_wp2_with fail
          go_wp2_with fail
          refine noGoto_n ?_
          go_end0
          exact ⟨⟨_, rfl⟩, .inr ⟨pre ++ [(k, wv)], ⟨r, by rw [HL.out, List.append_assoc]; rfl⟩, hJ3⟩⟩
      · have h16' : 16 ≤ k := by omega
        have bl (j : Nat) (hj : j < k) : wr.cell? ⟨W.heap.size, j, none⟩ = some (.int .u32 (wrd x (sched x j) j : Nat)) := by
          rw [cell_of_row _ _ _ _ _ _ hgr, u32C_get _ _ (by omega), schL_get _ _ _ hj]
        obtain ⟨j0, e0⟩ : ∃ j, j = k - 16 := ⟨_, rfl⟩
        obtain ⟨j1, e1⟩ : ∃ j, j = k - 15 := ⟨_, rfl⟩
        obtain ⟨j9, e9⟩ : ∃ j, j = k - 7 := ⟨_, rfl⟩
        obtain ⟨jd, ed⟩ : ∃ j, j = k - 2 := ⟨_, rfl⟩
        have hnx : wrd x (sched x k) k = add32 (add32 (add32 (wrd x (sched x j0) j0) (low0 (wrd x (sched x j1) j1))) (wrd x (sched x j9) j9)) (high0 (wrd x (sched x jd) jd)) := by
          rw [wrd, if_neg (by omega)]
          unfold nxt
          rw [← e0, ← e1, ← e9, ← ed, sched_get _ _ _ (by omega), sched_get _ _ _ (by omega), sched_get _ _ _ (by omega), sched_get _ _ _ (by omega)]
        have b0 := bl j0 (by omega)
        have b1 := bl j1 (by omega)
        have b9 := bl j9 (by omega)
        have b14 := bl jd (by omega)
        have L1 := Lib.hid (wrd_lt x (sched x j1) j1)
        have L14 := Lib.hid (wrd_lt x (sched x jd) jd)
        generalize wrd x (sched x j0) j0 = z0 at *
        generalize wrd x (sched x j1) j1 = z1 at *
        generalize wrd x (sched x j9) j9 = z9 at *
        generalize wrd x (sched x jd) jd = z14 at *
        have HN := Lib.hid hnx
        have p0 : IntKind.i64.wrap ((k : Int) - 16) = (j0 : Int) := by rw [show (k : Int) - 16 = j0 by omega]; exact IntWalk.i64_in _ (by omega)
        have p1 : IntKind.i64.wrap ((k : Int) - 15) = (j1 : Int) := by rw [show (k : Int) - 15 = j1 by omega]; exact IntWalk.i64_in _ (by omega)
        have p9 : IntKind.i64.wrap ((k : Int) - 7) = (j9 : Int) := by rw [show (k : Int) - 7 = j9 by omega]; exact IntWalk.i64_in _ (by omega)
        have p14 : IntKind.i64.wrap ((k : Int) - 2) = (jd : Int) := by rw [show (k : Int) - 2 = jd by omega]; exact IntWalk.i64_in _ (by omega)
        have i0 : j0 < 64 := by omega
        have i1 : j1 < 64 := by omega
        have i9 : j9 < 64 := by omega
        have id : jd < 64 := by omega
        clear bl hnx e0 e1 e9 ed
        go_wp2_with fail
        go_quiet (fail)
        go_wp2_with fail
        ((with_reducible refine (rotl_any z1 7 (-7) rfl L1.out (by omega) (by omega) _).mono ?_))
        rintro e w' ⟨rfl, rfl⟩
        go_wp2_with fail
        ((with_reducible refine (rotl_any z1 18 (-18) rfl L1.out (by omega) (by omega) _).mono ?_))
        rintro e w' ⟨rfl, rfl⟩
        go_wp2_with fail
        ((with_reducible refine (rotl_any z14 17 (-17) rfl L14.out (by omega) (by omega) _).mono ?_))
        rintro e w' ⟨rfl, rfl⟩
        go_wp2_with fail
        ((with_reducible refine (rotl_any z14 19 (-19) rfl L14.out (by omega) (by omega) _).mono ?_))
        rintro e w' ⟨rfl, rfl⟩
        go_wp2_with fail
        rw [low_bits _ L1.out, high_bits _ L14.out]
        have hJ1 : J pre (wr.drewN nq) := hJ _ _ _ hJs (SprCh.of_below (below_drewN (Below.refl _ _) _))
        obtain ⟨w2, hw2⟩ : ∃ w2, w2 = wr.drewN nq := ⟨_, rfl⟩
        replace hxr : w2.heap[bx]? = some (.cells (blkC x) 58 (0, 0)) := by rw [hw2]; exact hxr
        replace hgr : w2.heap[W.heap.size]? = some (.cells (u32C (schL x k)) 84 (0, 0)) := by rw [hw2]; exact hgr
        replace hfro : w2.frozen? ⟨W.heap.size, k, none⟩ = false := by rw [hw2]; exact hfro
        replace hcell : w2.cell? ⟨W.heap.size, k, none⟩ = some (.int .u32 ((schL x k).getD k 0 : Nat)) := by rw [hw2]; exact hcell
        replace b0 : w2.cell? ⟨W.heap.size, j0, none⟩ = some (.int .u32 (z0 : Int)) := by rw [hw2]; exact b0
        replace b9 : w2.cell? ⟨W.heap.size, j9, none⟩ = some (.int .u32 (z9 : Int)) := by rw [hw2]; exact b9
        rw [← hw2] at hJ1 ⊢
        clear hw2 hJs b1 b14
        go_region
        rw [add_fold, ← HN.out]
        clear b0 b9
        go_upto_region 10 with (fail)
        obtain ⟨hst1, hgr1⟩ := spr_step hi hxr hgr hne'
        obtain ⟨w1, hw1⟩ : ∃ w1, w1 = (w2.setCell ⟨W.heap.size, k, none⟩ (.int .u32 (wrd x (sched x k) k : Nat))).drew := ⟨_, rfl⟩
        have hst2 : SprSt bx W.heap.size x (k + 1) w1 := by rw [hw1]; exact hst1
        have hJ2 : J pre w1 := hJ _ _ _ hJ1 (by rw [hw1]; exact hgr1)
        rw [← hw1]
        clear hw1 hst1 hgr1 hxr hgr hJ1 hcell hfro
        have hYy := hY pre _ r w1 HL.out hJ2 (by rw [← HK.out]; exact hst2)
        have cw : w1.cell? ⟨W.heap.size, k, none⟩ = some (.int .u32 (wrd x (sched x k) k : Nat)) := by
          rw [cell_of_row _ _ _ _ _ _ hst2.2.1, u32C_get _ _ (by rw [schL_length _ _ (by omega)]; omega), schL_get _ _ _ (by omega)]
        generalize wrd x (sched x k) k = wv at *
        obtain ⟨fn, tmps, assign, body, hy, hR⟩ := hYy
        unfold encW at hy
        refine (wpIn_wide (n := n)).1 ?_
        clear hst2 hY hJ hJ2
        gi_wp2_with fail
        refine hR.mono ?_
        rintro e W3 (⟨rfl, hJ3, hS3⟩ | ⟨rfl, hJ3⟩)
        · gi_wp2_with fail
          go_wp2_with fail
          exact ⟨⟨pre ++ [(k, wv)], r, by rw [HL.out, List.append_assoc]; rfl, by rw [List.length_append, ← HK.out]; rfl, hJ3, by rw [List.length_append]; exact hS3⟩, by simp [intOf]; omega⟩
        · gi_wp2_with fail
          go_wp2_with fail
          refine noGoto_n ?_
          go_end0
          exact ⟨⟨_, rfl⟩, .inr ⟨pre ++ [(k, wv)], ⟨r, by rw [HL.out, List.append_assoc]; rfl⟩, hJ3⟩⟩
end Go.Proofs.YtcdnbidenaljlaaDoor
