/- net: a frame is cut out. -/
import Derived.Test.YtfojlmnlolnilaaNetS
import Derived.Test.YtfojlmnlolnilaaCopy
import Derived.StillTailTactics
namespace Go.Proofs.Ytfojlmnlolnilaa
open Go.RowKit
attribute [local go_sem] Oper.semAt_some

theorem flC_get (fl : List Fl) (i : Nat) (hi : i < fl.length) (r : Nat) (hr : r < 4) : (flC fl)[i * 4 + r]? = (fl[i]).cs[r]? := by
  induction fl generalizing i with
  | nil => cases hi
  | cons y L ih =>
    have hc : flC (y :: L) = y.cs ++ flC L := by simp [flC]
    have hl : y.cs.length = 4 := rfl
    rw [hc]
    cases i with
    | zero => rw [Nat.zero_mul, Nat.zero_add, List.getElem?_append_left (by omega)]; rfl
    | succ i =>
      rw [List.getElem?_append_right (by omega), hl, show (i + 1) * 4 + r - 4 = i * 4 + r by omega]
      exact ih i (by simpa using hi)
theorem flC_take (fl : List Fl) (i : Nat) : flC (fl.take i) = (flC fl).take (i * 4) := by
  induction fl generalizing i with
  | nil => simp [flC]
  | cons y L ih =>
    have hc : flC (y :: L) = y.cs ++ flC L := by simp [flC]
    have hl : y.cs.length = 4 := rfl
    cases i with
    | zero => simp [flC]
    | succ i =>
      have hc2 : flC (y :: L.take i) = y.cs ++ flC (L.take i) := by simp [flC]
      rw [List.take_succ_cons, hc2, hc, ih, List.take_append, hl, List.take_of_length_le (show y.cs.length ≤ (i + 1) * 4 by omega), show (i + 1) * 4 - 4 = i * 4 by omega]
theorem flC_drop (fl : List Fl) (i : Nat) : flC (fl.drop i) = (flC fl).drop (i * 4) := by
  induction fl generalizing i with
  | nil => simp [flC]
  | cons y L ih =>
    have hc : flC (y :: L) = y.cs ++ flC L := by simp [flC]
    have hl : y.cs.length = 4 := rfl
    cases i with
    | zero => simp
    | succ i => rw [List.drop_succ_cons, hc, ih, List.drop_append, hl, List.drop_of_length_le (show y.cs.length ≤ (i + 1) * 4 by omega), List.nil_append, show (i + 1) * 4 - 4 = i * 4 by omega]
theorem flC_one (fl : List Fl) : ∀ u ∈ flC fl, u.oneCell' = true := by
  intro u hu
  simp only [flC, List.mem_flatten, List.mem_map] at hu
  obtain ⟨_, ⟨y, _, rfl⟩, hu⟩ := hu
  simp only [Fl.cs, List.mem_cons, List.not_mem_nil, or_false] at hu
  rcases hu with rfl | rfl | rfl | rfl <;> rfl
theorem splice2 {α : Type} (Z T D : List α) (h : Z.length = T.length + D.length) : splice (splice Z 0 T) T.length D = T ++ D := by
  have h1 : splice Z 0 T = T ++ Z.drop T.length := by simp [splice]
  have h2 : (T ++ Z.drop T.length).length = T.length + D.length := by rw [List.length_append, List.length_drop]; omega
  rw [h1, splice, List.take_left, List.drop_of_length_le (by omega), List.append_nil]
theorem flC_erase (fl : List Fl) (i : Nat) : flC (fl.eraseIdx i) = (flC fl).take (i * 4) ++ (flC fl).drop ((i + 1) * 4) := by
  rw [List.eraseIdx_eq_take_drop_succ, flC_append, flC_take, flC_drop]
theorem own_row {W : World} {B k n : Nat} {e : TypeId} {s : Nat} {xs : List Value} (hx : xs.length = n * s) (hB : B ≤ k) (hk : W.heap[k]? = some (.cells xs.toArray e (0, 0))) (hm : n ≤ maxLen) : W.ownsRow B e s (.slice (some ⟨k, 0, none⟩) n n) n xs :=
  ⟨hx, .inr ⟨k, n, _, rfl, hB, hk, Nat.le_refl _, hm, by simpa using hx, by rw [List.take_of_length_le (by simp [hx])]⟩⟩
section
variable {B g : Nat} {room : Int} {v : Value} {s d x : Int} {fl : List Fl} {W W' : World}
theorem NetAt.rowAt (h : NetAt B g room v s d x fl W) (h0 : 0 < fl.length) : ∃ rb c, v = .slice (some ⟨rb, 0, none⟩) fl.length c ∧ fl.length ≤ c ∧ c ≤ maxLen ∧ B ≤ rb ∧ rb < W.heap.size ∧ ∀ j u, (flC fl)[j]? = some u → W.cell? ⟨rb, j, none⟩ = some u := by
  rcases h.row.2 with ⟨rfl, h1⟩ | ⟨rb, cap, cur, rfl, hB, hg, hnc, hcm, hcs, ht⟩
  · omega
  · refine ⟨rb, cap, rfl, hnc, hcm, hB, lt_get hg, fun j u hj => ?_⟩
    have := h.row.cells (g := rb) rfl j u hj
    rwa [addr_add_plain, Nat.zero_add] at this
end
theorem mk74 (n : Nat) (h : n ≤ 10000) : ∃ O : Obj, O = .cells (madeCells (Value.agg #[.int .i64 0, .int .i64 0, .slice none 0 0, .bool false]).cells (n * 4)) 74 ∧ ∀ W : World, (Instr.makeSlice 67 (.int .i64 (n : Int)) (.int .i64 (n : Int))).run Try.prog W = .ok (.slice (some ⟨W.heap.size, 0, none⟩) n n) (W.alloc O) := by
  obtain ⟨i0, hi, hz0, hz1, hz2⟩ := info_parts elt74.hi
  refine ⟨_, rfl, fun W => ?_⟩
  have := run_make (P := Try.prog) W 67 74 i0 (.agg #[.int .i64 0, .int .i64 0, .slice none 0 0, .bool false]) Try.underlying67 hi hz0 .i64 .i64 n n (by omega) (Int.le_refl _) (by rw [hz2]; omega) (by omega)
  simp only [Int.toNat_natCast] at this
  rw [this, hz1]
set_option maxRecDepth 100000 in
set_option maxHeartbeats 4000000 in
theorem cut_any (B g : Nat) (room : Int) (v : Value) (s d x : Int) (fl : List Fl) (w : World) (hN : NetAt B g room v s d x fl w) (hBw : B ≤ w.heap.size) (hfl : fl.length ≤ 5000) (i : Nat) (hi : i < fl.length) :
    Calls Try.prog 35 #[.pointer (some ⟨g, 0, none⟩), .int .i64 (i : Int)] w fun e w' => e = .returned (.agg (fl[i]).cs.toArray) ∧ ∃ ad, NetAt B g room (.slice (some ad) (fl.length - 1) (fl.length - 1)) s d x (fl.eraseIdx i) w' ∧ Kept (fun k => k = g) w w' := by
  obtain ⟨rb, c, rfl, hnc, hcm, hBr, hrl, hrd⟩ := hN.rowAt (by omega)
  have hcmi : (c : Int) ≤ 9223372036854775807 := by unfold maxLen at hcm; omega
  have e0 := flC_get fl i hi 0 (by omega)
  have e1 := flC_get fl i hi 1 (by omega)
  have e2 := flC_get fl i hi 2 (by omega)
  have e3 := flC_get fl i hi 3 (by omega)
  have hgl := lt_get hN.c
  have hii : (i : Int) < (fl.length : Int) := by omega
  generalize hy : fl[i] = y at *
  obtain ⟨yf, yt, yA, yn, yc, yl, yb⟩ := y
  simp only [Fl.cs, List.getElem?_cons_zero, List.getElem?_cons_succ] at e0 e1 e2 e3
  rw [Nat.add_zero] at e0
  obtain ⟨w1, hw1⟩ : ∃ w1, w1 = w.alloc (.cells #[.int .i64 0, .int .i64 0, .slice none 0 0, .bool false] 74) := ⟨_, rfl⟩
  have hb1 : Below w.heap.size w w1 := by rw [hw1]; exact (Below.refl _ _).alloc (Nat.le_refl _) _
  have hc1 := (hN.below hb1).c.c1
  have carry : ∀ (p : Addr) u, w.cell? p = some u → w1.cell? p = some u := fun p u h => (hb1.cell (World.block_lt_of_cell? w p h)).trans h
  have q0 := carry _ _ (hrd _ _ e0)
  have q1 := carry _ _ (hrd _ _ e1)
  have q2 := carry _ _ (hrd _ _ e2)
  have q3 := carry _ _ (hrd _ _ e3)
  have H1 := Lib.hid hw1
  clear carry e0 e1 e2 e3
  go_enter Try.func35, Try.ntmps35
  go_upto_region 1 with fail
  rw [← hw1]
  clear hw1
  obtain ⟨w2, hw2⟩ : ∃ w2, w2 = w1.alloc (.cells #[.int .i64 yf, .int .i64 yt, .slice yA yn yc, .bool yb] 74) := ⟨_, rfl⟩
  have hb2 : Below w1.heap.size w1 w2 := by rw [hw2]; exact (Below.refl _ _).alloc (Nat.le_refl _) _
  have hb02 := below_then hb1 hb2 (Nat.le_refl _)
  have h5 : FlAt w1.heap.size yf yt (.slice yA yn yc) yb w2 := by rw [hw2]; exact heap_alloc_new _ _
  have hc2 := (hN.below hb02).c.c1
  obtain ⟨O, hO, mk⟩ := mk74 (fl.length - 1) (by omega)
  obtain ⟨Z, hZ, hOZ⟩ : ∃ Z : List Value, Z.length = (fl.length - 1) * 4 ∧ O = .cells Z.toArray 74 := ⟨(madeCells (Value.agg #[.int .i64 0, .int .i64 0, .slice none 0 0, .bool false]).cells ((fl.length - 1) * 4)).toList, by rw [Array.length_toList, size_madeCells], by rw [hO, Array.toArray_toList]⟩
  have HOZ := Lib.hid hOZ
  have HZ := Lib.hid hZ
  clear hO hOZ hZ
  have hnm : ((fl.length - 1 : Nat) : Int) = (fl.length : Int) - 1 := by omega
  rw [hnm] at mk
  go_upto_region 2 with fail
  rw [← hw2]
  clear hw2 q0 q1 q2 q3 hc1
  go_upto_region 3 with fail
  obtain ⟨w3, hw3⟩ : ∃ w3, w3 = w2.alloc O := ⟨_, rfl⟩
  rw [← hw3]
  have hb3 : Below w2.heap.size w2 w3 := by rw [hw3]; exact (Below.refl _ _).alloc (Nat.le_refl _) _
  have hr3 : w3.heap[w2.heap.size]? = some (.cells Z.toArray 74 (0, 0)) := by rw [hw3, HOZ.out]; exact heap_alloc_new _ _
  have hz3 : w3.heap.size = w2.heap.size + 1 := by rw [hw3, World.size_alloc]
  have hb03 := below_then hb02 hb3 (Nat.le_refl _)
  have hN3 := hN.below hb03
  have h53 := h5.below hb3
  have hc3 := hN3.c.c1
  have HR3 := Lib.hid hr3
  clear hw3 hr3 hc2 mk hnm
  have hi2 : i ≤ fl.length - 1 := by omega
  have ht1 : ((flC fl).take (i * 4)).length = i * 4 := by rw [List.length_take, flC_length]; omega
  have HT1 := Lib.hid ht1
  clear ht1
  go_wp2_with (first
    | (with_reducible refine wpList_copy_sz rfl (.tmp 21) (.tmp 28) 67 67 rfl 74 i 4 Try.underlying67 (by kernel_rfl) (some ⟨w2.heap.size, 0, none⟩) (some ⟨rb, 0, none⟩) (fl.length - 1) (fl.length - 1) i i rfl rfl w2.heap.size 0 Z 74 HR3.out ((flC fl).take (i * 4)) (Nat.min_eq_left hi2) HT1.out (fun _ => ⟨rfl, _, rfl, fun j u hj => ?_⟩) (by rw [HT1.out, HZ.out]; omega) (fun u hu => flC_one fl u (List.mem_of_mem_take hu)) w2.heap.size w2 hb3 (Nat.le_refl _) ?_)
    | fail)
  case refine_1 =>
    have hj2 : (flC fl)[j]? = some u := by
      rw [List.getElem?_take] at hj
      split at hj
      · exact hj
      · cases hj
    have h1 := hrd j u hj2
    rw [addr_add_plain, Nat.zero_add]
    exact (hb03.cell (World.block_lt_of_cell? w _ h1)).trans h1
  case refine_2 =>
    intro w4 hr4 hb4 hoth4 hsz4
    have hb04 := below_then hb02 hb4 (Nat.le_refl _)
    have hN4 := hN.below hb04
    have h54 := h5.below hb4
    have hc4 := hN4.c.c1
    have s1 : ∀ W : World, (Instr.slice 67 (.slice (some ⟨w2.heap.size, 0, none⟩) (fl.length - 1) (fl.length - 1)) (some (.int .i64 (i : Int))) none none).run Try.prog W = .ok (.slice (subA (some ⟨w2.heap.size, 0, none⟩) (fl.length - 1) i 4) (fl.length - 1 - i) (fl.length - 1 - i)) W := fun W => run_sub_l (P := Try.prog) W 67 _ _ _ 4 Try.underlying67 (by exact Try.sizeOf74 W) _ i rfl (by omega)
    have s2 : ∀ W : World, (Instr.slice 67 (.slice (some ⟨rb, 0, none⟩) fl.length c) (some (.int .i64 ((i : Int) + 1))) none none).run Try.prog W = .ok (.slice (subA (some ⟨rb, 0, none⟩) c (i + 1) 4) (fl.length - (i + 1)) (c - (i + 1))) W := fun W => run_sub_l (P := Try.prog) W 67 _ _ _ 4 Try.underlying67 (by exact Try.sizeOf74 W) _ (i + 1) (by omega) (by omega)
    have hwr : IntKind.i64.wrap ((i : Int) + 1) = (i : Int) + 1 := IntWalk.i64_in _ (by omega)
    have HR4 := Lib.hid hr4
    have HO4 := Lib.hid hoth4
    clear hr4 hoth4 hc3
    go_wp2_with fail
    go_still_tail 10, (by kernel_rfl)
    change wpList _ _ _ _ _ w4.drew
    have ht2 : ((flC fl).drop ((i + 1) * 4)).length = (fl.length - (i + 1)) * 4 := by rw [List.length_drop, flC_length]; omega
    have HT2 := Lib.hid ht2
    have hz1 : (splice Z 0 ((flC fl).take (i * 4))).length = (fl.length - 1) * 4 := by rw [length_splice _ _ _ (by rw [HT1.out, HZ.out]; omega), HZ.out]
    have HZ1 := Lib.hid hz1
    clear ht2 hz1
    have hmin : Nat.min (fl.length - (i + 1)) (fl.length - 1 - i) = fl.length - (i + 1) := Nat.min_eq_left (by omega)
    refine wpList_copy_sz rfl (.tmp 32) (.tmp 39) 67 67 rfl 74 (fl.length - (i + 1)) 4 Try.underlying67 (by kernel_rfl) _ _ _ _ _ _ rfl rfl w2.heap.size (i * 4) (splice Z 0 ((flC fl).take (i * 4))) 74 HR4.out ((flC fl).drop ((i + 1) * 4)) hmin HT2.out (fun hk => ?_) (by rw [HT2.out, HZ1.out]; omega) (fun u hu => flC_one fl u (List.mem_of_mem_drop hu)) w2.heap.size w2 hb4.drew (Nat.le_refl _) ?_
    · refine ⟨?_, ⟨rb, (i + 1) * 4, none⟩, ?_, fun j u hj => ?_⟩
      · unfold subA
        rw [if_neg (by omega)]
        simp [Addr.add]
        omega
      · unfold subA
        rw [if_neg (by omega)]
        simp [Addr.add]
      · rw [List.getElem?_drop] at hj
        have h1 := hrd _ u hj
        rw [addr_add_plain]
        exact (hb04.cell (World.block_lt_of_cell? w _ h1)).trans h1
    intro w5 hr5 hb5 hoth5 hsz5
    have hb05 := below_then hb02 hb5 (Nat.le_refl _)
    have hN5 := hN.below hb05
    have h55 := h5.below hb5
    have hc5 := hN5.c.c1
    have fg5 := hN5.c.fr 1
    have hz5 : w2.heap.size + 1 ≤ w5.heap.size := lt_get hr5
    have HR5 := Lib.hid hr5
    clear hr5 HR4 HO4 HR3 s1 s2 hc4
    go_upto_region 6 with fail
    have h05 : FlAt w.heap.size 0 0 (.slice none 0 0) false w1 := by rw [H1.out]; exact heap_alloc_new _ _
    have hs2 := lt_get h05
    have hk6 : Kept (fun k => k = g) w (w5.setCell ⟨g, 1, none⟩ (.slice (some ⟨w2.heap.size, 0, none⟩) (fl.length - 1) (fl.length - 1))) := (Kept.of_below hb05).set (.inl rfl)
    have hoth6 : ∀ k, k ≠ g → (w5.setCell ⟨g, 1, none⟩ (.slice (some ⟨w2.heap.size, 0, none⟩) (fl.length - 1) (fl.length - 1))).heap[k]? = w5.heap[k]? := fun k hk => heap_setCell_other _ _ _ _ hk
    have hc6 := hN5.c.set1 (.slice (some ⟨w2.heap.size, 0, none⟩) (fl.length - 1) (fl.length - 1))
    generalize w5.setCell ⟨g, 1, none⟩ (.slice (some ⟨w2.heap.size, 0, none⟩) (fl.length - 1) (fl.length - 1)) = w6 at *
    have h56 : FlAt w1.heap.size yf yt (.slice yA yn yc) yb w6 := (hoth6 _ (by omega)).trans h55
    have h06 : FlAt w.heap.size 0 0 (.slice none 0 0) false w6 := (hoth6 _ (by omega)).trans ((below_then hb2 hb5 (Nat.le_refl _)).block _ (lt_get h05) |>.trans h05)
    have a0 := h56.c0
    have a1 := h56.c1
    have a2 := h56.c2
    have a3 := h56.c3
    have b0 := h06.c0
    have b1 := h06.c1
    have b2 := h06.c2
    have b3 := h06.c3
    have fb0 := h06.fr 0
    have fb1 := h06.fr 1
    have fb2 := h06.fr 2
    have fb3 := h06.fr 3
    go_wp2_with fail
    have hoth7 : ∀ k, k ≠ w.heap.size → ((((w6.setCell ⟨w.heap.size, 0, none⟩ (.int .i64 yf)).setCell ⟨w.heap.size, 1, none⟩ (.int .i64 yt)).setCell ⟨w.heap.size, 2, none⟩ (.slice yA yn yc)).setCell ⟨w.heap.size, 3, none⟩ (.bool yb)).heap[k]? = w6.heap[k]? := fun k hk => by
      rw [heap_setCell_other _ _ _ _ hk, heap_setCell_other _ _ _ _ hk, heap_setCell_other _ _ _ _ hk, heap_setCell_other _ _ _ _ hk]
    refine bodyPost_ret (v := .agg #[.int .i64 yf, .int .i64 yt, .slice yA yn yc, .bool yb]) (by simp [results, Try.results35, go_sem, a0, a1, a2, a3, b0, b1, b2, b3]) rfl ?_
    refine ⟨rfl, ⟨w2.heap.size, 0, none⟩, ⟨(hoth7 g (by omega)).trans hc6, ?_, fun z hz => ?_, hN.apart.sublist (List.eraseIdx_sublist _ _), hN.hB⟩, (((hk6.set (.inr (Nat.le_refl _))).set (.inr (Nat.le_refl _))).set (.inr (Nat.le_refl _))).set (.inr (Nat.le_refl _))⟩
    · have hsp := splice2 Z ((flC fl).take (i * 4)) ((flC fl).drop ((i + 1) * 4)) (by rw [HZ.out, HT1.out, HT2.out]; omega)
      rw [HT1.out] at hsp
      have hr := HR5.out
      rw [hsp, ← flC_erase] at hr
      rw [List.length_eraseIdx_of_lt hi]
      have := hb1.size
      have := hb2.size
      refine own_row (by rw [flC_length, List.length_eraseIdx_of_lt hi]) (by omega) ?_ (by unfold maxLen; omega)
      rw [hoth7 _ (by omega), hoth6 _ (by omega)]
      exact hr
    · have hz2 := (List.eraseIdx_sublist fl i).subset hz
      refine ⟨(hN5.raw z hz2).1, own_of_block (hN5.raw z hz2).2 fun k hk => ?_⟩
      have h1 := ((hN.raw z hz2).2.lt k hk).2
      rw [hoth7 k (by omega), hoth6 k (fun e => hN5.rawNe z hz2 (by rw [hk, e]))]
end Go.Proofs.Ytfojlmnlolnilaa
