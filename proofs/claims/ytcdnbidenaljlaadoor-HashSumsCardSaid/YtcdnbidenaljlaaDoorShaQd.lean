/- The law HashSums, walked. -/
import Derived.Test.YtcdnbidenaljlaaDoorShaGd
import Derived.LaidEqlPtr
namespace Go.Proofs.YtcdnbidenaljlaaDoor
open Go.RowKit

theorem run_neq_ptr_same {P : Program} (w : World) {tp te : TypeId} {j : TypeInfo} (a : Addr) (hp : P.underlying tp = some (.pointer te)) (hte : P.info? te = some j) :
    (binOp .neq tp (.pointer (some a)) (.pointer (some a))).run P w = .ok (.bool false) w := by
  have h : ∀ d : Nat, (Op.equalIn (d + 1) tp (.pointer (some a)) (.pointer (some a))).run P w = .ok true w := fun d => by
    simp [Op.equalIn, run_underlying hp, sizeOf, typeInfo, hte, run_sameAddr_same]
  simp only [binOp]
  simp [Op.equal, Op.maxDepth, h 9999]
set_option maxRecDepth 100000 in
set_option maxHeartbeats 2000000 in
theorem hashSums_walk (A : Option Addr) (n c : Nat) (l : List UInt8) (x : Nat) (w : World) (hrow : ByteRow w A n c l) (hx : x < 65536) (hT : TabsOK w) :
    Calls Tryd.prog 3 #[.slice A n c, .int .u16 (x : Int)] w fun e w' => e = .returned (.bool true) ∧ Below w.heap.size w w' := by
  obtain ⟨hl, hnc, hcm, hrd⟩ := hrow
  have hTg : ∀ W, Below w.heap.size w W → TabsOK W := fun W hb => hT.below hb
  obtain ⟨Z, hZ0, hZ⟩ : ∃ Z : Array Value, (Tryd.prog.info? 25).bind (fun i => i.zero.map Value.cells) = some Z ∧ Hid (Z = idC zeros) := ⟨_, zero_id, rfl⟩
  obtain ⟨ZR, hZR0, hZR⟩ : ∃ Z : Array Value, (Tryd.prog.info? 30).bind (fun i => i.zero.map Value.cells) = some Z ∧ Hid (Z = runC false S8.zero (.slice none 0 0) 0) := ⟨_, zero_run, rfl⟩
  obtain ⟨D, hD, hDs, hD1⟩ : ∃ D : Array Value, Hid (D = idC (sha l)) ∧ D.size = 32 ∧ (∀ u ∈ D.toList, u.oneCell' = true) := ⟨_, rfl, by rw [idC_size]; rfl, by simpa [idC] using u8v_one (sha l)⟩
  have hDi : (Tryd.prog.info? 25).map (·.size) = some D.size := by rw [hDs]; exact size_id
  have hDz : D.size = Z.size := by rw [hDs, hZ.out, idC_size]; rfl
  have heq : ∀ (y : List UInt8) (W : World), (Op.equalIn 10000 25 (.agg (idC (sha y))) (.agg (idC (sha y)))).run Tryd.prog W = .ok true W := fun y W => by
    have := run_eq_id W (sha y) (sha y) (sha_length _) (sha_length _)
    simpa using this
  have heqD := heq l
  rw [← hD.out] at heqD
  have HQ := Lib.hid heq
  clear hT heq
  by_cases h2 : 2000 < n
  · have h2i : (2000 : Int) < (n : Int) := by omega
    go_enter Tryd.func3, Tryd.ntmps3
    go_wp2_with fail
    go_ret
    exact ⟨rfl, Below.refl _ _⟩
  have h2i : ¬ (2000 : Int) < (n : Int) := by omega
  obtain ⟨kk, hkk⟩ : ∃ kk, kk = x % (n + 1) := ⟨_, rfl⟩
  have hkm : kk ≤ n := by rw [hkk]; have := Nat.mod_lt x (show 0 < n + 1 by omega); omega
  have hkt : (x : Int) % ((n : Int) + 1) = (kk : Int) := by rw [hkk, Int.natCast_emod]; rfl
  have hni : (n : Int) ≤ 2000 := by omega
  have hxi : (x : Int) < 65536 := by omega
  have HKT := Lib.hid hkt
  have HRD := Lib.hid hrd
  clear hkt hkk
  obtain ⟨H, hH, hHs, hH1⟩ : ∃ H : Array Value, Hid (H = idC (sha (l.take kk))) ∧ H.size = 32 ∧ (∀ u ∈ H.toList, u.oneCell' = true) := ⟨_, rfl, by rw [idC_size]; rfl, by simpa [idC] using u8v_one (sha (l.take kk))⟩
  have hHi : (Tryd.prog.info? 25).map (·.size) = some H.size := by rw [hHs]; exact size_id
  have hHz : H.size = Z.size := by rw [hHs, hZ.out, idC_size]; rfl
  have heqH := HQ.out (l.take kk)
  rw [← hH.out] at heqH
  obtain ⟨w1, hw1⟩ : ∃ w1, w1 = w.alloc (.cells #[] 5) := ⟨_, rfl⟩
  have hb1 : Below w.heap.size w w1 := by rw [hw1]; exact (Below.refl _ w).alloc (Nat.le_refl _) _
  have q1 : w1.heap[w.heap.size]? = some (.cells #[] 5 (0, 0)) := by rw [hw1]; exact heap_alloc_new _ _
  have ho1 : w1.ownsRow w.heap.size 5 1 (.slice (some ⟨w.heap.size, 0, none⟩) 0 0) 0 [] := ⟨rfl, .inr ⟨w.heap.size, 0, #[], rfl, Nat.le_refl _, q1, Nat.le_refl _, by unfold maxLen; omega, rfl, rfl⟩⟩
  have hl1 : (u8v l).length = n * 1 := by rw [u8v_length, hl, Nat.mul_one]
  have hr1 := hrd.below hb1
  have HW1 := Lib.hid hw1
  have HL1 := Lib.hid hl1
  clear hw1 q1 hl1
  go_enter Tryd.func3, Tryd.ntmps3
  go_upto_region 3 with (fail)
  go_upto_region 4 with (first
    | (at_builtin; go_loud (rw [← HW1.out]; refine wpList_app elt8 rfl (.tmp 15) (.tmp 16) rfl w.heap.size _ 0 [] rfl ho1 A n c (u8v l) rfl HL1.out hr1 (u8v_one _) (by unfold maxLen; omega) (by omega) hb1.size ?_; intro v1 w2 ho2 hg2; have hb2 := below_grown hb1 ho1 hg2 hb1.size (Nat.le_refl _)))
    | fail)
  rw [Nat.zero_add, List.nil_append] at ho2
  have hlt2 := own_lt ho2
  obtain ⟨A1, c1, rfl, p1, p2, p3, p4⟩ := RdC.of_own ho2
  clear hg2 ho1 hb1 hr1 HW1 HL1
  have hs1 : ∀ W : World, (Instr.slice 22 (.slice A1 n c1) none (some (.int .i64 (kk : Int))) none).run Tryd.prog W = .ok (.slice A1 kk c1) W := fun W => run_sub_h (P := Tryd.prog) W 22 A1 n c1 1 Tryd.underlying22 (Tryd.sizeOf5 W) kk kk rfl (by omega)
  have hs2 : ∀ W : World, (Instr.slice 22 (.slice A1 n c1) (some (.int .i64 (kk : Int))) none none).run Tryd.prog W = .ok (.slice (subA A1 c1 kk 1) (n - kk) (c1 - kk)) W := fun W => run_sub_l (P := Tryd.prog) W 22 A1 n c1 1 Tryd.underlying22 (Tryd.sizeOf5 W) kk kk rfl hkm
  have hs3 : ∀ W : World, (Instr.slice 22 (.slice A n c) none (some (.int .i64 (kk : Int))) none).run Tryd.prog W = .ok (.slice A kk c) W := fun W => run_sub_h (P := Tryd.prog) W 22 A n c 1 Tryd.underlying22 (Tryd.sizeOf5 W) kk kk rfl (by omega)
  have hrof := rof_any A n c l hl (by omega) w2 (HRD.out.below hb2)
  rw [← hD.out] at hrof
  go_upto_region 5 with (fail)
  rw [HKT.out]
  go_upto_region 6 with (first
    | (go_at_call 8; refine hrof.mono ?_; rintro e w3 ⟨rfl, hb3⟩; have qn : (w3.alloc (.cells Z 25)).heap[w3.heap.size]? = some (.cells Z 25 (0, 0)) := heap_alloc_new _ _)
    | (with_reducible refine wpList_alloc_z rfl 25 rfl Z hZ0 ?_)
    | (with_reducible refine wpList_store_z rfl 25 (.tmp 7) (.tmp 25) rfl _ rfl D rfl Z _ qn hDz hDi hD1 ?_)
    | fail)
  obtain ⟨w4, hw4⟩ : ∃ w4, w4 = (w3.alloc (.cells Z 25)).setRow w3.heap.size D := ⟨_, rfl⟩
  have hb4 : Below w3.heap.size w3 w4 := by rw [hw4]; exact below_setRow ((Below.refl _ w3).alloc (Nat.le_refl _) _) (Nat.le_refl _) D
  have q4 : w4.heap[w3.heap.size]? = some (.cells D 25 (0, 0)) := by rw [hw4]; exact setRow_heap _ _ _ _ _ _ qn
  have hb24 := below_then hb3 hb4 (Nat.le_refl _)
  have hw3 : w2.heap.size ≤ w3.heap.size := hb3.size
  rw [← hw4]
  obtain ⟨gw, hgw⟩ : ∃ gw, gw = w3.heap.size := ⟨_, rfl⟩
  rw [← hgw] at q4 hw3 ⊢
  clear hw4 qn hb4 hb3 hrof hgw
  obtain ⟨w5, hw5⟩ : ∃ w5, w5 = w4.alloc (.cells ZR 30) := ⟨_, rfl⟩
  have hb5 : Below w4.heap.size w4 w5 := by rw [hw5]; exact (Below.refl _ w4).alloc (Nat.le_refl _) _
  have q5 : w5.heap[w4.heap.size]? = some (.cells ZR 30 (0, 0)) := by rw [hw5]; exact heap_alloc_new _ _
  have q45 := (hb5.block _ (lt_of_get q4)).trans q4
  have hb25 := below_then hb24 hb5 (Nat.le_refl _)
  have hgwg : gw < w4.heap.size := lt_of_get q4
  obtain ⟨F, hF⟩ : ∃ F : Nat → Prop, F = fun y => w.heap.size ≤ y ∧ (Value.slice A1 n c1).ownBlock ≠ some y := ⟨_, rfl⟩
  have hFn : ∀ W : World, w2.heap.size ≤ W.heap.size → ∀ y, W.heap.size ≤ y → F y := fun W hW y hy => by
    rw [hF]
    exact ⟨by have := hb2.size; omega, fun e => by have := (hlt2 y e).2; omega⟩
  have hR5 : RunAtF F w4.heap.size false [] w5 := ⟨fun _ => rfl, none, 0, by rw [q5, hZR.out]; rfl, by decide, by decide, by unfold maxLen; omega, RdC.nil _ _, fun _ => rfl, fun ad e => by cases e⟩
  obtain ⟨gg, hgg⟩ : ∃ gg, gg = w4.heap.size := ⟨_, rfl⟩
  have HW5 := Lib.hid hw5
  rw [← hgg] at hR5 hgwg
  have HGG := Lib.hid hgg
  have hgB : w2.heap.size ≤ gg := by omega
  have ht1 : RdC w2 A1 (u8v (l.take kk)) := by rw [← u8v_take]; exact RdC.take p3 kk
  have ht2 : RdC w2 (subA A1 c1 kk 1) (u8v (l.drop kk)) := by
    have := p3.drop c1 kk 1 (by rw [u8v_length, hl]; omega)
    rwa [Nat.mul_one, u8v_drop] at this
  have hlk : (l.take kk).length = kk := by rw [List.length_take]; omega
  have hld : (l.drop kk).length = n - kk := by rw [List.length_drop, hl]
  have hb0 : ∀ W, Below w2.heap.size w2 W → Below w.heap.size w W := fun W hW => below_then hb2 hW (Nat.le_refl _)
  have hpe : ∀ W : World, (binOp .neq 31 (.pointer (some ⟨gg, 0, none⟩)) (.pointer (some ⟨gg, 0, none⟩))).run Tryd.prog W = .ok (.bool false) W := fun W => by
    obtain ⟨j, hj⟩ := Option.isSome_iff_exists.1 (show (Tryd.prog.info? 30).isSome = true by kernel_rfl)
    exact run_neq_ptr_same W _ Tryd.underlying31 hj
  have hadd1 := add_anyF F gg false [] w5 hR5 (hFn w5 hb25.size) (hTg w5 (hb0 _ hb25)) A1 kk c1 (l.take kk) hlk (by omega) (ht1.below hb25) (fun ad e => by
    by_cases h0 : l.take kk = []
    · exact .inr h0
    · have := ht1.lt (by rw [u8v_length]; exact List.length_pos_iff.2 h0) ad e
      exact .inl (by omega)) (by show 0 + kk ≤ 1000000; omega)
  clear hw5 q5 hb5 hgg hR5
  go_upto_region 7 with (first
    | (with_reducible refine wpList_alloc_z rfl 30 rfl ZR hZR0 ?_)
    | fail)
  rw [← HW5.out, ← HGG.out]
  clear HW5 HGG hb24 q4
  go_upto_region 9 with (first
    | (go_at_call 9; refine hadd1.mono ?_; rintro e w6 ⟨rfl, hR6, hg6⟩)
    | fail)
  rw [List.nil_append] at hR6
  have hb26 := below_of_grown hb25 hg6 (Nat.le_refl _) hgB
  have q46 := (hg6.block _ (lt_of_get q45) (by simp; omega)).trans q45
  have hsum1 := sum_anyF F gg true (l.take kk) w6 hR6 (hTg w6 (hb0 _ hb26)) (by omega)
  rw [← hH.out] at hsum1
  clear hadd1 hg6 q45 hb25
  go_upto_region 10 with (first
    | (go_at_call 10; refine hsum1.mono ?_; rintro e w7 ⟨rfl, hb7⟩; have qn : (w7.alloc (.cells Z 25)).heap[w7.heap.size]? = some (.cells Z 25 (0, 0)) := heap_alloc_new _ _)
    | (with_reducible refine wpList_alloc_z rfl 25 rfl Z hZ0 ?_)
    | (with_reducible refine wpList_store_z rfl 25 (.tmp 9) (.tmp 31) rfl _ rfl H rfl Z _ qn hHz hHi hH1 ?_)
    | fail)
  obtain ⟨w8, hw8⟩ : ∃ w8, w8 = (w7.alloc (.cells Z 25)).setRow w7.heap.size H := ⟨_, rfl⟩
  have hb8 : Below w7.heap.size w7 w8 := by rw [hw8]; exact below_setRow ((Below.refl _ w7).alloc (Nat.le_refl _) _) (Nat.le_refl _) H
  have qh8 : w8.heap[w7.heap.size]? = some (.cells H 25 (0, 0)) := by rw [hw8]; exact setRow_heap _ _ _ _ _ _ qn
  have hb68 := below_then hb7 hb8 (Nat.le_refl _)
  have hb28 := below_then hb26 hb68 (Nat.le_refl _)
  have q48 := (hb68.block _ (lt_of_get q46)).trans q46
  have hR8 := hR6.below hb68
  have hgg7 : gg < w7.heap.size := by obtain ⟨_, _, h⟩ := (hR6.below hb7).row; exact lt_of_get h
  rw [← hw8]
  obtain ⟨gh, hgh⟩ : ∃ gh, gh = w7.heap.size := ⟨_, rfl⟩
  rw [← hgh] at qh8 hgg7 ⊢
  have hadd2 := add_anyF F gg true (l.take kk) w8 hR8 (hFn w8 hb28.size) (hTg w8 (hb0 _ hb28)) (subA A1 c1 kk 1) (n - kk) (c1 - kk) (l.drop kk) hld (by omega) (ht2.below hb28) (fun ad e => by
    by_cases h0 : l.drop kk = []
    · exact .inr h0
    · have := ht2.lt (by rw [u8v_length]; exact List.length_pos_iff.2 h0) ad e
      exact .inl (by omega)) (by rw [hlk]; omega)
  clear hw8 qn hb8 hb7 hb68 hgh hsum1 hb26 q46 hR6 hR8
  go_upto_region 11 with (first
    | (go_at_call 9; refine hadd2.mono ?_; rintro e w9 ⟨rfl, hR9, hg9⟩)
    | fail)
  rw [List.take_append_drop] at hR9
  have hb29 := below_of_grown hb28 hg9 (Nat.le_refl _) hgB
  have q49 := (hg9.block _ (lt_of_get q48) (by simp; omega)).trans q48
  have qh9 := (hg9.block _ (lt_of_get qh8) (by simp; omega)).trans qh8
  clear hadd2 hg9 hb28 q48 qh8
  have hbw : ∀ W, Below w9.heap.size w9 W → Below w2.heap.size w2 W := fun W hW => below_then hb29 hW (Nat.le_refl _)
  obtain ⟨sr, vr, hrow9⟩ := hR9.row
  refine hsums11 gw gg gh kk n c c1 (n - kk) (c1 - kk) A A1 (subA A1 c1 kk 1) D H w9 hDi hHi (fun W b hb hrow => ?_) (fun W b hb hrow => ?_) (fun W hb => ?_) (fun W hb => ?_) (fun W hb => ?_) hs1 hs2 hs3 heqD heqH (fun W hb => (hb.block _ (lt_of_get q49)).trans q49) (fun W hb => (hb.block _ (lt_of_get qh9)).trans qh9) fun w10 r37 r48 hb10 => ?_
  · have := of_any (some ⟨b, 0, none⟩) 1 1 [⟨A1, n, c1, l⟩] rfl (by omega) W (fun j u hj => ⟨_, rfl, by
      rw [addr_add_plain, Nat.zero_add, cell_of_row _ _ _ _ _ _ hrow, ← hj, ← Array.getElem?_toList]; rfl⟩) (fun s hs => by
      obtain rfl := List.mem_singleton.1 hs
      exact ⟨hl, p1, p3.below (hbw W hb)⟩) (hTg W (hb0 _ (hbw W hb))) (by simp [flat, hl]; omega)
    rw [show flat [⟨A1, n, c1, l⟩] = l by simp [flat], ← hD.out] at this
    exact this
  · have := of_any (some ⟨b, 0, none⟩) 3 3 [⟨A1, kk, c1, l.take kk⟩, ⟨none, 0, 0, []⟩, ⟨subA A1 c1 kk 1, n - kk, c1 - kk, l.drop kk⟩] rfl (by omega) W (fun j u hj => ⟨_, rfl, by
      rw [addr_add_plain, Nat.zero_add, cell_of_row _ _ _ _ _ _ hrow, ← hj, ← Array.getElem?_toList]; rfl⟩) (fun s hs => by
      simp only [List.mem_cons, List.not_mem_nil, or_false] at hs
      rcases hs with rfl | rfl | rfl
      · exact ⟨hlk, show kk ≤ c1 by omega, ht1.below (hbw W hb)⟩
      · exact ⟨rfl, Nat.le_refl _, RdC.nil _ _⟩
      · exact ⟨hld, show n - kk ≤ c1 - kk by omega, ht2.below (hbw W hb)⟩) (hTg W (hb0 _ (hbw W hb))) (by simp [flat, hl]; omega)
    rw [show flat [⟨A1, kk, c1, l.take kk⟩, ⟨none, 0, 0, []⟩, ⟨subA A1 c1 kk 1, n - kk, c1 - kk, l.drop kk⟩] = l by simp [flat], ← hD.out] at this
    exact this
  · have := sum_anyF F gg true l W (hR9.below hb) (hTg W (hb0 _ (hbw W hb))) (by omega)
    rw [← hD.out] at this
    exact this
  · have := rof_any A kk c (l.take kk) hlk (by omega) W (by rw [← u8v_take]; exact RdC.take (HRD.out.below (hb0 _ (hbw W hb))) kk)
    rw [← hH.out] at this
    exact this
  · have := len_any gg true sr vr _ W ((hb.block _ (lt_of_get hrow9)).trans hrow9)
    rw [hl] at this
    exact this
  have ho10 : w10.ownsRow w.heap.size 5 1 (.slice A1 n c1) n (u8v l) := own_below ho2 (hbw w10 hb10)
  have hR10 := hR9.below hb10
  have q410 := (hb10.block _ (lt_of_get q49)).trans q49
  have hb010 := hb0 _ (hbw w10 hb10)
  clear hb10 hrow9 hbw q49 qh9 hb29 hR9 ht1 ht2 p3 ho2
  go_wp2_with fail
  go_loopw [74] (fun i wr => ∃ (k : Nat) (lx : List UInt8), k ≤ n ∧ i = .int .i64 (k : Int) ∧ lx.length = n ∧ wr.ownsRow w.heap.size 5 1 (.slice A1 n c1) n (u8v lx) ∧ RunAtF F gg true l wr ∧ wr.heap[gw]? = some (.cells D 25 (0, 0)) ∧ Below w.heap.size w wr) (fun i _ => n - (intOf i).toNat)
  case atStart => exact ⟨0, l, by omega, rfl, hl, ho10, hR10, q410, hb010⟩
  case round =>
    obtain ⟨k, lx, hk, rfl, hlx, hown, hR, qD, hbr⟩ := hrel
    clear ho10 hR10 q410 hb010
    by_cases hlt : k < n
    · have hki : (k : Int) < (n : Int) := by omega
      rcases hown.2 with ⟨_, h0⟩ | ⟨go, cap, cur, hev, hbg, hgo, hncap, hcap, hcs, htake⟩
      · omega
      have hgo2 : go < w2.heap.size := (hlt2 go (by rw [hev]; rfl)).2
      have hFgo : ∀ y, F y → some y ≠ some go := fun y hy e => by
        rw [hF] at hy
        exact hy.2 (by rw [hev]; exact e.symm)
      cases hev
      have hkb : k < lx.length := by omega
      have hck : wr.cell? ⟨go, k, none⟩ = some (.int .u8 ((lx[k]).toNat : Int)) := by
        rw [cell_of_row _ _ _ _ _ _ hgo]
        have h1 := u8v_get lx k hkb
        rw [← htake, Nat.mul_one, List.getElem?_take, if_pos hlt, Array.getElem?_toList] at h1
        exact h1
      have hfro : wr.frozen? ⟨go, k, none⟩ = false := frozen_of_row wr _ k _ _ hgo
      obtain ⟨y, hy⟩ : ∃ y, y = UInt8.ofNat ((lx[k]).toNat + 1) := ⟨_, rfl⟩
      have hv : (((lx[k]).toNat : Int) + 1) % 256 = (y.toNat : Int) := by rw [hy, UInt8.toNat_ofNat']; omega
      have hcur : (cur.setIfInBounds k (.int .u8 (y.toNat : Int))).toList.take (n * 1) = u8v (lx.set k y) := by
        rw [Array.toList_setIfInBounds, List.take_set, htake]
        simp [u8v, List.map_set]
      have HV := Lib.hid hv
      have HC := Lib.hid hcur
      generalize (lx[k]).toNat = z at hck HV
      clear hv hcur hy hown htake
      go_wp2_with fail
      rw [HV.out]
      have hg : wr.grownBy (wr.setCell ⟨go, k, none⟩ (.int .u8 (y.toNat : Int))) (some go) := ⟨rfl, rfl, rfl, by simp, fun j _ hj => heap_setCell_other _ _ _ _ (fun e => hj (by rw [e]))⟩
      refine ⟨⟨k + 1, lx.set k y, by omega, rfl, by rw [List.length_set]; exact hlx, ⟨by rw [u8v_length, List.length_set, hlx, Nat.mul_one], .inr ⟨go, _, _, rfl, hbg, heap_setCell_same _ _ _ _ _ _ hgo, hncap, hcap, by rw [Array.size_setIfInBounds]; exact hcs, HC.out⟩⟩, hR.move hg (by simp; omega) hFgo (fun y hy _ => hy), (hg.block _ (lt_of_get qD) (by simp; omega)).trans qD, hbr.setCell (p := ⟨go, k, none⟩) hbg _⟩, by simp [intOf]; omega⟩
    · obtain rfl : k = n := by omega
      clear hlt hk hown
      go_upto_region 17 with (fail)
      refine hsums17 gw gg D wr hDi (fun W hb => ?_) heqD (fun W hb => (hb.block _ (lt_of_get qD)).trans qD) fun w11 hb11 => ?_
      · have := sum_anyF F gg true l W (hR.below hb) (hTg W (below_then hbr hb (Nat.le_refl _))) (by omega)
        rw [← hD.out] at this
        exact this
      · go_wp2_with fail
        go_ret
        exact ⟨rfl, below_then hbr hb11 (Nat.le_refl _)⟩
end Go.Proofs.YtcdnbidenaljlaaDoor
