/- The law HashParts, walked. -/
import Derived.Test.YtcdnbidenaljlaaDoorShaPa
namespace Go.Proofs.YtcdnbidenaljlaaDoor
open Go.RowKit

set_option maxRecDepth 100000 in
set_option maxHeartbeats 2000000 in
theorem hashParts_any (A : Option Addr) (n c : Nat) (l : List UInt8) (w : World) (hrow : ByteRow w A n c l) (AC : Option Addr) (nC cC : Nat) (lc : List Nat) (hC : U16Row w AC nC lc) (hT : TabsOK w) :
    Calls Tryd.prog 4 #[.slice A n c, .slice AC nC cC] w fun e w' => e = .returned (.bool true) ∧ Below w.heap.size w w' := by
  obtain ⟨hl, hnc, hcm, hrd⟩ := hrow
  obtain ⟨hlC, hrdC, hltC⟩ := hC
  have hTg : ∀ W, Below w.heap.size w W → TabsOK W := fun W hb => hT.below hb
  obtain ⟨Z, hZ0, hZ⟩ : ∃ Z : Array Value, (Tryd.prog.info? 25).bind (fun i => i.zero.map Value.cells) = some Z ∧ Hid (Z = idC zeros) := ⟨_, zero_id, rfl⟩
  obtain ⟨ZR, hZR0, hZR⟩ : ∃ Z : Array Value, (Tryd.prog.info? 30).bind (fun i => i.zero.map Value.cells) = some Z ∧ Hid (Z = runC false S8.zero (.slice none 0 0) 0) := ⟨_, zero_run, rfl⟩
  obtain ⟨D, hD, hDs, hD1⟩ : ∃ D : Array Value, Hid (D = idC (sha l)) ∧ D.size = 32 ∧ (∀ u ∈ D.toList, u.oneCell' = true) := ⟨_, rfl, by rw [idC_size]; rfl, by simpa [idC] using u8v_one (sha l)⟩
  have hDi : (Tryd.prog.info? 25).map (·.size) = some D.size := by rw [hDs]; exact size_id
  have hDz : D.size = Z.size := by rw [hDs, hZ.out, idC_size]; rfl
  have heq : ∀ W, (Op.equalIn 10000 25 (.agg D) (.agg D)).run Tryd.prog W = .ok true W := fun W => by
    rw [hD.out]
    have := run_eq_id W (sha l) (sha l) (sha_length _) (sha_length _)
    simpa using this
  have hal := alive_any w hT
  clear hT
  go_enter Tryd.func4, Tryd.ntmps4
  go_wp2_with fail
  refine hal.mono ?_
  rintro e w1 ⟨rfl, hb1⟩
  clear hal
  by_cases h2 : 2000 < n
  · have h2i : (2000 : Int) < (n : Int) := by omega
    go_wp2_with fail
    go_ret
    exact ⟨rfl, hb1⟩
  have h2i : ¬ (2000 : Int) < (n : Int) := by omega
  by_cases h20 : 20 < nC
  · have h20i : (20 : Int) < (nC : Int) := by omega
    go_wp2_with fail
    go_ret
    exact ⟨rfl, hb1⟩
  have h20i : ¬ (20 : Int) < (nC : Int) := by omega
  go_upto_region 4 with (fail)
  obtain ⟨w2, hw2⟩ : ∃ w2, w2 = w1.alloc (.cells #[.slice A n c] 22) := ⟨_, rfl⟩
  have hb2 : Below w1.heap.size w1 w2 := by rw [hw2]; exact (Below.refl _ w1).alloc (Nat.le_refl _) _
  have g2 : w2.heap[w1.heap.size]? = some (.cells #[.slice A n c] 22 (0, 0)) := by rw [hw2]; exact heap_alloc_new _ _
  have hb2' := below_then hb1 hb2 (Nat.le_refl _)
  have e3 : flat [⟨A, n, c, l⟩] = l := by simp [flat]
  have hof := of_any (some ⟨w1.heap.size, 0, none⟩) 1 1 [⟨A, n, c, l⟩] rfl (by omega) w2 (fun j u hj => ⟨_, rfl, by
      rw [addr_add_plain, Nat.zero_add, cell_of_row _ _ _ _ _ _ g2, ← hj, ← Array.getElem?_toList]; rfl⟩) (fun s hs => by
      obtain rfl := List.mem_singleton.1 hs
      exact ⟨hl, hnc, hrd.below hb2'⟩) (hTg w2 hb2') (by rw [e3]; omega)
  rw [e3, ← hD.out] at hof
  have HW2 := Lib.hid hw2
  clear hw2 g2 hb1 hb2 e3
  go_upto_region 5 with (first
    | (go_at_call 11; rw [← HW2.out]; refine hof.mono ?_; rintro e w3 ⟨rfl, hb3⟩; have qn : (w3.alloc (.cells Z 25)).heap[w3.heap.size]? = some (.cells Z 25 (0, 0)) := heap_alloc_new _ _)
    | (with_reducible refine wpList_alloc_z rfl 25 rfl Z hZ0 ?_)
    | (with_reducible refine wpList_store_z rfl 25 (.tmp 6) (.tmp 29) rfl _ rfl D rfl Z _ qn hDz hDi hD1 ?_)
    | fail)
  have hb3' := below_then hb2' hb3 (Nat.le_refl _)
  obtain ⟨w4, hw4⟩ : ∃ w4, w4 = (w3.alloc (.cells Z 25)).setRow w3.heap.size D := ⟨_, rfl⟩
  have hb4 : Below w3.heap.size w3 w4 := by rw [hw4]; exact below_setRow ((Below.refl _ w3).alloc (Nat.le_refl _) _) (Nat.le_refl _) D
  have q4 : w4.heap[w3.heap.size]? = some (.cells D 25 (0, 0)) := by rw [hw4]; exact setRow_heap _ _ _ _ _ _ qn
  have hb4' := below_then hb3' hb4 (Nat.le_refl _)
  have hw3 : w.heap.size ≤ w3.heap.size := hb3'.size
  rw [← hw4]
  obtain ⟨gw, hgw⟩ : ∃ gw, gw = w3.heap.size := ⟨_, rfl⟩
  rw [← hgw] at q4 hw3 ⊢
  clear hw4 qn hb4 hb3 hb3' hb2' hof HW2 hgw
  obtain ⟨w5, hw5⟩ : ∃ w5, w5 = w4.alloc (.cells ZR 30) := ⟨_, rfl⟩
  have hb5 : Below w4.heap.size w4 w5 := by rw [hw5]; exact (Below.refl _ w4).alloc (Nat.le_refl _) _
  have q5 : w5.heap[w4.heap.size]? = some (.cells ZR 30 (0, 0)) := by rw [hw5]; exact heap_alloc_new _ _
  have q45 := (hb5.block _ (lt_of_get q4)).trans q4
  have hb5' := below_then hb4' hb5 (Nat.le_refl _)
  have hgwg : gw < w4.heap.size := lt_of_get q4
  have hR5 : RunAtF (fun x => w.heap.size ≤ x ∧ (Value.slice none 0 0).ownBlock ≠ some x) w4.heap.size false [] w5 := ⟨fun _ => rfl, none, 0, by rw [q5, hZR.out]; rfl, by decide, by decide, by unfold maxLen; omega, RdC.nil _ _, fun _ => rfl, fun ad e => by cases e⟩
  obtain ⟨gg, hgg⟩ : ∃ gg, gg = w4.heap.size := ⟨_, rfl⟩
  have HW5 := Lib.hid hw5
  rw [← hgg] at hR5 hgwg
  have HGG := Lib.hid hgg
  have hgB : w.heap.size ≤ gg := by omega
  clear hw5 q5 hb5 hgg
  go_upto_region 8 with (first
    | (with_reducible refine wpList_alloc_z rfl 30 rfl ZR hZR0 ?_)
    | fail)
  rw [← HW5.out, ← HGG.out]
  clear HW5 HGG hb4' q4
  go_wp2_with fail
  go_loopw [8, 9, 33] (fun v r i wr => ∃ (k off : Nat) (L : List SlB) (A' : Option Addr) (c' : Nat) (b' : Bool), k ≤ nC ∧ off ≤ n ∧ L.length = k ∧ i = .int .i64 (k : Int) ∧ r = .slice A' (n - off) c' ∧ flat L = l.take off ∧ n - off ≤ c' ∧ RdC w A' (u8v (l.drop off)) ∧ (∀ s ∈ L, s.ok w) ∧ wr.ownsRow w.heap.size 22 1 v k (L.map SlB.val) ∧ v.ownBlock ≠ some gw ∧ v.ownBlock ≠ some gg ∧ RunAtF (fun x => w.heap.size ≤ x ∧ v.ownBlock ≠ some x) gg b' (l.take off) wr ∧ wr.heap[gw]? = some (.cells D 25 (0, 0)) ∧ Below w.heap.size w wr) (fun _ _ i _ => nC - (intOf i).toNat)
  case atStart => exact ⟨0, 0, [], A, c, false, by omega, by omega, rfl, rfl, rfl, rfl, hnc, by rw [List.drop_zero]; exact hrd, fun s hs => (by cases hs), World.ownsRow_nil w5 _ _ _, by simp [Value.ownBlock], by simp [Value.ownBlock], hR5, q45, hb5'⟩
  case round =>
    obtain ⟨k, off, L, A', c', b', hk, hoff, hLk, rfl, rfl, hflat, hc', hrd', hok, hown, hvw, hvg, hR, qD, hbr⟩ := hrel
    clear hR5 q45 hb5'
    by_cases hlt : k < nC
    · have kC : k < lc.length := by omega
      obtain ⟨ad, hA, hcc⟩ := hrdC k (.int .u16 (lc[k] : Int)) (by simp [u16v, kC])
      subst hA
      have hck := (hbr.cell (World.block_lt_of_cell? w _ hcc)).trans hcc
      have hx16 := hltC _ (List.getElem_mem kC)
      generalize lc[k] = x at hck hcc hx16
      have hki : (k : Int) < (nC : Int) := by omega
      obtain ⟨m, hm⟩ : ∃ m, m = n - off := ⟨_, rfl⟩
      rw [← hm] at hc'
      have hm2 : m ≤ 2000 := by omega
      have hmi : (m : Int) ≤ 2000 := by omega
      have hxi : (x : Int) < 65536 := by omega
      have hdl : (l.drop off).length = m := by rw [List.length_drop]; omega
      have HM := Lib.hid hm
      have HD := Lib.hid hdl
      rw [← hm]
      obtain ⟨kk, hkk⟩ : ∃ kk, kk = x % (m + 1) := ⟨_, rfl⟩
      have hkm : kk ≤ m := by rw [hkk]; have := Nat.mod_lt x (show 0 < m + 1 by omega); omega
      have hkt : (x : Int) % ((m : Int) + 1) = (kk : Int) := by rw [hkk, Int.natCast_emod]; rfl
      have HKT := Lib.hid hkt
      have hsub : ∀ W : World, (Instr.slice 22 (.slice A' m c') none (some (.int .i64 (kk : Int))) none).run Tryd.prog W = .ok (.slice A' kk c') W := fun W => run_sub_h (P := Tryd.prog) W 22 A' m c' 1 Tryd.underlying22 (Tryd.sizeOf5 W) kk kk rfl (by omega)
      have hsub2 : ∀ W : World, (Instr.slice 22 (.slice A' m c') (some (.int .i64 (kk : Int))) none none).run Tryd.prog W = .ok (.slice (subA A' c' kk 1) (m - kk) (c' - kk)) W := fun W => run_sub_l (P := Tryd.prog) W 22 A' m c' 1 Tryd.underlying22 (Tryd.sizeOf5 W) kk kk rfl hkm
      obtain ⟨sl, hsl⟩ : ∃ sl, sl = (l.drop off).take kk := ⟨_, rfl⟩
      have hsll : sl.length = kk := by rw [hsl, List.length_take, hdl]; omega
      have hsrd : RdC w A' (u8v sl) := by rw [hsl, ← u8v_take]; exact RdC.take hrd' kk
      have hrd4 : RdC w (subA A' c' kk 1) (u8v (l.drop (off + kk))) := by
        have := hrd'.drop c' kk 1 (by rw [u8v_length, hdl]; omega)
        rwa [Nat.mul_one, u8v_drop, List.drop_drop] at this
      have hfl2 : flat (L ++ [⟨A', kk, c', sl⟩]) = l.take (off + kk) := by rw [flat_app, hflat, hsl, List.take_add]
      have htk : l.take off ++ sl = l.take (off + kk) := by rw [hsl, List.take_add]
      have hok2 : ∀ s ∈ L ++ [(⟨A', kk, c', sl⟩ : SlB)], s.ok w := fun s hs => by
        rcases List.mem_append.1 hs with hs | hs
        · exact hok s hs
        · obtain rfl := List.mem_singleton.1 hs
          exact ⟨hsll, show kk ≤ c' by omega, hsrd⟩
      have hmv : (L ++ [(⟨A', kk, c', sl⟩ : SlB)]).map SlB.val = L.map SlB.val ++ [.slice A' kk c'] := by rw [List.map_append]; rfl
      obtain ⟨wx, hwx⟩ : ∃ wx, wx = wr.alloc (.cells #[.slice A' kk c'] 22) := ⟨_, rfl⟩
      have hbx : Below wr.heap.size wr wx := by rw [hwx]; exact (Below.refl _ _).alloc (Nat.le_refl _) _
      have hox := own_below hown hbx
      have hrx : RdC wx (some ⟨wr.heap.size, 0, none⟩) [.slice A' kk c'] := fun j u hj => by
        refine ⟨_, rfl, ?_⟩
        have hg : wx.heap[wr.heap.size]? = some (.cells #[.slice A' kk c'] 22 (0, 0)) := by rw [hwx]; exact heap_alloc_new _ _
        rw [addr_add_plain, Nat.zero_add, cell_of_row _ _ _ _ _ _ hg, ← hj, ← Array.getElem?_toList]
      have hsx := below_then hbr hbx (Nat.le_refl _)
      have hRx := hR.below hbx
      have qDx := (hbx.block _ (lt_of_get qD)).trans qD
      have hggx : gg < wx.heap.size := by obtain ⟨_, _, h⟩ := hRx.row; exact lt_of_get h
      have hgwx : gw < wx.heap.size := lt_of_get qDx
      have hLs : (L.map SlB.val).length = k := by rw [List.length_map, hLk]
      have HWX := Lib.hid hwx
      have HSL := Lib.hid hsl
      have HFL := Lib.hid hfl2
      have HMV := Lib.hid hmv
      have HTK := Lib.hid htk
      have HLL := Lib.hid hsll
      clear hm hkk hkt hsl hwx hfl2 hmv htk hflat hbx hR qD hown hdl hsll hcc
      go_upto_region 12 with (fail)
      rw [HKT.out]
      go_upto_region 13 with (first
        | (at_builtin; go_loud (rw [← HWX.out]; refine wpList_app_at elt22 rfl (.tmp 43) (.tmp 47) rfl w.heap.size _ k (L.map SlB.val) rfl hox ⟨wr.heap.size, 0, none⟩ 1 1 [.slice A' kk c'] rfl rfl hrx (by simp [Value.oneCell']) (by unfold maxLen; omega) (by omega) hsx.size ?_; intro v' wa ho hg hat))
        | fail)
      have hba := below_grown hsx hox hg hsx.size (Nat.le_refl _)
      have hRa : RunAtF (fun x => w.heap.size ≤ x ∧ v'.ownBlock ≠ some x) gg b' (l.take off) wa := hRx.move hg (Ne.symm hvg) (fun x hx => Ne.symm hx.2) (fun x hx hlt => ⟨hx.1, fun e => by
        rcases hat with h | h
        · rw [h] at e; exact hx.2 e
        · rw [h] at e; have := Option.some.inj e; omega⟩)
      have qDa := (hg.block _ hgwx (Ne.symm hvw)).trans qDx
      have hvw' : v'.ownBlock ≠ some gw := fun e => by
        rcases hat with h | h
        · rw [h] at e; exact hvw e
        · rw [h] at e; have := Option.some.inj e; omega
      have hvg' : v'.ownBlock ≠ some gg := fun e => by
        rcases hat with h | h
        · rw [h] at e; exact hvg e
        · rw [h] at e; have := Option.some.inj e; omega
      have hadd := add_anyF (fun x => w.heap.size ≤ x ∧ v'.ownBlock ≠ some x) gg b' (l.take off) wa hRa (fun x hx => ⟨by have := hba.size; omega, fun e => by have := (own_lt ho x e).2; omega⟩) (hTg wa hba) A' kk c' sl HLL.out (by omega) (hsrd.below hba) (fun ad' e => by
        by_cases h0 : sl = []
        · exact .inr h0
        · have := hsrd.lt (by rw [u8v_length]; exact List.length_pos_iff.2 h0) ad' e
          exact .inl (by omega)) (by rw [List.length_take]; omega)
      clear hRx qDx hox hat hg hsx hrx HWX hRa hvw hvg
      go_upto_region 14 with (first
        | (go_at_call 9; refine hadd.mono ?_; rintro e wb ⟨rfl, hRb, hgb⟩)
        | fail)
      have hbb := below_of_grown hba hgb (Nat.le_refl _) hgB
      have qDb := (hgb.block _ (lt_of_get qDa) (by simp; omega)).trans qDa
      have hob := ho.kept hgb (.inr hvg')
      rw [HTK.out] at hRb
      have hsum := sum_anyF _ gg true (l.take (off + kk)) wb hRb (hTg wb hbb) (by rw [List.length_take]; omega)
      clear hadd hba qDa ho hgb
      go_upto_region 15 with (first
        | (go_at_call 10; refine hsum.mono ?_; rintro e wc ⟨rfl, hbc⟩)
        | fail)
      have hRc := hRb.below hbc
      have qDc := (hbc.block _ (lt_of_get qDb)).trans qDb
      have hoc := own_below hob hbc
      have hbc' := below_then hbb hbc (Nat.le_refl _)
      rw [← HMV.out] at hoc
      have hres : m - kk = n - (off + kk) := by have := HM.out; omega
      have HRS := Lib.hid hres
      clear hsum hbb qDb hob hbc hRb hres
      go_wp2_with fail
      go_roundw
      case rel => exact ⟨k + 1, off + kk, L ++ [⟨A', kk, c', sl⟩], subA A' c' kk 1, c' - kk, true, by omega, by have := HM.out; omega, by rw [List.length_append, hLk]; rfl, rfl, by rw [HRS.out], HFL.out, by have := HM.out; omega, hrd4, hok2, hoc, hvw', hvg', hRc, qDc, hbc'⟩
      case measure => simp [intOf]; omega
    · obtain rfl : k = nC := by omega
      obtain ⟨m, hm⟩ : ∃ m, m = n - off := ⟨_, rfl⟩
      rw [← hm] at hc'
      have hdl : (l.drop off).length = m := by rw [List.length_drop]; omega
      have hok2 : ∀ s ∈ L ++ [(⟨A', m, c', l.drop off⟩ : SlB)], s.ok w := fun s hs => by
        rcases List.mem_append.1 hs with hs | hs
        · exact hok s hs
        · obtain rfl := List.mem_singleton.1 hs
          exact ⟨hdl, hc', hrd'⟩
      have hfl2 : flat (L ++ [⟨A', m, c', l.drop off⟩]) = l := by rw [flat_app, hflat]; exact List.take_append_drop _ _
      have hmv : (L ++ [(⟨A', m, c', l.drop off⟩ : SlB)]).map SlB.val = L.map SlB.val ++ [.slice A' m c'] := by rw [List.map_append]; rfl
      have HM := Lib.hid hm
      rw [← hm]
      obtain ⟨wx, hwx⟩ : ∃ wx, wx = wr.alloc (.cells #[.slice A' m c'] 22) := ⟨_, rfl⟩
      have hbx : Below wr.heap.size wr wx := by rw [hwx]; exact (Below.refl _ _).alloc (Nat.le_refl _) _
      have hox := own_below hown hbx
      have hrx : RdC wx (some ⟨wr.heap.size, 0, none⟩) [.slice A' m c'] := fun j u hj => by
        refine ⟨_, rfl, ?_⟩
        have hg : wx.heap[wr.heap.size]? = some (.cells #[.slice A' m c'] 22 (0, 0)) := by rw [hwx]; exact heap_alloc_new _ _
        rw [addr_add_plain, Nat.zero_add, cell_of_row _ _ _ _ _ _ hg, ← hj, ← Array.getElem?_toList]
      have hsx := below_then hbr hbx (Nat.le_refl _)
      have hRx := hR.below hbx
      have qDx := (hbx.block _ (lt_of_get qD)).trans qD
      have hggx : gg < wx.heap.size := by obtain ⟨_, _, h⟩ := hRx.row; exact lt_of_get h
      have hgwx : gw < wx.heap.size := lt_of_get qDx
      have hLs : (L.map SlB.val).length = k := by rw [List.length_map, hLk]
      have HWX := Lib.hid hwx
      have HFL := Lib.hid hfl2
      have HMV := Lib.hid hmv
      have HDL := Lib.hid hdl
      clear hm hwx hfl2 hmv hflat hbx hR qD hown hdl
      go_upto_region 18 with (first
        | (at_builtin; go_loud (rw [← HWX.out]; refine wpList_app_at elt22 rfl (.tmp 58) (.tmp 60) rfl w.heap.size _ k (L.map SlB.val) rfl hox ⟨wr.heap.size, 0, none⟩ 1 1 [.slice A' m c'] rfl rfl hrx (by simp [Value.oneCell']) (by unfold maxLen; omega) (by omega) hsx.size ?_; intro v' wa ho hg hat))
        | fail)
      have hba := below_grown hsx hox hg hsx.size (Nat.le_refl _)
      have hRa : RunAtF (fun x => w.heap.size ≤ x ∧ v'.ownBlock ≠ some x) gg b' (l.take off) wa := hRx.move hg (Ne.symm hvg) (fun x hx => Ne.symm hx.2) (fun x hx hlt => ⟨hx.1, fun e => by
        rcases hat with h | h
        · rw [h] at e; exact hx.2 e
        · rw [h] at e; have := Option.some.inj e; omega⟩)
      have qDa := (hg.block _ hgwx (Ne.symm hvw)).trans qDx
      have hvg' : v'.ownBlock ≠ some gg := fun e => by
        rcases hat with h | h
        · rw [h] at e; exact hvg e
        · rw [h] at e; have := Option.some.inj e; omega
      have hvl := own_lt ho
      rw [← HMV.out] at ho
      obtain ⟨A5, c5, rfl, p1, p2, p3, p4⟩ := RdC.of_own ho
      clear hRx qDx hox hat hg hsx hrx HWX hvw hvg
      have hba' : ∀ W, wa.grownBy W (some gg) → Below w.heap.size w W := fun W hW => below_of_grown hba hW (Nat.le_refl _) hgB
      have hDv : ∀ L', L' = l → (Value.agg (idC (sha L'))) = .agg D := fun L' e => by rw [e, hD.out]
      obtain ⟨sr, vr, hrow⟩ := hRa.row
      refine hparts18 gw gg (fun x => w.heap.size ≤ x ∧ (Value.slice A5 (k + 1) c5).ownBlock ≠ some x) b' (l.take off) (l.drop off) A5 A' A (k + 1) c5 m c' n c D wa (fun W => wa.grownBy W (some gg)) (grownBy_of_below ((Below.refl _ wa).drew) _) (fun W W' h hb => h.trans (grownBy_of_below hb _)) (fun W => RunAtF (fun x => w.heap.size ≤ x ∧ (Value.slice A5 (k + 1) c5).ownBlock ≠ some x) gg b' (l.take off) W) (hRa.below (Below.refl _ wa).drew) (fun W W' h hb => h.below hb) hDi (fun W hW => ?_) (fun W hW hG => ?_) (fun W hW hG => ?_) (fun W hW hG => ?_) heq (fun W W' h hb => h.trans hb) (fun W hW => (hW.block _ (lt_of_get qDa) (by simp; omega)).trans qDa) fun wz hz => ?_
      · have := of_any A5 (k + 1) c5 (L ++ [⟨A', m, c', l.drop off⟩]) (by rw [List.length_append, hLk]; rfl) (by omega) W (p3.grown hW (fun ad e h => hvg' (by rw [e]; exact h))) (fun s hs => (hok2 s hs).below (hba' W hW)) (hTg W (hba' W hW)) (by rw [HFL.out]; omega)
        rw [HFL.out, ← hD.out] at this
        exact this
      · exact add_anyF _ gg b' (l.take off) W hG (fun x hx => ⟨by have := (hba' W hW).size; omega, fun e => by have := (hvl x e).2; have := hW.size; omega⟩) (hTg W (hba' W hW)) A' m c' (l.drop off) HDL.out hc' (hrd'.below (hba' W hW)) (fun ad' e => by
          by_cases h0 : l.drop off = []
          · exact .inr h0
          · have := hrd'.lt (by rw [u8v_length]; exact List.length_pos_iff.2 h0) ad' e
            exact .inl (by omega)) (by rw [List.length_take]; have := HM.out; omega)
      · have := sum_anyF _ gg true _ W hG (hTg W (hba' W hW)) (by rw [List.take_append_drop]; omega)
        rw [List.take_append_drop, ← hD.out] at this
        exact this
      · obtain ⟨s2, v2, h2r⟩ := hG.row
        have := len_any gg true s2 v2 _ W h2r
        rw [List.take_append_drop, hl] at this
        exact this
      · go_wp2_with fail
        go_ret
        exact ⟨rfl, hba' _ hz⟩
theorem hashParts_walk (A : Option Addr) (n c : Nat) (l : List UInt8) (AC : Option Addr) (nC cC : Nat) (lc : List Nat) (w : World) (hrow : ByteRow w A n c l) (hC : U16Row w AC nC lc) (hT : TabsOK w) :
    Calls Tryd.prog 4 #[.slice A n c, .slice AC nC cC] w fun e w' => e = .returned (.bool true) ∧ Below w.heap.size w w' := hashParts_any A n c l w hrow AC nC cC lc hC hT
end Go.Proofs.YtcdnbidenaljlaaDoor
