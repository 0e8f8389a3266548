/- Vectors: fold, walked. -/
import Derived.Test.YtfifbjlmbdgmjaaVecGf
namespace Go.Proofs.Ytfifbjlmbdgmjaa
open Go.RowKit

theorem lt_of_get {w : World} {g : Nat} {o : Obj} (h : w.heap[g]? = some o) : g < w.heap.size := by
  rcases Nat.lt_or_ge g w.heap.size with h' | h'
  · exact h'
  · rw [Array.getElem?_eq_none h'] at h; cases h
/-- What fold has within a vector. -/
def mixK (op : Nat → Nat → Nat) (o v : List Nat) (j : Nat) : List Nat := (List.zipWith op o v).take j ++ o.drop j
section
variable (op : Nat → Nat → Nat) (o v : List Nat) (ho : o.length = 16) (hv : v.length = 16)
include ho hv
theorem mixK_length (j : Nat) (hj : j ≤ 16) : (mixK op o v j).length = 16 := by simp [mixK, ho, hv]; omega
theorem mixK_full : mixK op o v 16 = List.zipWith op o v := by
  unfold mixK
  rw [List.take_of_length_le (by simp [ho, hv]), List.drop_eq_nil_of_le (by omega), List.append_nil]
theorem mixK_get (j : Nat) (hj : j < 16) (hl : j < (mixK op o v j).length) : (mixK op o v j)[j] = o[j] := by
  have h1 : (mixK op o v j)[j]? = o[j]? := by
    unfold mixK
    rw [List.getElem?_append_right (by simp; omega), List.getElem?_drop]
    congr 1
    simp [ho, hv]
    omega
  rw [List.getElem?_eq_getElem hl, List.getElem?_eq_getElem (by omega)] at h1
  exact Option.some.inj h1
theorem mixK_step (j : Nat) (hj : j < 16) : (mixK op o v j).set j (op o[j] v[j]) = mixK op o v (j + 1) := by
  have hl : ((List.zipWith op o v).take j).length = j := by simp [ho, hv]; omega
  unfold mixK
  rw [List.set_append_right _ _ (by omega), hl, Nat.sub_self, List.drop_eq_getElem_cons (by omega), List.set_cons_zero, List.take_succ_eq_append_getElem (by simp [ho, hv]; omega), List.getElem_zipWith, List.append_assoc]
  rfl
end
theorem mixK_zero (op : Nat → Nat → Nat) (o v : List Nat) : mixK op o v 0 = o := by simp [mixK]
theorem foldK_step (op : Nat → Nat → Nat) (L : List (List Nat)) (k : Nat) : foldK op L (k + 1) = List.zipWith op (if k = 0 then L.getD k [] else foldK op L k) (L.getD k []) := rfl
set_option maxRecDepth 20000 in
set_option maxHeartbeats 4000000 in
theorem fold_max (A : Option Addr) (n c : Nat) (L : List (List Nat)) (hn : L.length = n) (hv : ∀ v ∈ L, v.length = 16) (hn2 : n ≤ 1000) (w : World) (hr : RdC w A (vecs L)) :
    Calls Try.prog 35 #[.func (.func 36) #[] #[], .slice A n c] w fun e w' => e = .returned (.agg (vC (foldK max L n))) ∧ Below w.heap.size w w' := by
  subst hn
  obtain ⟨Z, hz0, hZs, hZ1, HZ⟩ : ∃ Z : Array Value, (Try.prog.info? 24).bind (fun i => i.zero.map Value.cells) = some Z ∧ Z.size = 16 ∧ (∀ u ∈ Z.toList, u.oneCell' = true) ∧ Hid (Z = vC z16) := ⟨vC z16, zero_vec, by rw [vC_size]; rfl, vC_one z16, rfl⟩
  have hsi : (Try.prog.info? 24).map (·.size) = some Z.size := by rw [hZs]; exact size_vec
  have hg2 : ((w.alloc (.cells Z 24)).alloc (.cells Z 24)).heap[w.heap.size + 1]? = some (.cells Z 24 (0, 0)) := heap_alloc2_new _ _ _
  have hg3 : ((w.alloc (.cells Z 24)).alloc (.cells Z 24)).heap[w.heap.size]? = some (.cells Z 24 (0, 0)) := heap_alloc2_old _ _ _
  have hb2 : Below w.heap.size w ((w.alloc (.cells Z 24)).alloc (.cells Z 24)) := ((Below.refl _ w).alloc (Nat.le_refl _) _).alloc (by simp) _
  have HS := Lib.hid hZs
  clear hZs
  go_enter Try.func35, Try.ntmps35
  go_wp2_with (first
    | (with_reducible refine wpList_alloc_z rfl 24 rfl Z hz0 ?_)
    | fail)
  obtain ⟨w1, hw1⟩ : ∃ w1, w1 = (w.alloc (.cells Z 24)).alloc (.cells Z 24) := ⟨_, rfl⟩
  rw [← hw1] at hb2 hg2 hg3 ⊢
  clear hw1
  go_loopw [11] (fun i wr => ∃ k : Nat, k ≤ L.length ∧ i = .int .i64 k ∧ wr.heap[w.heap.size + 1]? = some (.cells (vC (foldK max L k)) 24 (0, 0)) ∧ wr.heap[w.heap.size]? = some (.cells Z 24 (0, 0)) ∧ Below w.heap.size w wr) (fun i _ => L.length - (intOf i).toNat)
  case atStart => exact ⟨0, by omega, rfl, by rw [show foldK max L 0 = z16 from rfl, ← HZ.out]; exact hg2, hg3, hb2⟩
  case round =>
    obtain ⟨k, hk, rfl, hp, hq, hbr⟩ := hrel
    by_cases hlt : k < L.length
    · obtain ⟨v, hvk⟩ : ∃ v, v = L[k] := ⟨_, rfl⟩
      have hvl : v.length = 16 := by rw [hvk]; exact hv _ (List.getElem_mem _)
      have hvg : L.getD k [] = v := by rw [hvk, List.getD_eq_getElem?_getD, List.getElem?_eq_getElem hlt]; rfl
      obtain ⟨ad, rfl, hx0⟩ := hr (k * 16 + 0) _ (vecs_get L hv k 0 hlt (by omega) (by rw [← hvk]; omega))
      have hcell : ∀ j (hj : j < v.length), wr.cell? ((ad.add (k * 16)).add j) = some (.int .u32 (v[j] : Int)) := fun j hj => by
        subst hvk
        obtain ⟨_, e, h⟩ := hr (k * 16 + j) _ (vecs_get L hv k j hlt (by omega) hj)
        cases e
        rw [addr_add_add, hbr.cell (World.block_lt_of_cell? w _ h)]
        exact h
      have HVG := Lib.hid hvg
      clear hx0 hvg hvk hr
      have hld := load_vec wr (ad.add (k * 16)) v hvl hcell
      clear hcell
      have q0 : (wr.alloc (.cells Z 24)).heap[wr.heap.size]? = some (.cells Z 24 (0, 0)) := heap_alloc_new _ _
      have hvs : (vC v).size = Z.size := by rw [vC_size, hvl, HS.out]
      have hsv : (Try.prog.info? 24).map (·.size) = some (vC v).size := by rw [vC_size, hvl]; exact size_vec
      have hbx : Below wr.heap.size wr ((wr.alloc (.cells Z 24)).setRow wr.heap.size (vC v)) := below_setRow ((Below.refl _ wr).alloc (Nat.le_refl _) _) (Nat.le_refl _) _
      have q1 := setRow_heap _ wr.heap.size Z (vC v) _ _ q0
      have pz := lt_of_get hp
      have qz := lt_of_get hq
      have p1 := (hbx.block _ pz).trans hp
      have p2 := (hbx.block _ qz).trans hq
      have hb3 := below_then hbr hbx (Nat.le_refl _)
      have hol := foldK_length max L hv k hk
      have hvs1 := vC_one v
      obtain ⟨V, hV⟩ : ∃ V, V = vC v := ⟨_, rfl⟩
      by_cases h0 : k = 0
      case' pos =>
        have h0d : ((k : Int) == 0) = true := by simp [h0]
        have r1 := setRow_heap _ (w.heap.size + 1) _ (vC v) _ _ p1
        have r2 := (setRow_other ((wr.alloc (.cells Z 24)).setRow wr.heap.size (vC v)) (w.heap.size + 1) wr.heap.size (vC v) (by omega)).trans q1
        have r3 := (setRow_other ((wr.alloc (.cells Z 24)).setRow wr.heap.size (vC v)) (w.heap.size + 1) w.heap.size (vC v) (by omega)).trans p2
        have r4 := below_setRow hb3 (show w.heap.size ≤ w.heap.size + 1 by omega) (vC v)
        have HO : Hid (v = if k = 0 then L.getD k [] else foldK max L k) := by show v = _; rw [if_pos h0]; exact HVG.out.symm
        have H0 := Lib.hid h0
        clear h0
        go_wp2_with (first
          | (with_reducible refine wpList_load_at rfl 24 (.tmp 14) rfl _ rfl _ hld ?_)
          | (with_reducible refine wpList_alloc_z rfl 24 rfl Z hz0 ?_)
          | (with_reducible refine wpList_store_z rfl 24 (.tmp 7) (.tmp 15) rfl _ rfl (vC v) rfl Z _ q0 hvs hsv hvs1 ?_)
          | (with_reducible refine wpList_load_row rfl 24 (.tmp 7) rfl _ rfl 24 (vC v) _ _ q1 Try.underlying24 rfl hsv ?_)
          | (with_reducible refine wpList_store_z rfl 24 (.tmp 5) (.tmp 18) rfl _ rfl (vC v) rfl _ _ p1 (by rw [vC_size, vC_size, hol, hvl]) hsv hvs1 ?_)
          | fail)
        replace hol := hvl
        replace p1 := r1
        replace q1 := r2
        replace p2 := r3
        replace hb3 := r4
        clear r1 r2 r3 r4 hld hbx q0
        generalize (((wr.alloc (.cells Z 24)).setRow wr.heap.size (vC v)).setRow (w.heap.size + 1) (vC v)) = wi at *
        obtain ⟨o, ho⟩ : ∃ o, o = v := ⟨_, rfl⟩
        rw [← ho] at HO hol
        rw [show vC v = vC o by rw [ho]] at p1
        clear ho
      case' neg =>
        have h0d : ((k : Int) == 0) = false := by simp [h0]
        have HO : Hid (foldK max L k = if k = 0 then L.getD k [] else foldK max L k) := by show _ = _; rw [if_neg h0]
        have H0 := Lib.hid h0
        clear h0
        go_wp2_with (first
          | (with_reducible refine wpList_load_at rfl 24 (.tmp 14) rfl _ rfl _ hld ?_)
          | (with_reducible refine wpList_alloc_z rfl 24 rfl Z hz0 ?_)
          | (with_reducible refine wpList_store_z rfl 24 (.tmp 7) (.tmp 15) rfl _ rfl (vC v) rfl Z _ q0 hvs hsv hvs1 ?_)
          | fail)
        clear hld hbx q0
        generalize (wr.alloc (.cells Z 24)).setRow wr.heap.size (vC v) = wi at *
        obtain ⟨o, ho⟩ : ∃ o, o = foldK max L k := ⟨_, rfl⟩
        rw [← ho] at hol p1
        replace HO : Hid (o = if k = 0 then L.getD k [] else foldK max L k) := by show _ = _; rw [ho]; exact HO.out
        clear ho
      all_goals
        clear hp hq hbr
        generalize wr.heap.size = g at *
        go_loopw [19] (fun i wx => ∃ j : Nat, j ≤ 16 ∧ i = .int .i64 j ∧ wx.heap[w.heap.size + 1]? = some (.cells (vC (mixK max o v j)) 24 (0, 0)) ∧ wx.heap[g]? = some (.cells (vC v) 24 (0, 0)) ∧ wx.heap[w.heap.size]? = some (.cells Z 24 (0, 0)) ∧ Below w.heap.size w wx) (fun i _ => 16 - (intOf i).toNat)
        case atStart => exact ⟨0, by omega, rfl, by rw [mixK_zero]; exact p1, q1, p2, hb3⟩
        case round =>
          clear p1 q1 p2 hb3
          obtain ⟨j, hj, rfl, hp, hx, hq, hbr⟩ := hrel
          by_cases hjt : j < 16
          · have jo : j < o.length := by omega
            have jv : j < v.length := by omega
            have hml := mixK_length max o v hol hvl j (by omega)
            have cellp : wr.cell? ⟨w.heap.size + 1, j, none⟩ = some (.int .u32 (o[j] : Int)) := by
              rw [cell_of_row _ _ _ _ _ _ hp, vC_get _ _ (by omega), mixK_get max o v hol hvl j hjt]
            have cellx : wr.cell? ⟨g, j, none⟩ = some (.int .u32 (v[j] : Int)) := by
              rw [cell_of_row _ _ _ _ _ _ hx, vC_get _ _ jv]
            have hfro : wr.frozen? ⟨w.heap.size + 1, j, none⟩ = false := frozen_of_row wr _ j _ _ hp
            have HN : Hid ((mixK max o v j).set j (max o[j] v[j]) = mixK max o v (j + 1)) := mixK_step max o v hol hvl j hjt
            obtain ⟨z, hz⟩ : ∃ z, max o[j] v[j] = z := ⟨_, rfl⟩
            rw [hz] at HN
            generalize o[j] = x at *
            generalize v[j] = y at *
            have k0 : (0 : Int) ≤ j := by omega
            have k1 : (j : Int) < 16 := by omega
            have hup : ∀ (W : World) (p : Addr) (u : Value), Below wr.heap.size wr W → wr.cell? p = some u → W.cell? p = some u := fun W p u h hc => (h.cell (World.block_lt_of_cell? wr _ hc)).trans hc
            clear hml jo jv
            go_wp2_with fail
            refine foldmaxG (w.heap.size + 1) g j x y z wr k0 k1 hz (fun W h => hup W _ _ h cellp) (fun W h => hup W _ _ h cellx) (fun W h => (h.frozen (World.block_lt_of_cell? wr _ cellp)).trans hfro) fun wy hby => ?_
            have hnew := heap_setCell_same wy (w.heap.size + 1) j (vC (mixK max o v j)) _ (.int .u32 (z : Int)) ((hby.block _ (lt_of_get hp)).trans hp)
            rw [← vC_set, HN.out] at hnew
            have hold : (wy.setCell ⟨w.heap.size + 1, j, none⟩ (.int .u32 (z : Int))).heap[w.heap.size]? = some (.cells Z 24 (0, 0)) := by rw [heap_setCell_other _ _ _ _ (by simp)]; exact (hby.block _ (lt_of_get hq)).trans hq
            have hxn : (wy.setCell ⟨w.heap.size + 1, j, none⟩ (.int .u32 (z : Int))).heap[g]? = some (.cells (vC v) 24 (0, 0)) := by rw [heap_setCell_other _ _ _ _ (by simp; omega)]; exact (hby.block _ (lt_of_get hx)).trans hx
            have hbn := (below_then hbr hby (Nat.le_refl _)).setCell (p := ⟨w.heap.size + 1, j, none⟩) (show w.heap.size ≤ w.heap.size + 1 by omega) (.int .u32 (z : Int))
            clear hp hx hq
            go_wp2
            exact ⟨⟨j + 1, by omega, by go_num, hnew, hxn, hold, hbn⟩, by simp [intOf]; omega⟩
          · obtain rfl : j = 16 := by omega
            rw [mixK_full max o v hol hvl, HO.out, ← HVG.out, ← foldK_step] at hp
            clear hx HO HVG
            go_wp2_with fail
            go_roundw
            case rel => exact ⟨k + 1, by omega, by go_num, hp, hq, hbr⟩
            case measure => simp [intOf]; omega
    · obtain rfl : k = L.length := by omega
      have hol := foldK_length max L hv _ hk
      have hsr : (Try.prog.info? 24).map (·.size) = some (vC (foldK max L L.length)).size := by rw [vC_size, hol]; exact size_vec
      have q1 := setRow_heap _ w.heap.size Z (vC (foldK max L L.length)) _ _ hq
      have hbf := below_setRow hbr (Nat.le_refl _) (vC (foldK max L L.length))
      have hrs : (vC (foldK max L L.length)).size = Z.size := by rw [vC_size, hol, HS.out]
      have h1 := vC_one (foldK max L L.length)
      obtain ⟨R, hR⟩ : ∃ R, vC (foldK max L L.length) = R := ⟨_, rfl⟩
      rw [hR] at hp hsr q1 hbf hrs h1
      have HR := Lib.hid hR
      clear hR
      go_wp2_with (first
        | (with_reducible refine wpList_load_row rfl 24 (.tmp 5) rfl _ rfl 24 R _ _ hp Try.underlying24 rfl hsr ?_)
        | (with_reducible refine wpList_store_z rfl 24 (.tmp 4) (.tmp 34) rfl _ rfl R rfl Z _ hq hrs hsr h1 ?_)
        | fail)
      refine bodyPost_ret (results_cell_row rfl _ _ w.heap.size 24 R (0, 0) _ rfl q1 Try.underlying24 rfl hsr) rfl ⟨by rw [HR.out], hbf⟩
set_option maxRecDepth 20000 in
set_option maxHeartbeats 4000000 in
theorem fold_min (A : Option Addr) (n c : Nat) (L : List (List Nat)) (hn : L.length = n) (hv : ∀ v ∈ L, v.length = 16) (hn2 : n ≤ 1000) (w : World) (hr : RdC w A (vecs L)) :
    Calls Try.prog 35 #[.func (.func 37) #[] #[], .slice A n c] w fun e w' => e = .returned (.agg (vC (foldK min L n))) ∧ Below w.heap.size w w' := by
  subst hn
  obtain ⟨Z, hz0, hZs, hZ1, HZ⟩ : ∃ Z : Array Value, (Try.prog.info? 24).bind (fun i => i.zero.map Value.cells) = some Z ∧ Z.size = 16 ∧ (∀ u ∈ Z.toList, u.oneCell' = true) ∧ Hid (Z = vC z16) := ⟨vC z16, zero_vec, by rw [vC_size]; rfl, vC_one z16, rfl⟩
  have hsi : (Try.prog.info? 24).map (·.size) = some Z.size := by rw [hZs]; exact size_vec
  have hg2 : ((w.alloc (.cells Z 24)).alloc (.cells Z 24)).heap[w.heap.size + 1]? = some (.cells Z 24 (0, 0)) := heap_alloc2_new _ _ _
  have hg3 : ((w.alloc (.cells Z 24)).alloc (.cells Z 24)).heap[w.heap.size]? = some (.cells Z 24 (0, 0)) := heap_alloc2_old _ _ _
  have hb2 : Below w.heap.size w ((w.alloc (.cells Z 24)).alloc (.cells Z 24)) := ((Below.refl _ w).alloc (Nat.le_refl _) _).alloc (by simp) _
  have HS := Lib.hid hZs
  clear hZs
  go_enter Try.func35, Try.ntmps35
  go_wp2_with (first
    | (with_reducible refine wpList_alloc_z rfl 24 rfl Z hz0 ?_)
    | fail)
  obtain ⟨w1, hw1⟩ : ∃ w1, w1 = (w.alloc (.cells Z 24)).alloc (.cells Z 24) := ⟨_, rfl⟩
  rw [← hw1] at hb2 hg2 hg3 ⊢
  clear hw1
  go_loopw [11] (fun i wr => ∃ k : Nat, k ≤ L.length ∧ i = .int .i64 k ∧ wr.heap[w.heap.size + 1]? = some (.cells (vC (foldK min L k)) 24 (0, 0)) ∧ wr.heap[w.heap.size]? = some (.cells Z 24 (0, 0)) ∧ Below w.heap.size w wr) (fun i _ => L.length - (intOf i).toNat)
  case atStart => exact ⟨0, by omega, rfl, by rw [show foldK min L 0 = z16 from rfl, ← HZ.out]; exact hg2, hg3, hb2⟩
  case round =>
    obtain ⟨k, hk, rfl, hp, hq, hbr⟩ := hrel
    by_cases hlt : k < L.length
    · obtain ⟨v, hvk⟩ : ∃ v, v = L[k] := ⟨_, rfl⟩
      have hvl : v.length = 16 := by rw [hvk]; exact hv _ (List.getElem_mem _)
      have hvg : L.getD k [] = v := by rw [hvk, List.getD_eq_getElem?_getD, List.getElem?_eq_getElem hlt]; rfl
      obtain ⟨ad, rfl, hx0⟩ := hr (k * 16 + 0) _ (vecs_get L hv k 0 hlt (by omega) (by rw [← hvk]; omega))
      have hcell : ∀ j (hj : j < v.length), wr.cell? ((ad.add (k * 16)).add j) = some (.int .u32 (v[j] : Int)) := fun j hj => by
        subst hvk
        obtain ⟨_, e, h⟩ := hr (k * 16 + j) _ (vecs_get L hv k j hlt (by omega) hj)
        cases e
        rw [addr_add_add, hbr.cell (World.block_lt_of_cell? w _ h)]
        exact h
      have HVG := Lib.hid hvg
      clear hx0 hvg hvk hr
      have hld := load_vec wr (ad.add (k * 16)) v hvl hcell
      clear hcell
      have q0 : (wr.alloc (.cells Z 24)).heap[wr.heap.size]? = some (.cells Z 24 (0, 0)) := heap_alloc_new _ _
      have hvs : (vC v).size = Z.size := by rw [vC_size, hvl, HS.out]
      have hsv : (Try.prog.info? 24).map (·.size) = some (vC v).size := by rw [vC_size, hvl]; exact size_vec
      have hbx : Below wr.heap.size wr ((wr.alloc (.cells Z 24)).setRow wr.heap.size (vC v)) := below_setRow ((Below.refl _ wr).alloc (Nat.le_refl _) _) (Nat.le_refl _) _
      have q1 := setRow_heap _ wr.heap.size Z (vC v) _ _ q0
      have pz := lt_of_get hp
      have qz := lt_of_get hq
      have p1 := (hbx.block _ pz).trans hp
      have p2 := (hbx.block _ qz).trans hq
      have hb3 := below_then hbr hbx (Nat.le_refl _)
      have hol := foldK_length min L hv k hk
      have hvs1 := vC_one v
      obtain ⟨V, hV⟩ : ∃ V, V = vC v := ⟨_, rfl⟩
      by_cases h0 : k = 0
      case' pos =>
        have h0d : ((k : Int) == 0) = true := by simp [h0]
        have r1 := setRow_heap _ (w.heap.size + 1) _ (vC v) _ _ p1
        have r2 := (setRow_other ((wr.alloc (.cells Z 24)).setRow wr.heap.size (vC v)) (w.heap.size + 1) wr.heap.size (vC v) (by omega)).trans q1
        have r3 := (setRow_other ((wr.alloc (.cells Z 24)).setRow wr.heap.size (vC v)) (w.heap.size + 1) w.heap.size (vC v) (by omega)).trans p2
        have r4 := below_setRow hb3 (show w.heap.size ≤ w.heap.size + 1 by omega) (vC v)
        have HO : Hid (v = if k = 0 then L.getD k [] else foldK min L k) := by show v = _; rw [if_pos h0]; exact HVG.out.symm
        have H0 := Lib.hid h0
        clear h0
        go_wp2_with (first
          | (with_reducible refine wpList_load_at rfl 24 (.tmp 14) rfl _ rfl _ hld ?_)
          | (with_reducible refine wpList_alloc_z rfl 24 rfl Z hz0 ?_)
          | (with_reducible refine wpList_store_z rfl 24 (.tmp 7) (.tmp 15) rfl _ rfl (vC v) rfl Z _ q0 hvs hsv hvs1 ?_)
          | (with_reducible refine wpList_load_row rfl 24 (.tmp 7) rfl _ rfl 24 (vC v) _ _ q1 Try.underlying24 rfl hsv ?_)
          | (with_reducible refine wpList_store_z rfl 24 (.tmp 5) (.tmp 18) rfl _ rfl (vC v) rfl _ _ p1 (by rw [vC_size, vC_size, hol, hvl]) hsv hvs1 ?_)
          | fail)
        replace hol := hvl
        replace p1 := r1
        replace q1 := r2
        replace p2 := r3
        replace hb3 := r4
        clear r1 r2 r3 r4 hld hbx q0
        generalize (((wr.alloc (.cells Z 24)).setRow wr.heap.size (vC v)).setRow (w.heap.size + 1) (vC v)) = wi at *
        obtain ⟨o, ho⟩ : ∃ o, o = v := ⟨_, rfl⟩
        rw [← ho] at HO hol
        rw [show vC v = vC o by rw [ho]] at p1
        clear ho
      case' neg =>
        have h0d : ((k : Int) == 0) = false := by simp [h0]
        have HO : Hid (foldK min L k = if k = 0 then L.getD k [] else foldK min L k) := by show _ = _; rw [if_neg h0]
        have H0 := Lib.hid h0
        clear h0
        go_wp2_with (first
          | (with_reducible refine wpList_load_at rfl 24 (.tmp 14) rfl _ rfl _ hld ?_)
          | (with_reducible refine wpList_alloc_z rfl 24 rfl Z hz0 ?_)
          | (with_reducible refine wpList_store_z rfl 24 (.tmp 7) (.tmp 15) rfl _ rfl (vC v) rfl Z _ q0 hvs hsv hvs1 ?_)
          | fail)
        clear hld hbx q0
        generalize (wr.alloc (.cells Z 24)).setRow wr.heap.size (vC v) = wi at *
        obtain ⟨o, ho⟩ : ∃ o, o = foldK min L k := ⟨_, rfl⟩
        rw [← ho] at hol p1
        replace HO : Hid (o = if k = 0 then L.getD k [] else foldK min L k) := by show _ = _; rw [ho]; exact HO.out
        clear ho
      all_goals
        clear hp hq hbr
        generalize wr.heap.size = g at *
        go_loopw [19] (fun i wx => ∃ j : Nat, j ≤ 16 ∧ i = .int .i64 j ∧ wx.heap[w.heap.size + 1]? = some (.cells (vC (mixK min o v j)) 24 (0, 0)) ∧ wx.heap[g]? = some (.cells (vC v) 24 (0, 0)) ∧ wx.heap[w.heap.size]? = some (.cells Z 24 (0, 0)) ∧ Below w.heap.size w wx) (fun i _ => 16 - (intOf i).toNat)
        case atStart => exact ⟨0, by omega, rfl, by rw [mixK_zero]; exact p1, q1, p2, hb3⟩
        case round =>
          clear p1 q1 p2 hb3
          obtain ⟨j, hj, rfl, hp, hx, hq, hbr⟩ := hrel
          by_cases hjt : j < 16
          · have jo : j < o.length := by omega
            have jv : j < v.length := by omega
            have hml := mixK_length min o v hol hvl j (by omega)
            have cellp : wr.cell? ⟨w.heap.size + 1, j, none⟩ = some (.int .u32 (o[j] : Int)) := by
              rw [cell_of_row _ _ _ _ _ _ hp, vC_get _ _ (by omega), mixK_get min o v hol hvl j hjt]
            have cellx : wr.cell? ⟨g, j, none⟩ = some (.int .u32 (v[j] : Int)) := by
              rw [cell_of_row _ _ _ _ _ _ hx, vC_get _ _ jv]
            have hfro : wr.frozen? ⟨w.heap.size + 1, j, none⟩ = false := frozen_of_row wr _ j _ _ hp
            have HN : Hid ((mixK min o v j).set j (min o[j] v[j]) = mixK min o v (j + 1)) := mixK_step min o v hol hvl j hjt
            obtain ⟨z, hz⟩ : ∃ z, min o[j] v[j] = z := ⟨_, rfl⟩
            rw [hz] at HN
            generalize o[j] = x at *
            generalize v[j] = y at *
            have k0 : (0 : Int) ≤ j := by omega
            have k1 : (j : Int) < 16 := by omega
            have hup : ∀ (W : World) (p : Addr) (u : Value), Below wr.heap.size wr W → wr.cell? p = some u → W.cell? p = some u := fun W p u h hc => (h.cell (World.block_lt_of_cell? wr _ hc)).trans hc
            clear hml jo jv
            go_wp2_with fail
            refine foldminG (w.heap.size + 1) g j x y z wr k0 k1 hz (fun W h => hup W _ _ h cellp) (fun W h => hup W _ _ h cellx) (fun W h => (h.frozen (World.block_lt_of_cell? wr _ cellp)).trans hfro) fun wy hby => ?_
            have hnew := heap_setCell_same wy (w.heap.size + 1) j (vC (mixK min o v j)) _ (.int .u32 (z : Int)) ((hby.block _ (lt_of_get hp)).trans hp)
            rw [← vC_set, HN.out] at hnew
            have hold : (wy.setCell ⟨w.heap.size + 1, j, none⟩ (.int .u32 (z : Int))).heap[w.heap.size]? = some (.cells Z 24 (0, 0)) := by rw [heap_setCell_other _ _ _ _ (by simp)]; exact (hby.block _ (lt_of_get hq)).trans hq
            have hxn : (wy.setCell ⟨w.heap.size + 1, j, none⟩ (.int .u32 (z : Int))).heap[g]? = some (.cells (vC v) 24 (0, 0)) := by rw [heap_setCell_other _ _ _ _ (by simp; omega)]; exact (hby.block _ (lt_of_get hx)).trans hx
            have hbn := (below_then hbr hby (Nat.le_refl _)).setCell (p := ⟨w.heap.size + 1, j, none⟩) (show w.heap.size ≤ w.heap.size + 1 by omega) (.int .u32 (z : Int))
            clear hp hx hq
            go_wp2
            exact ⟨⟨j + 1, by omega, by go_num, hnew, hxn, hold, hbn⟩, by simp [intOf]; omega⟩
          · obtain rfl : j = 16 := by omega
            rw [mixK_full min o v hol hvl, HO.out, ← HVG.out, ← foldK_step] at hp
            clear hx HO HVG
            go_wp2_with fail
            go_roundw
            case rel => exact ⟨k + 1, by omega, by go_num, hp, hq, hbr⟩
            case measure => simp [intOf]; omega
    · obtain rfl : k = L.length := by omega
      have hol := foldK_length min L hv _ hk
      have hsr : (Try.prog.info? 24).map (·.size) = some (vC (foldK min L L.length)).size := by rw [vC_size, hol]; exact size_vec
      have q1 := setRow_heap _ w.heap.size Z (vC (foldK min L L.length)) _ _ hq
      have hbf := below_setRow hbr (Nat.le_refl _) (vC (foldK min L L.length))
      have hrs : (vC (foldK min L L.length)).size = Z.size := by rw [vC_size, hol, HS.out]
      have h1 := vC_one (foldK min L L.length)
      obtain ⟨R, hR⟩ : ∃ R, vC (foldK min L L.length) = R := ⟨_, rfl⟩
      rw [hR] at hp hsr q1 hbf hrs h1
      have HR := Lib.hid hR
      clear hR
      go_wp2_with (first
        | (with_reducible refine wpList_load_row rfl 24 (.tmp 5) rfl _ rfl 24 R _ _ hp Try.underlying24 rfl hsr ?_)
        | (with_reducible refine wpList_store_z rfl 24 (.tmp 4) (.tmp 34) rfl _ rfl R rfl Z _ hq hrs hsr h1 ?_)
        | fail)
      refine bodyPost_ret (results_cell_row rfl _ _ w.heap.size 24 R (0, 0) _ rfl q1 Try.underlying24 rfl hsr) rfl ⟨by rw [HR.out], hbf⟩
end Go.Proofs.Ytfifbjlmbdgmjaa
