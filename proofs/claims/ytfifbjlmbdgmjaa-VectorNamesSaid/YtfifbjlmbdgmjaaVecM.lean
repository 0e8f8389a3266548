/- Vectors: lists of vectors as literals; Merge, Meet, and what is between two vectors. -/
import Derived.Test.YtfifbjlmbdgmjaaVecG
import Derived.Great.Walk
namespace Go.Proofs.Ytfifbjlmbdgmjaa
open Go.RowKit Go.Great

theorem zero_cells : (Try.prog.info? 24).map (fun i => (i.zero.map Value.cells, i.size)) = some (some (vC z16), 16) := by kernel_rfl
/-- A literal of vectors. -/
theorem built_vecs (L : List (List Nat)) (h : ∀ v ∈ L, v.length = 16) (h0 : 0 < L.length) (h1 : L.length ≤ 1000) (parts : List (Nat × Value)) (hp : parts = ((L.map fun v => Value.agg (vC v)).zipIdx 0).map fun x => (x.2, x.1)) :
    Try.prog.builtSlice 24 L.length parts = some (vecs L).toArray := by
  obtain ⟨ie, hie, hzc⟩ : ∃ ie, Try.prog.info? 24 = some ie ∧ (ie.zero.map Value.cells, ie.size) = (some (vC z16), 16) := by
    have := zero_cells
    cases hq : Try.prog.info? 24 with
    | none => rw [hq] at this; cases this
    | some i => rw [hq] at this; exact ⟨i, rfl, by simpa using this⟩
  obtain ⟨hz, hs⟩ := Prod.mk.inj hzc
  unfold Program.builtSlice
  rw [hie]
  simp only []
  cases hzz : ie.zero with
  | none => rw [hzz] at hz; cases hz
  | some z =>
    simp only []
    rw [hs, if_neg (by omega), hp]
    have hm : ∀ v ∈ L.map (fun v => Value.agg (vC v)), v.cells.size = 16 := fun v hv => by
      obtain ⟨u, hu, rfl⟩ := List.mem_map.1 hv
      show (vC u).size = 16
      rw [vC_size, h u hu]
    rw [Great.fill_whole (s := 16) (by omega) _ _ hm (by simp)]
    congr 1
    apply Array.ext'
    simp [vecs, List.flatMap, Value.cells, Function.comp_def]
theorem wpList_vecs2 {ops : Array Oper} {rest : List Oper} {o : Oper} {c : Act} {w : World} {Q : Exit → Act → World → Prop} (hw : Region.wanted o (yielded ops c.tmps) = true) (x y : Operand) (ho : o.op = .buildSlice 43 2 #[(0, x), (1, y)]) (d : Option Tmp) (hd : o.dst = d) (a b : List Nat) (ha : a.length = 16) (hb : b.length = 16) (hx : c.eval x = .agg (vC a)) (hy : c.eval y = .agg (vC b)) (N : Nat) (hN : w.heap.size = N)
    (h : wpList Try.prog ops Q rest (c.put d (.slice (some ⟨N, 0, none⟩) 2 2)) (w.alloc (.cells (vecs [a, b]).toArray 24))) : wpList Try.prog ops Q (o :: rest) c w := by
  subst hd hN
  refine wpList_step fun K hK => ?_
  rw [if_pos hw]
  have hf := built_vecs [a, b] (by simp [ha, hb]) (by simp) (by simp) (#[(0, x), (1, y)].map fun (i, x) => (i, c.eval x)).toList (by simp [hx, hy])
  unfold Program.builtSlice at hf
  cases hie : Try.prog.info? 24 with
  | none => simp [hie] at hf
  | some ie =>
    simp only [hie] at hf
    cases hz : ie.zero with
    | none => simp [hz] at hf
    | some z =>
      simp only [hz] at hf
      by_cases hc : [a, b].length * ie.size > 2 ^ 24 ∨ [a, b].length * ie.size = 0
      · simp only [hc, if_true] at hf; cases hf
      · rw [if_neg hc] at hf
        exact wp_buildSlice 43 24 2 _ ho _ ie z Try.underlying43 hie hz (fun h' => hc (Or.inl h')) (fun h' => hc (Or.inr h')) hf (hK _ _ h)
theorem rd_vecs {w : World} {g : Nat} {L : List (List Nat)} {t : TypeId} {fr : Nat × Nat} (h : w.heap[g]? = some (.cells (vecs L).toArray t fr)) : RdC w (some ⟨g, 0, none⟩) (vecs L) := fun j u hj => by
  refine ⟨_, rfl, ?_⟩
  rw [addr_add_plain, Nat.zero_add, cell_of_row _ _ j _ _ _ h, ← hj]
  simp
/-- Merged, met. -/
def maxV (a b : List Nat) : List Nat := List.zipWith max a b
def minV (a b : List Nat) : List Nat := List.zipWith min a b
theorem merge_row (A : Option Addr) (n c : Nat) (L : List (List Nat)) (hn : L.length = n) (hv : ∀ v ∈ L, v.length = 16) (hn2 : n ≤ 1000) (w : World) (hr : RdC w A (vecs L)) :
    Calls Try.prog 11 #[.slice A n c] w fun e w' => e = .returned (.agg (vC (foldK max L n))) ∧ Below w.heap.size w w' := by
  obtain ⟨Z, hz0, hZs, hZ1, HZ⟩ : ∃ Z : Array Value, (Try.prog.info? 24).bind (fun i => i.zero.map Value.cells) = some Z ∧ Z.size = 16 ∧ (∀ u ∈ Z.toList, u.oneCell' = true) ∧ Hid (Z = vC z16) := ⟨vC z16, zero_vec, by rw [vC_size]; rfl, vC_one z16, rfl⟩
  have hol := foldK_length max L hv n (by omega)
  have hsr : (Try.prog.info? 24).map (·.size) = some (vC (foldK max L n)).size := by rw [vC_size, hol]; exact size_vec
  have hrs : (vC (foldK max L n)).size = Z.size := by rw [vC_size, hol, hZs]
  have h1 := vC_one (foldK max L n)
  have q := fold_max A n c L hn hv hn2 (w.alloc (.cells Z 24)) (hr.alloc _)
  have g0 : (w.alloc (.cells Z 24)).heap[w.heap.size]? = some (.cells Z 24 (0, 0)) := heap_alloc_new _ _
  have hb0 : Below w.heap.size w (w.alloc (.cells Z 24)) := (Below.refl _ w).alloc (Nat.le_refl _) _
  generalize vC (foldK max L n) = R at *
  go_enter Try.func11, Try.ntmps11
  go_wp2_with (first
    | (with_reducible refine wpList_alloc_z rfl 24 rfl Z hz0 ?_)
    | fail)
  refine q.mono ?_
  rintro e w' ⟨rfl, hb⟩
  have hq := (hb.block w.heap.size (lt_of_get g0)).trans g0
  have hb2 := below_then hb0 hb (Nat.le_refl _)
  have q1 := setRow_heap _ w.heap.size Z R _ _ hq
  have hbf := below_setRow hb2 (Nat.le_refl _) R
  go_wp2_with (first
    | (with_reducible refine wpList_store_z rfl 24 (.tmp 2) (.tmp 4) rfl _ rfl R rfl Z _ hq hrs hsr h1 ?_)
    | fail)
  refine bodyPost_ret (results_cell_row rfl _ _ w.heap.size 24 R (0, 0) _ rfl q1 Try.underlying24 rfl hsr) rfl ⟨rfl, hbf⟩
theorem meet_row (A : Option Addr) (n c : Nat) (L : List (List Nat)) (hn : L.length = n) (hv : ∀ v ∈ L, v.length = 16) (hn2 : n ≤ 1000) (w : World) (hr : RdC w A (vecs L)) :
    Calls Try.prog 12 #[.slice A n c] w fun e w' => e = .returned (.agg (vC (foldK min L n))) ∧ Below w.heap.size w w' := by
  obtain ⟨Z, hz0, hZs, hZ1, HZ⟩ : ∃ Z : Array Value, (Try.prog.info? 24).bind (fun i => i.zero.map Value.cells) = some Z ∧ Z.size = 16 ∧ (∀ u ∈ Z.toList, u.oneCell' = true) ∧ Hid (Z = vC z16) := ⟨vC z16, zero_vec, by rw [vC_size]; rfl, vC_one z16, rfl⟩
  have hol := foldK_length min L hv n (by omega)
  have hsr : (Try.prog.info? 24).map (·.size) = some (vC (foldK min L n)).size := by rw [vC_size, hol]; exact size_vec
  have hrs : (vC (foldK min L n)).size = Z.size := by rw [vC_size, hol, hZs]
  have h1 := vC_one (foldK min L n)
  have q := fold_min A n c L hn hv hn2 (w.alloc (.cells Z 24)) (hr.alloc _)
  have g0 : (w.alloc (.cells Z 24)).heap[w.heap.size]? = some (.cells Z 24 (0, 0)) := heap_alloc_new _ _
  have hb0 : Below w.heap.size w (w.alloc (.cells Z 24)) := (Below.refl _ w).alloc (Nat.le_refl _) _
  generalize vC (foldK min L n) = R at *
  go_enter Try.func12, Try.ntmps12
  go_wp2_with (first
    | (with_reducible refine wpList_alloc_z rfl 24 rfl Z hz0 ?_)
    | fail)
  refine q.mono ?_
  rintro e w' ⟨rfl, hb⟩
  have hq := (hb.block w.heap.size (lt_of_get g0)).trans g0
  have hb2 := below_then hb0 hb (Nat.le_refl _)
  have q1 := setRow_heap _ w.heap.size Z R _ _ hq
  have hbf := below_setRow hb2 (Nat.le_refl _) R
  go_wp2_with (first
    | (with_reducible refine wpList_store_z rfl 24 (.tmp 2) (.tmp 4) rfl _ rfl R rfl Z _ hq hrs hsr h1 ?_)
    | fail)
  refine bodyPost_ret (results_cell_row rfl _ _ w.heap.size 24 R (0, 0) _ rfl q1 Try.underlying24 rfl hsr) rfl ⟨rfl, hbf⟩
theorem zw_self (op : Nat → Nat → Nat) (hop : ∀ a, op a a = a) (v : List Nat) : List.zipWith op v v = v := by
  induction v with
  | nil => rfl
  | cons x v ih => rw [List.zipWith_cons_cons, hop, ih]
theorem fold2 (op : Nat → Nat → Nat) (hop : ∀ a, op a a = a) (a b : List Nat) : foldK op [a, b] 2 = List.zipWith op a b := by
  simp [foldK, hop]
theorem fold3 (op : Nat → Nat → Nat) (hop : ∀ a, op a a = a) (a b c : List Nat) : foldK op [a, b, c] 3 = List.zipWith op (List.zipWith op a b) c := by
  simp [foldK, hop]
theorem vec_size {v : List Nat} (h : v.length = 16) : (Try.prog.info? 24).map (·.size) = some (vC v).size := by rw [vC_size, h]; exact size_vec
theorem maxV_length {a b : List Nat} (ha : a.length = 16) (hb : b.length = 16) : (maxV a b).length = 16 := by simp [maxV, ha, hb]
theorem minV_length {a b : List Nat} (ha : a.length = 16) (hb : b.length = 16) : (minV a b).length = 16 := by simp [minV, ha, hb]
theorem merge2 (a b : List Nat) (ha : a.length = 16) (hb : b.length = 16) (W : World) (g : Nat) (h : W.heap[g]? = some (.cells (vecs [a, b]).toArray 24 (0, 0))) :
    Calls Try.prog 11 #[.slice (some ⟨g, 0, none⟩) 2 2] W fun e w' => e = .returned (.agg (vC (maxV a b))) ∧ Below W.heap.size W w' := by
  have := merge_row _ 2 2 [a, b] rfl (by simp [ha, hb]) (by omega) W (rd_vecs h)
  rwa [fold2 max Nat.max_self] at this
theorem merge3 (a b c : List Nat) (ha : a.length = 16) (hb : b.length = 16) (hc : c.length = 16) (W : World) (g : Nat) (h : W.heap[g]? = some (.cells (vecs [a, b, c]).toArray 24 (0, 0))) :
    Calls Try.prog 11 #[.slice (some ⟨g, 0, none⟩) 3 3] W fun e w' => e = .returned (.agg (vC (maxV (maxV a b) c))) ∧ Below W.heap.size W w' := by
  have := merge_row _ 3 3 [a, b, c] rfl (by simp [ha, hb, hc]) (by omega) W (rd_vecs h)
  rwa [fold3 max Nat.max_self] at this
theorem meet2 (a b : List Nat) (ha : a.length = 16) (hb : b.length = 16) (W : World) (g : Nat) (h : W.heap[g]? = some (.cells (vecs [a, b]).toArray 24 (0, 0))) :
    Calls Try.prog 12 #[.slice (some ⟨g, 0, none⟩) 2 2] W fun e w' => e = .returned (.agg (vC (minV a b))) ∧ Below W.heap.size W w' := by
  have := meet_row _ 2 2 [a, b] rfl (by simp [ha, hb]) (by omega) W (rd_vecs h)
  rwa [fold2 min Nat.min_self] at this
theorem meet3 (a b c : List Nat) (ha : a.length = 16) (hb : b.length = 16) (hc : c.length = 16) (W : World) (g : Nat) (h : W.heap[g]? = some (.cells (vecs [a, b, c]).toArray 24 (0, 0))) :
    Calls Try.prog 12 #[.slice (some ⟨g, 0, none⟩) 3 3] W fun e w' => e = .returned (.agg (vC (minV (minV a b) c))) ∧ Below W.heap.size W w' := by
  have := meet_row _ 3 3 [a, b, c] rfl (by simp [ha, hb, hc]) (by omega) W (rd_vecs h)
  rwa [fold3 min Nat.min_self] at this
/-- Two vectors alike. -/
theorem run_eq_vec (W : World) (a b : List Nat) (ha : a.length = 16) (hb : b.length = 16) : (Op.equalIn 10000 24 (.agg (vC a)) (.agg (vC b))).run Try.prog W = .ok (decide (a = b)) W := by
  have := run_eq_ints (P := Try.prog) W 9998 24 22 16 .u32 .u32 Try.underlying24 Try.underlying22 (by kernel_rfl) (Try.isAgg22 W) (a.map fun x : Nat => (x : Int)) (b.map fun x : Nat => (x : Int)) (by simpa using ha) (by simpa using hb)
  unfold vC
  rw [this]
  congr 1
  rw [decide_eq_decide]
  constructor
  · intro h
    exact List.map_inj_right (fun x y h => Int.ofNat.inj h) |>.1 h
  · rintro rfl; rfl
end Go.Proofs.Ytfifbjlmbdgmjaa
