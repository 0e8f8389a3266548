/- The law VectorLattice, walked. -/
import Derived.Test.YtfifbjlmbdgmjaaVecGb
import Derived.Test.YtfifbjlmbdgmjaaVecGc
import Derived.Test.YtfifbjlmbdgmjaaVecGd
import Derived.Test.YtfifbjlmbdgmjaaVecI
namespace Go.Proofs.Ytfifbjlmbdgmjaa
open Go.RowKit

theorem vext {a b : List Nat} (ha : a.length = 16) (hb : b.length = 16) (h : ∀ k (h : k < 16), a[k] = b[k]) : a = b := List.ext_getElem (by omega) fun k h1 h2 => h k (by omega)
section
variable {a b c : List Nat} (ha : a.length = 16) (hb : b.length = 16) (hc : c.length = 16)
include ha hb
theorem lat_le1 : maxV a (maxV a b) = maxV a b := vext (by simp [maxV, ha, hb]) (by simp [maxV, ha, hb]) fun k h => by simp only [maxV, List.getElem_zipWith]; omega
theorem lat_le2 : maxV b (maxV a b) = maxV a b := vext (by simp [maxV, ha, hb]) (by simp [maxV, ha, hb]) fun k h => by simp only [maxV, List.getElem_zipWith]; omega
theorem lat_ge1 : maxV (minV a b) a = a := vext (by simp [maxV, minV, ha, hb]) ha fun k h => by simp only [maxV, minV, List.getElem_zipWith]; omega
theorem lat_ge2 : maxV (minV a b) b = b := vext (by simp [maxV, minV, ha, hb]) hb fun k h => by simp only [maxV, minV, List.getElem_zipWith]; omega
theorem lat_c1 : maxV b a = maxV a b := vext (by simp [maxV, ha, hb]) (by simp [maxV, ha, hb]) fun k h => by simp only [maxV, List.getElem_zipWith]; omega
theorem lat_c2 : minV b a = minV a b := vext (by simp [minV, ha, hb]) (by simp [minV, ha, hb]) fun k h => by simp only [minV, List.getElem_zipWith]; omega
theorem lat_ab : maxV a (minV a b) = a := vext (by simp [maxV, minV, ha, hb]) ha fun k h => by simp only [maxV, minV, List.getElem_zipWith]; omega
include hc
theorem lat_a3 : maxV (maxV c (maxV a b)) a = maxV (maxV a b) c := vext (by simp [maxV, ha, hb, hc]) (by simp [maxV, ha, hb, hc]) fun k h => by simp only [maxV, List.getElem_zipWith]; omega
theorem lat_i3 : minV (minV c (minV a b)) a = minV (minV a b) c := vext (by simp [minV, ha, hb, hc]) (by simp [minV, ha, hb, hc]) fun k h => by simp only [minV, List.getElem_zipWith]; omega
theorem lat_up : decide (maxV (maxV a b) c = c) = (decide (maxV a c = c) && decide (maxV b c = c)) := by
  have hu := maxV_length ha hb
  rw [Bool.eq_iff_iff, Bool.and_eq_true, decide_eq_true_iff, decide_eq_true_iff, decide_eq_true_iff, maxV_eq_iff _ _ hu hc, maxV_eq_iff _ _ ha hc, maxV_eq_iff _ _ hb hc]
  constructor
  · intro h
    constructor <;> intro k hk <;> have := h k hk <;> simp only [maxV, List.getElem_zipWith] at this <;> omega
  · rintro ⟨h1, h2⟩ k hk
    have a1 := h1 k hk
    have a2 := h2 k hk
    simp only [maxV, List.getElem_zipWith]
    omega
theorem lat_dn : decide (maxV c (minV a b) = minV a b) = (decide (maxV c a = a) && decide (maxV c b = b)) := by
  have hu := minV_length ha hb
  rw [Bool.eq_iff_iff, Bool.and_eq_true, decide_eq_true_iff, decide_eq_true_iff, decide_eq_true_iff, maxV_eq_iff _ _ hc hu, maxV_eq_iff _ _ hc ha, maxV_eq_iff _ _ hc hb]
  constructor
  · intro h
    constructor <;> intro k hk <;> have := h k hk <;> simp only [minV, List.getElem_zipWith] at this <;> omega
  · rintro ⟨h1, h2⟩ k hk
    have a1 := h1 k hk
    have a2 := h2 k hk
    simp only [minV, List.getElem_zipWith]
    omega
end
set_option maxRecDepth 20000 in
set_option maxHeartbeats 8000000 in
theorem lattice_list (a b c : List Nat) (ha : a.length = 16) (hb : b.length = 16) (hc : c.length = 16) (w : World) :
    Calls Try.prog 3 #[.agg (vC a), .agg (vC b), .agg (vC c)] w fun e w' => e = .returned (.bool true) ∧ Below w.heap.size w w' := by
  obtain ⟨Z, hz0, hZs⟩ : ∃ Z : Array Value, (Try.prog.info? 24).bind (fun i => i.zero.map Value.cells) = some Z ∧ Z.size = 16 := ⟨vC z16, zero_vec, by rw [vC_size]; rfl⟩
  obtain ⟨w1, hw1⟩ : ∃ w1, w1 = ((w.alloc (.cells (vC a) 24)).alloc (.cells (vC b) 24)).alloc (.cells (vC c) 24) := ⟨_, rfl⟩
  obtain ⟨g1, g2, g3, hb0⟩ : w1.heap[w.heap.size]? = some (.cells (vC a) 24 (0, 0)) ∧ w1.heap[w.heap.size + 1]? = some (.cells (vC b) 24 (0, 0)) ∧ w1.heap[w.heap.size + 1 + 1]? = some (.cells (vC c) 24 (0, 0)) ∧ Below w.heap.size w w1 := by
    subst hw1
    have k1 := heap_alloc2_old w (.cells (vC a) 24) (.cells (vC b) 24)
    have k2 := heap_alloc2_new w (.cells (vC a) 24) (.cells (vC b) 24)
    have k3 := heap_alloc_new ((w.alloc (.cells (vC a) 24)).alloc (.cells (vC b) 24)) (.cells (vC c) 24)
    have kb := (Below.refl ((w.alloc (.cells (vC a) 24)).alloc (.cells (vC b) 24)).heap.size ((w.alloc (.cells (vC a) 24)).alloc (.cells (vC b) 24))).alloc (Nat.le_refl _) (.cells (vC c) 24)
    refine ⟨(kb.block _ (lt_of_get k1)).trans k1, (kb.block _ (lt_of_get k2)).trans k2, ?_, (((Below.refl _ w).alloc (Nat.le_refl _) _).alloc (by simp) _).alloc (by simp; omega) _⟩
    simpa using k3
  have hu := maxV_length ha hb
  have hl := minV_length ha hb
  have hx := maxV_length hu hc
  have hy := minV_length hl hc
  have d1 := lat_le1 ha hb
  have d2 := lat_le2 ha hb
  have d3 := lat_ge1 ha hb
  have d4 := lat_ge2 ha hb
  have e1 := lat_c1 ha hb
  have e2 := lat_c2 ha hb
  have e3 := lat_a3 ha hb hc
  have e4 := lat_i3 ha hb hc
  have e5 : maxV a a = a := zw_self max Nat.max_self a
  have e6 : minV a a = a := zw_self min Nat.min_self a
  have e8 := lat_ab ha hb
  have e9 := lat_up ha hb hc
  have e10 := lat_dn ha hb hc
  obtain ⟨x, mx⟩ : ∃ x, Hid (maxV (maxV a b) c = x) := ⟨_, rfl⟩
  obtain ⟨y, my⟩ : ∃ y, Hid (minV (minV a b) c = y) := ⟨_, rfl⟩
  obtain ⟨u, mu⟩ : ∃ u, Hid (maxV a b = u) := ⟨_, rfl⟩
  obtain ⟨l, ml⟩ : ∃ l, Hid (minV a b = l) := ⟨_, rfl⟩
  rw [mx.out] at hx e3
  rw [my.out] at hy e4
  rw [mu.out] at hu d1 d2 e1 e3 e9
  rw [ml.out] at hl d3 d4 e2 e4 e8 e10
  have za := vec_size ha
  have zb := vec_size hb
  have zu := vec_size hu
  have zl := vec_size hl
  go_enter Try.func3, Try.ntmps3
  go_wp2_with fail
  rw [← hw1]
  clear hw1
  have hup : ∀ (w0 W : World) g o, Below w0.heap.size w0 W → w0.heap[g]? = some o → W.heap[g]? = some o := fun w0 W g o h hg => (h.block _ (lt_of_get hg)).trans hg
  refine (alive_any w1).mono ?_
  rintro e w2 ⟨rfl, h2⟩
  replace g1 := hup _ _ _ _ h2 g1
  replace g2 := hup _ _ _ _ h2 g2
  replace g3 := hup _ _ _ _ h2 g3
  replace hb0 := below_then hb0 h2 (Nat.le_refl _)
  clear h2
  go_wp2_with fail
  refine lattice2 a b u l w.heap.size (w.heap.size + 1) Z w2 ha hb hu hl mu.out ml.out hz0 hZs (fun W h => hup _ W _ _ h g1) (fun W h => hup _ W _ _ h g2) fun w3 p8 p9 r15 r19 h3 B8 g8 B9 g9 hne => ?_
  replace g1 := hup _ _ _ _ h3 g1
  replace g2 := hup _ _ _ _ h3 g2
  replace g3 := hup _ _ _ _ h3 g3
  replace hb0 := below_then hb0 h3 (Nat.le_refl _)
  clear h3 B8 B9 hne
  go_wp2_with (first
    | ((with_reducible refine wpList_load_rowW ?hw 24 (.tmp 3) rfl _ rfl 24 (vC a) _ _ g1 Try.underlying24 rfl za ?_); case hw => rfl)
    | ((with_reducible refine wpList_load_rowW ?hw 24 (.tmp 4) rfl _ rfl 24 (vC b) _ _ g2 Try.underlying24 rfl zb ?_); case hw => rfl)
    | ((with_reducible refine wpList_load_rowW ?hw 24 (.tmp 8) rfl _ rfl 24 (vC u) _ _ g8 Try.underlying24 rfl zu ?_); case hw => rfl)
    | ((with_reducible refine wpList_load_rowW ?hw 24 (.tmp 9) rfl _ rfl 24 (vC l) _ _ g9 Try.underlying24 rfl zl ?_); case hw => rfl)
    | fail)
  have qq := atmost_any a u ha hu w3
  rw [decide_eq_true d1] at qq
  refine qq.mono ?_
  clear qq
  rintro e w4 ⟨rfl, h4⟩
  replace g1 := hup _ _ _ _ h4 g1
  replace g2 := hup _ _ _ _ h4 g2
  replace g3 := hup _ _ _ _ h4 g3
  replace g8 := hup _ _ _ _ h4 g8
  replace g9 := hup _ _ _ _ h4 g9
  replace hb0 := below_then hb0 h4 (Nat.le_refl _)
  clear h4
  go_wp2_with (first
    | ((with_reducible refine wpList_load_rowW ?hw 24 (.tmp 3) rfl _ rfl 24 (vC a) _ _ g1 Try.underlying24 rfl za ?_); case hw => rfl)
    | ((with_reducible refine wpList_load_rowW ?hw 24 (.tmp 4) rfl _ rfl 24 (vC b) _ _ g2 Try.underlying24 rfl zb ?_); case hw => rfl)
    | ((with_reducible refine wpList_load_rowW ?hw 24 (.tmp 8) rfl _ rfl 24 (vC u) _ _ g8 Try.underlying24 rfl zu ?_); case hw => rfl)
    | ((with_reducible refine wpList_load_rowW ?hw 24 (.tmp 9) rfl _ rfl 24 (vC l) _ _ g9 Try.underlying24 rfl zl ?_); case hw => rfl)
    | fail)
  have qq := atmost_any b u hb hu w4
  rw [decide_eq_true d2] at qq
  refine qq.mono ?_
  clear qq
  rintro e w5 ⟨rfl, h5⟩
  replace g1 := hup _ _ _ _ h5 g1
  replace g2 := hup _ _ _ _ h5 g2
  replace g3 := hup _ _ _ _ h5 g3
  replace g8 := hup _ _ _ _ h5 g8
  replace g9 := hup _ _ _ _ h5 g9
  replace hb0 := below_then hb0 h5 (Nat.le_refl _)
  clear h5
  go_wp2_with (first
    | ((with_reducible refine wpList_load_rowW ?hw 24 (.tmp 3) rfl _ rfl 24 (vC a) _ _ g1 Try.underlying24 rfl za ?_); case hw => rfl)
    | ((with_reducible refine wpList_load_rowW ?hw 24 (.tmp 4) rfl _ rfl 24 (vC b) _ _ g2 Try.underlying24 rfl zb ?_); case hw => rfl)
    | ((with_reducible refine wpList_load_rowW ?hw 24 (.tmp 8) rfl _ rfl 24 (vC u) _ _ g8 Try.underlying24 rfl zu ?_); case hw => rfl)
    | ((with_reducible refine wpList_load_rowW ?hw 24 (.tmp 9) rfl _ rfl 24 (vC l) _ _ g9 Try.underlying24 rfl zl ?_); case hw => rfl)
    | fail)
  have qq := atmost_any l a hl ha w5
  rw [decide_eq_true d3] at qq
  refine qq.mono ?_
  clear qq
  rintro e w6 ⟨rfl, h6⟩
  replace g1 := hup _ _ _ _ h6 g1
  replace g2 := hup _ _ _ _ h6 g2
  replace g3 := hup _ _ _ _ h6 g3
  replace g8 := hup _ _ _ _ h6 g8
  replace g9 := hup _ _ _ _ h6 g9
  replace hb0 := below_then hb0 h6 (Nat.le_refl _)
  clear h6
  go_wp2_with (first
    | ((with_reducible refine wpList_load_rowW ?hw 24 (.tmp 3) rfl _ rfl 24 (vC a) _ _ g1 Try.underlying24 rfl za ?_); case hw => rfl)
    | ((with_reducible refine wpList_load_rowW ?hw 24 (.tmp 4) rfl _ rfl 24 (vC b) _ _ g2 Try.underlying24 rfl zb ?_); case hw => rfl)
    | ((with_reducible refine wpList_load_rowW ?hw 24 (.tmp 8) rfl _ rfl 24 (vC u) _ _ g8 Try.underlying24 rfl zu ?_); case hw => rfl)
    | ((with_reducible refine wpList_load_rowW ?hw 24 (.tmp 9) rfl _ rfl 24 (vC l) _ _ g9 Try.underlying24 rfl zl ?_); case hw => rfl)
    | fail)
  have qq := atmost_any l b hl hb w6
  rw [decide_eq_true d4] at qq
  refine qq.mono ?_
  clear qq
  rintro e w7 ⟨rfl, h7⟩
  replace g1 := hup _ _ _ _ h7 g1
  replace g2 := hup _ _ _ _ h7 g2
  replace g3 := hup _ _ _ _ h7 g3
  replace g8 := hup _ _ _ _ h7 g8
  replace g9 := hup _ _ _ _ h7 g9
  replace hb0 := below_then hb0 h7 (Nat.le_refl _)
  clear h7
  go_wp2_with fail
  obtain ⟨p, f1⟩ : ∃ p, decide (maxV a c = c) = p := ⟨_, rfl⟩
  obtain ⟨q, f2⟩ : ∃ p, decide (maxV b c = c) = p := ⟨_, rfl⟩
  obtain ⟨r, f4⟩ : ∃ p, decide (maxV c a = a) = p := ⟨_, rfl⟩
  obtain ⟨s, f5⟩ : ∃ p, decide (maxV c b = b) = p := ⟨_, rfl⟩
  rw [f1, f2] at e9
  rw [f4, f5] at e10
  cases p <;> cases r <;> simp only [Bool.true_and, Bool.false_and] at e9 e10
  case' false.false => refine lattice5_ff a b c u l w.heap.size (w.heap.size + 1) (w.heap.size + 1 + 1) p8 p9 q s w7 ha hb hc hu hl f1 f2 e9 f4 f5 e10 (fun W h => hup _ W _ _ h g1) (fun W h => hup _ W _ _ h g2) (fun W h => hup _ W _ _ h g3) (fun W h => hup _ W _ _ h g8) (fun W h => hup _ W _ _ h g9) fun w8 h8 => ?_
  case' false.true => refine lattice5_ft a b c u l w.heap.size (w.heap.size + 1) (w.heap.size + 1 + 1) p8 p9 q s w7 ha hb hc hu hl f1 f2 e9 f4 f5 e10 (fun W h => hup _ W _ _ h g1) (fun W h => hup _ W _ _ h g2) (fun W h => hup _ W _ _ h g3) (fun W h => hup _ W _ _ h g8) (fun W h => hup _ W _ _ h g9) fun w8 h8 => ?_
  case' true.false => refine lattice5_tf a b c u l w.heap.size (w.heap.size + 1) (w.heap.size + 1 + 1) p8 p9 q s w7 ha hb hc hu hl f1 f2 e9 f4 f5 e10 (fun W h => hup _ W _ _ h g1) (fun W h => hup _ W _ _ h g2) (fun W h => hup _ W _ _ h g3) (fun W h => hup _ W _ _ h g8) (fun W h => hup _ W _ _ h g9) fun w8 h8 => ?_
  case' true.true => refine lattice5_tt a b c u l w.heap.size (w.heap.size + 1) (w.heap.size + 1 + 1) p8 p9 q s w7 ha hb hc hu hl f1 f2 e9 f4 f5 e10 (fun W h => hup _ W _ _ h g1) (fun W h => hup _ W _ _ h g2) (fun W h => hup _ W _ _ h g3) (fun W h => hup _ W _ _ h g8) (fun W h => hup _ W _ _ h g9) fun w8 h8 => ?_
  all_goals
    replace g1 := hup _ _ _ _ h8 g1
    replace g2 := hup _ _ _ _ h8 g2
    replace g3 := hup _ _ _ _ h8 g3
    replace g8 := hup _ _ _ _ h8 g8
    replace g9 := hup _ _ _ _ h8 g9
    replace hb0 := below_then hb0 h8 (Nat.le_refl _)
    clear h8
    go_wp2_with fail
    refine lattice7 a b c x y w.heap.size (w.heap.size + 1) (w.heap.size + 1 + 1) Z w8 ha hb hc hx hy mx.out my.out hz0 hZs (fun W h => hup _ W _ _ h g1) (fun W h => hup _ W _ _ h g2) (fun W h => hup _ W _ _ h g3) fun w9 p10 p11 r72 r77 h9 B10 g10 B11 g11 hne => ?_
    replace g1 := hup _ _ _ _ h9 g1
    replace g2 := hup _ _ _ _ h9 g2
    replace g3 := hup _ _ _ _ h9 g3
    replace g8 := hup _ _ _ _ h9 g8
    replace g9 := hup _ _ _ _ h9 g9
    replace hb0 := below_then hb0 h9 (Nat.le_refl _)
    clear h9 B10 B11 hne
    go_wp2_with fail
    refine lattice8 a b c u l x y w.heap.size (w.heap.size + 1) (w.heap.size + 1 + 1) p8 p9 p10 p11 w9 ha hb hc hu hl hx hy e1 e2 e3 e4 e5 e6 ml.out e8 (fun W h => hup _ W _ _ h g1) (fun W h => hup _ W _ _ h g2) (fun W h => hup _ W _ _ h g3) (fun W h => hup _ W _ _ h g8) (fun W h => hup _ W _ _ h g9) (fun W h => hup _ W _ _ h g10) (fun W h => hup _ W _ _ h g11) fun w10 => ?_
    intros
    rename_i h10
    go_wp2_with fail
    go_ret
    exact ⟨rfl, below_then hb0 h10 (Nat.le_refl _)⟩
theorem vectorLattice_walk (a b c : List Nat) (w : World) (ha : VecOK a) (hb : VecOK b) (hc : VecOK c) :
    Calls Try.prog 3 #[.agg (vC a), .agg (vC b), .agg (vC c)] w fun e w' => e = .returned (.bool true) ∧ Below w.heap.size w w' := lattice_list a b c ha.1 hb.1 hc.1 w
end Go.Proofs.Ytfifbjlmbdgmjaa
