/- The law VectorBack, walked. -/
import Derived.Test.YtfifbjlmbdgmjaaVecGq
namespace Go.Proofs.Ytfifbjlmbdgmjaa
open Go.RowKit
attribute [local go_sem] Oper.semAt_some

theorem flat_len (xs : List Nat) (h : small xs) : ((xs.map numB).flatten).length ≤ 10 * xs.length := by
  induction xs with
  | nil => simp
  | cons x xs ih =>
    have h1 := numB_ten x (by have := h x (List.mem_cons_self ..); omega)
    have h2 := ih (fun y hy => h y (List.mem_cons_of_mem _ hy))
    rw [List.map_cons, List.flatten_cons, List.length_append, List.length_cons]
    omega
theorem encV_len (v : List Nat) (hv : VecOK v) : (encV v).length ≤ 170 := by
  have hm := manyK_le v 16
  have h1 := numB_ten (manyK v 16) (by omega)
  have h2 := flat_len (v.take (manyK v 16)) (fun x hx => hv.2 x (List.mem_of_mem_take hx))
  unfold encV
  rw [List.length_append]
  rw [List.length_take] at h2
  omega
set_option maxRecDepth 100000 in
set_option maxHeartbeats 8000000 in
theorem vectorBack_walk (v : List Nat) (A : Option Addr) (n c : Nat) (l : List UInt8) (w : World) (hv : VecOK v) (hrow : ByteRow w A n c l) :
    Calls Try.prog 8 #[.agg (vC v), .slice A n c] w fun e w' => e = .returned (.bool true) ∧ Below w.heap.size w w' := by
  obtain ⟨hl, hnc, hcm, hr⟩ := hrow
  have hcmi : (c : Int) ≤ 9223372036854775807 := by unfold maxLen at hcm; omega
  obtain ⟨w1, hw1⟩ : ∃ w1, w1 = w.alloc (.cells (vC v) 24) := ⟨_, rfl⟩
  have hb1 : Below w.heap.size w w1 := by rw [hw1]; exact (Below.refl _ _).alloc (Nat.le_refl _) _
  have h1 : w1.heap[w.heap.size]? = some (.cells (vC v) 24 (0, 0)) := by rw [hw1]; exact heap_alloc_new _ _
  by_cases h200 : 200 < n
  · have h2i : (200 : Int) < (n : Int) := by omega
    go_enter Try.func8, Try.ntmps8
    go_wp2_with fail
    rw [← hw1]
    clear hw1
    refine (alive_any w1).mono ?_
    rintro e w2 ⟨rfl, hb2⟩
    go_wp2_with fail
    go_ret
    exact ⟨rfl, below_then hb1 hb2 (Nat.le_refl _)⟩
  have h2i : ¬ (200 : Int) < (n : Int) := by omega
  obtain ⟨Z, hz0, hZs, hZ1, HZ⟩ : ∃ Z : Array Value, (Try.prog.info? 24).bind (fun i => i.zero.map Value.cells) = some Z ∧ Z.size = 16 ∧ (∀ u ∈ Z.toList, u.oneCell' = true) ∧ Hid (vC z16 = Z) := ⟨vC z16, zero_vec, by rw [vC_size]; rfl, vC_one z16, rfl⟩
  have zv := vec_size hv.1
  have hvz : (vC v).size = Z.size := by rw [vC_size, hv.1, hZs]
  have Evv := fun W => run_eq_vec W v v hv.1 hv.1
  go_enter Try.func8, Try.ntmps8
  go_wp2_with fail
  rw [← hw1]
  clear hw1
  refine (alive_any w1).mono ?_
  rintro e w2 ⟨rfl, hb12⟩
  have hb2 := below_then hb1 hb12 (Nat.le_refl _)
  have h2 := (hb12.block _ (lt_get h1)).trans h1
  have hwl : w.heap.size < w2.heap.size := lt_get h2
  clear h1 hb1 hb12
  go_wp2_with (first
    | (with_reducible refine wpList_load_row rfl 24 (.tmp 2) rfl _ rfl 24 (vC v) _ _ h2 Try.underlying24 rfl zv ?_)
    | fail)
  refine (encode_any v hv.1 hv.2 w2).mono ?_
  rintro e w3 ⟨r, rfl, hn3⟩
  obtain ⟨eA, ec, rfl, hec, hecm, _, _⟩ := RdC.of_own hn3.1
  have hel := encV_len v hv
  have ho3 := hn3.1
  have hb3 := below_then hb2 hn3.2 (Nat.le_refl _)
  have h3 := (hn3.2.block _ (lt_get h2)).trans h2
  obtain ⟨el, hell⟩ : ∃ el, (encV v).length = el := ⟨_, rfl⟩
  rw [hell] at ho3 hec hel ⊢
  have hr3 := hr.below hb3
  have hz23 := hn3.2.size
  clear hn3 h2
  go_wp2_with (first
    | (at_builtin; go_loud (refine wpList_app2 elt8 rfl (.tmp 22) (.tmp 23) rfl w2.heap.size (.slice eA el ec) el _ rfl ho3 A n c (u8v l) rfl (by rw [u8v_length]; omega) hr3 (u8v_one _) (by unfold maxLen; omega) (by omega) hz23 ?_; intro v' w4 ho4 hg4 hn4; obtain ⟨fA, fc, rfl, hfc, hfcm, hrf, _⟩ := RdC.of_own ho4))
    | fail)
  have hb4 : Below w.heap.size w w4 := hb3.grown hg4 hb3.size fun k hk => by have := (ho3.lt k hk).1; omega
  have h4 := (hg4.block _ (lt_get h3) (fun e => by have := (ho3.lt _ e.symm).1; omega)).trans h3
  rw [← u8v_append] at hrf
  have hrn : (encV v ++ l).length = el + n := by rw [List.length_append, hell, hl]
  have hD := decV_encV v hv l
  clear ho3 ho4 hg4 hn4 hr3 h3
  refine (from_any fA (el + n) fc (encV v ++ l) hrn (by omega) w4 hrf).mono ?_
  rintro e w5 ⟨gs, vs, rfl, hgs, hS5, hb45, _⟩
  have hb5 := below_then hb4 hb45 (Nat.le_refl _)
  have h5 := (hb45.block _ (lt_get h4)).trans h4
  have hwg : w.heap.size < gs := Nat.lt_of_lt_of_le (lt_get h4) hgs
  have hdA := decode_any gs (encV v ++ l) vs w5 hS5
  rw [hD] at hdA
  simp only at hdA
  clear hD hrf hS5 h4
  go_wp2_with fail
  refine hdA.mono ?_
  rintro e w6 ⟨rfl, v6, hv6, hs6⟩
  have h6 := (hs6.2.block _ (lt_get h5) (by omega)).trans h5
  have hb6 := below_kept hb5 hs6.2 (fun k e => by omega)
  have hS6 := hs6.1
  clear hs6 h5 hdA
  obtain ⟨w7, hw7⟩ : ∃ w7, w7 = (w6.alloc (.cells Z 24)).setRow w6.heap.size (vC v) := ⟨_, rfl⟩
  have hb67 : Below w6.heap.size w6 w7 := by rw [hw7]; exact below_setRow ((Below.refl _ _).alloc (Nat.le_refl _) _) (Nat.le_refl _) _
  have h77 : w7.heap[w6.heap.size]? = some (.cells (vC v) 24 (0, 0)) := by rw [hw7]; exact setRow_heap _ _ _ _ _ _ (heap_alloc_new _ _)
  have hW7 := Lib.hid hw7
  clear hw7
  go_upto_region 6 with (first
    | (with_reducible refine wpList_alloc_z rfl 24 rfl Z hz0 ?_)
    | (with_reducible refine wpList_store_z rfl 24 (.tmp 7) (.tmp 29) rfl w6.heap.size rfl (vC v) rfl Z _ (heap_alloc_new _ _) hvz zv (vC_one _) ?_)
    | fail)
  rw [← hW7.out]
  have hS7 := hS6.below hb67
  have h7 := (hb67.block _ (lt_get h6)).trans h6
  have hb7 := below_then hb6 hb67 (Nat.le_refl _)
  have hleft := left_any gs v6 l w7 hS7
  rw [hl] at hleft
  have hw7l : w.heap.size < w7.heap.size := lt_get h7
  clear hS6 h6 hW7 hb67
  go_wp2_with (first
    | ((with_reducible refine wpList_load_rowW ?hw 24 (.tmp 7) rfl _ rfl 24 (vC v) _ _ h77 Try.underlying24 rfl zv ?_); case hw => rfl)
    | ((with_reducible refine wpList_load_rowW ?hw 24 (.tmp 2) rfl _ rfl 24 (vC v) _ _ h7 Try.underlying24 rfl zv ?_); case hw => rfl)
    | fail)
  refine hleft.mono ?_
  rintro e w' ⟨rfl, hw'⟩
  rw [hw']
  clear hw' hleft hS7 h7 h77
  go_wp2_with fail
  refine (from_any A n c l hl (by omega) w7 (hr.below hb7)).mono ?_
  rintro e w8 ⟨gt, vt, rfl, hgt, hS8, hb78, _⟩
  have hb8 := below_then hb7 hb78 (Nat.le_refl _)
  have hwt : w.heap.size < gt := Nat.lt_of_lt_of_le hw7l hgt
  obtain ⟨x, ee, rest, hd⟩ : ∃ x ee rest, decV l = (x, ee, rest) := ⟨_, _, _, rfl⟩
  have hx : VecOK x := by have := decV_ok l; rw [hd] at this; exact this
  have zx := vec_size hx.1
  have hxz : (vC x).size = Z.size := by rw [vC_size, hx.1, hZs]
  have hdB := decode_any gt l vt w8 hS8
  have hby : ee = 0 → l = encV x ++ rest := fun h => by have := decV_bytes (l := l) (by rw [hd]; exact h); rw [hd] at this; exact this
  have her : ee ≠ 0 → x = z16 := fun h => by have := decV_err (l := l) (by rw [hd]; exact h); rw [hd] at this; exact this
  rw [hd] at hdB
  simp only at hdB
  clear hS8 hd
  go_wp2_with fail
  refine hdB.mono ?_
  rintro e w9 ⟨rfl, v9, hv9, hs9⟩
  have hb9 := below_kept hb8 hs9.2 (fun k e => by omega)
  have hS9 := hs9.1
  clear hs9 hdB
  obtain ⟨w10, hw10⟩ : ∃ w10, w10 = (w9.alloc (.cells Z 24)).setRow w9.heap.size (vC x) := ⟨_, rfl⟩
  have hb910 : Below w9.heap.size w9 w10 := by rw [hw10]; exact below_setRow ((Below.refl _ _).alloc (Nat.le_refl _) _) (Nat.le_refl _) _
  have h10 : w10.heap[w9.heap.size]? = some (.cells (vC x) 24 (0, 0)) := by rw [hw10]; exact setRow_heap _ _ _ _ _ _ (heap_alloc_new _ _)
  have hW10 := Lib.hid hw10
  clear hw10
  go_upto_region 10 with (first
    | (with_reducible refine wpList_alloc_z rfl 24 rfl Z hz0 ?_)
    | (with_reducible refine wpList_store_z rfl 24 (.tmp 10) (.tmp 50) rfl w9.heap.size rfl (vC x) rfl Z _ (heap_alloc_new _ _) hxz zx (vC_one _) ?_)
    | fail)
  rw [← hW10.out]
  have hS10 := hS9.below hb910
  have hb10 := below_then hb9 hb910 (Nat.le_refl _)
  have hr10 := hr.below hb10
  clear hS9 hW10 hb910
  by_cases h0 : ee = 0
  · have hb := hby h0
    subst h0
    have hlen : n = (encV x).length + rest.length := by rw [← hl]; conv => lhs; rw [hb]
                                                        exact List.length_append
    have htk : l.take (encV x).length = encV x := by conv => lhs; rw [hb]
                                                     exact List.take_left
    have HT := Lib.hid htk
    have hwk : IntKind.i64.wrap ((n : Int) - (rest.length : Int)) = ((encV x).length : Int) := by rw [IntWalk.i64_in _ (by omega)]; omega
    have HW := Lib.hid hwk
    have hkc : (encV x).length ≤ c := by omega
    clear hb hby her htk hwk hlen
    go_upto_region 12 with fail
    refine vb12 w9.heap.size gt n c rest.length (encV x).length x rest v9 A w10 hx.1 hx.2 rfl (fun W hb => hS10.below hb) HW.out (fun W => run_sub_h (P := Try.prog) W 33 A n c 1 Try.underlying33 (Try.sizeOf5 W) _ (encV x).length rfl hkc) (fun W hb => str_rd (by
      have := (hr10.below hb).take (encV x).length
      rw [u8v_take, HT.out] at this
      exact this) rfl) (fun W hb => (hb.block _ (lt_get h10)).trans h10) fun w11 r63 hb11 => ?_
    go_wp2_with fail
    go_ret
    exact ⟨rfl, below_then hb10 hb11 (Nat.le_refl _)⟩
  · have hxz2 := her h0
    have hne : ((ee : Int) != 0) = true := by rw [bne_iff_ne]; omega
    clear hby her
    go_upto_region 11 with fail
    refine vb11 w9.heap.size x w10 hx.1 (by rw [hxz2]; rfl) (fun W hb => (hb.block _ (lt_get h10)).trans h10) fun w11 hb11 => ?_
    go_wp2_with fail
    go_ret
    exact ⟨rfl, below_then hb10 hb11 (Nat.le_refl _)⟩
end Go.Proofs.Ytfifbjlmbdgmjaa
