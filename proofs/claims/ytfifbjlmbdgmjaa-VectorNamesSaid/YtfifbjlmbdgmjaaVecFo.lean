/- The law VectorForms, walked. -/
import Derived.Test.YtfifbjlmbdgmjaaVecGp
namespace Go.Proofs.Ytfifbjlmbdgmjaa
open Go.RowKit
attribute [local go_sem] Oper.semAt_some

theorem Src.offNo {t t' : TypeId} {g b : Nat} {v : Value} {l : List UInt8} {W W' : World} {cs : Array Value} {fr : Nat × Nat} (h : Src t g v l W) (hV : W.heap[b]? = some (.cells cs t' fr)) (hc : ∀ u ∈ cs.toList, ∀ x, u ≠ .int .u8 x) (hg : g ≠ b) (ho : ∀ k, k ≠ b → k < W.heap.size → W'.heap[k]? = W.heap[k]?) : Src t g v l W' := by
  obtain ⟨h1, A, c, h2, h3, h4, h5, h6⟩ := h
  refine ⟨(ho g hg (lt_get h1)).trans h1, A, c, h2, h3, h4, fun j u hj => ?_, h6⟩
  obtain ⟨ad, e, hcc⟩ := h5 j u hj
  have hlt := World.block_lt_of_cell? W _ hcc
  refine ⟨ad, e, (World.cell?_of_block (w := W) (w' := W') (ho _ (fun e2 => ?_) hlt)).trans hcc⟩
  rw [addr_add_block] at e2
  have hjl : j < l.length := by have := (List.getElem?_eq_some_iff.1 hj).1; rwa [u8v_length] at this
  rw [u8v_get l j hjl] at hj
  cases hj
  have hoff : (ad.add j).spot = none := by
    cases hs : (ad.add j).spot with
    | none => rfl
    | some s => simp [World.cell?, hs, addr_add_block, e2, hV] at hcc
  have hcell : W.cell? (ad.add j) = cs[(ad.add j).off]? := by
    have : ad.add j = ⟨b, (ad.add j).off, none⟩ := by rw [← hoff, ← e2, ← addr_add_block ad j]
    rw [this, cell_of_row _ _ _ _ _ _ hV]
  rw [hcell] at hcc
  exact hc _ (by have := Array.mem_of_getElem? hcc; simpa using this) _ rfl
theorem str_rd {W : World} {A : Option Addr} {n c : Nat} {l : List UInt8} (h : RdC W A (u8v l)) (hl : l.length = n) : (convert 33 9 (.slice A n c)).run Try.prog W = .ok (.string (bstr l)) W := by
  subst hl
  exact run_string_of (P := Try.prog) W 33 9 5 Try.underlying33 Try.underlying5 Try.underlying9 A l c h
theorem decV_ok (l : List UInt8) : VecOK (decV l).1 := by
  unfold decV
  split
  · exact ⟨rfl, fun x hx => by have := List.eq_of_mem_replicate hx; omega⟩
  · rename_i h0
    have hN := readN_le (l := l) (m := 16) (by omega)
    split
    · exact ⟨rfl, fun x hx => by have := List.eq_of_mem_replicate hx; omega⟩
    · rename_i h1
      obtain ⟨h2, h3⟩ := decI_length (l := l.drop (readN l 16).2.2) (i := (readN l 16).1) (by omega)
      split
      · exact ⟨rfl, fun x hx => by have := List.eq_of_mem_replicate hx; omega⟩
      · refine ⟨padV_length _ (by omega), fun x hx => ?_⟩
        unfold padV at hx
        rcases List.mem_append.1 hx with hx | hx
        · exact h3 x hx
        · have := List.eq_of_mem_replicate hx; omega
set_option maxRecDepth 100000 in
set_option maxHeartbeats 8000000 in
theorem vectorForms_walk (v : List Nat) (A : Option Addr) (n c : Nat) (l : List UInt8) (w : World) (hv : VecOK v) (hrow : ByteRow w A n c l) :
    Calls Try.prog 7 #[.agg (vC v), .slice A n c] w fun e w' => e = .returned (.bool true) ∧ Below w.heap.size w w' := by
  obtain ⟨hl, hnc, hcm, hr⟩ := hrow
  have hcmi : (c : Int) ≤ 9223372036854775807 := by unfold maxLen at hcm; omega
  obtain ⟨w1, hw1⟩ : ∃ w1, w1 = w.alloc (.cells (vC v) 24) := ⟨_, rfl⟩
  have hb1 : Below w.heap.size w w1 := by rw [hw1]; exact (Below.refl _ _).alloc (Nat.le_refl _) _
  have h1 : w1.heap[w.heap.size]? = some (.cells (vC v) 24 (0, 0)) := by rw [hw1]; exact heap_alloc_new _ _
  by_cases h200 : 200 < n
  · have h2i : (200 : Int) < (n : Int) := by omega
    go_enter Try.func7, Try.ntmps7
    go_wp2_with fail
    rw [← hw1]
    go_ret
    exact ⟨rfl, hb1⟩
  have h2i : ¬ (200 : Int) < (n : Int) := by omega
  obtain ⟨Z, hz0, hZs, hZ1, HZ⟩ : ∃ Z : Array Value, (Try.prog.info? 24).bind (fun i => i.zero.map Value.cells) = some Z ∧ Z.size = 16 ∧ (∀ u ∈ Z.toList, u.oneCell' = true) ∧ Hid (vC z16 = Z) := ⟨vC z16, zero_vec, by rw [vC_size]; rfl, vC_one z16, rfl⟩
  have htw := fun W hrW => twin_any A n c l hl (by omega) W hrW
  go_enter Try.func7, Try.ntmps7
  go_wp2_with fail
  rw [← hw1]
  clear hw1
  refine (htw w1 (hr.below hb1)).mono ?_
  rintro e w2 ⟨r, rfl, hn2⟩
  obtain ⟨oA, oc, rfl, hoc, hocm, hro, _⟩ := RdC.of_own hn2.1
  have ho2 := hn2.1
  have hb2 := below_then hb1 hn2.2 (Nat.le_refl _)
  rw [hl] at ho2 hoc ⊢
  have h12 := (hn2.2.block _ (lt_get h1)).trans h1
  have hwlt : w.heap.size < w1.heap.size := lt_get h1
  have hz12 := hn2.2.size
  clear hn2
  go_wp2_with fail
  refine (from_any oA n oc l hl (by omega) w2 hro).mono ?_
  rintro e w3 ⟨gs, vs, rfl, hgs, hS3, hb23, _⟩
  have hb3 := below_then hb2 hb23 (Nat.le_refl _)
  have ho3 := own_below ho2 hb23
  have h13 := (hb23.block _ (lt_get h12)).trans h12
  clear hro
  go_wp2_with fail
  refine (htw w3 (hr.below hb3)).mono ?_
  rintro e w4 ⟨r, rfl, hn4⟩
  obtain ⟨rA, rc, rfl, hrc, hrcm, hrr, _⟩ := RdC.of_own hn4.1
  have hr4 := hn4.1
  have hb4 := below_then hb3 hn4.2 (Nat.le_refl _)
  rw [hl] at hr4 hrc ⊢
  obtain ⟨w5, hw5⟩ : ∃ w5, w5 = w4.alloc (.cells #[.slice rA n rc] 55) := ⟨_, rfl⟩
  have hb45 : Below w4.heap.size w4 w5 := by rw [hw5]; exact (Below.refl _ _).alloc (Nat.le_refl _) _
  have hb35 := below_then hn4.2 hb45 (Nat.le_refl _)
  have hb5 := below_then hb4 hb45 (Nat.le_refl _)
  have hgr5 : w5.heap[w4.heap.size]? = some (.cells #[.slice rA n rc] 55 (0, 0)) := by rw [hw5]; exact heap_alloc_new _ _
  have hSr5 : Src 55 w4.heap.size (.slice rA n rc) l w5 := ⟨hgr5, rA, rc, by rw [hl], by omega, hrcm, hrr.below hb45, fun ad e => by
    subst e
    rcases hr4.2 with ⟨h, _⟩ | ⟨k, cap, cur, h, _, hk, _⟩
    · cases h
    · cases h
      have := lt_get hk
      show k ≠ _
      omega⟩
  have hS5 := hS3.below hb35
  have ho5 := own_below ho3 hb35
  have h15 := (hb35.block _ (lt_get h13)).trans h13
  have hgs4 : gs < w4.heap.size := Nat.lt_of_lt_of_le hS3.lt hn4.2.size
  have hgs1 : w1.heap.size ≤ gs := Nat.le_trans hz12 hgs
  have hgr1 : gs < w4.heap.size := hgs4
  obtain ⟨x, ee, rest, hd⟩ : ∃ x ee rest, decV l = (x, ee, rest) := ⟨_, _, _, rfl⟩
  have hx : VecOK x := by have := decV_ok l; rw [hd] at this; exact this
  have hdA := decode_any gs l vs w5 hS5
  rw [hd] at hdA
  have hdB := fun (W : World) (v : Value) (hS : Src 55 w4.heap.size v l W) => rdecode_any w4.heap.size l v W hS (by omega)
  simp only [hd] at hdB
  have zx := vec_size hx.1
  have hxz : (vC x).size = Z.size := by rw [vC_size, hx.1, hZs]
  have hW5 := Lib.hid hw5
  clear hS3 hr4 hrr ho3 h13 hb35 hb45 hb4 hn4 hw5 hd
  go_upto_region 5 with fail
  rw [← hW5.out]
  go_wp2_with fail
  refine hdA.mono ?_
  rintro e w6 ⟨rfl, v6, hv6, hs6⟩
  have h16 := (hs6.2.block _ (lt_get h15) (by omega)).trans h15
  have hnu : ∀ (A : Option Addr) (n c : Nat), ∀ u ∈ (#[Value.slice A n c] : Array Value).toList, ∀ x, u ≠ .int .u8 x := fun A n c u hu x e => by
    simp only [List.mem_cons, List.not_mem_nil, or_false] at hu
    rw [hu] at e
    cases e
  have hSr6 : Src 55 w4.heap.size (.slice rA n rc) l w6 := by
    obtain ⟨q1, A', c', q2, _⟩ := hS5
    rw [q2] at q1
    exact hSr5.offNo q1 (hnu _ _ _) (by omega) (fun k hk hk2 => hs6.2.block k hk2 hk)
  have ho6 := own_of_block ho5 (w' := w6) fun k hk => hs6.2.block k (ho5.lt k hk).2 fun e => own_ne ho5 hS5.1 (by decide) (by rw [hk, e])
  have hb6 := below_kept hb5 hs6.2 (fun k e => by omega)
  clear hS5 hSr5 ho5 h15 hb5 hgr5 hdA
  obtain ⟨w7, hw7⟩ : ∃ w7, w7 = (w6.alloc (.cells Z 24)).setRow w6.heap.size (vC x) := ⟨_, rfl⟩
  have hb67 : Below w6.heap.size w6 w7 := by rw [hw7]; exact below_setRow ((Below.refl _ _).alloc (Nat.le_refl _) _) (Nat.le_refl _) _
  have h87 : w7.heap[w6.heap.size]? = some (.cells (vC x) 24 (0, 0)) := by rw [hw7]; exact setRow_heap _ _ _ _ _ _ (heap_alloc_new _ _)
  have hW7 := Lib.hid hw7
  clear hw7
  go_upto_region 6 with (first
    | (with_reducible refine wpList_alloc_z rfl 24 rfl Z hz0 ?_)
    | (with_reducible refine wpList_store_z rfl 24 (.tmp 8) (.tmp 26) rfl w6.heap.size rfl (vC x) rfl Z _ (heap_alloc_new _ _) hxz zx (vC_one _) ?_)
    | fail)
  rw [← hW7.out]
  have hS7 := hs6.1.below hb67
  have hSr7 := hSr6.below hb67
  have h17 := (hb67.block _ (lt_get h16)).trans h16
  have ho7 := own_below ho6 hb67
  have hb7 := below_then hb6 hb67 (Nat.le_refl _)
  have hgs6 : gs < w6.heap.size := hs6.1.lt
  have hgr6 : w4.heap.size < w6.heap.size := hSr6.lt
  clear hs6 hSr6 h16 ho6 hb67 hW7 hb6
  go_wp2_with fail
  refine (hdB w7 _ hSr7).mono ?_
  rintro e w8 ⟨rfl, v8, hv8, hs8⟩
  have h18 := (hs8.2.block _ (lt_get h17) (by omega)).trans h17
  have h88 := (hs8.2.block _ (lt_get h87) (by omega)).trans h87
  have hS8 : Src 67 gs v6 rest w8 := hS7.offNo hSr7.1 (hnu _ _ _) (by omega) (fun k hk hk2 => hs8.2.block k hk2 hk)
  have ho8 := own_of_block ho7 (w' := w8) fun k hk => hs8.2.block k (ho7.lt k hk).2 fun e => own_ne ho7 hSr7.1 (by decide) (by rw [hk, e])
  have hb8 := below_kept hb7 hs8.2 (fun k e => by omega)
  have hSr8 := hs8.1
  clear hS7 hSr7 h17 h87 ho7 hb7 hs8
  obtain ⟨w9, hw9⟩ : ∃ w9, w9 = (w8.alloc (.cells Z 24)).setRow w8.heap.size (vC x) := ⟨_, rfl⟩
  have hb89 : Below w8.heap.size w8 w9 := by rw [hw9]; exact below_setRow ((Below.refl _ _).alloc (Nat.le_refl _) _) (Nat.le_refl _) _
  have h109 : w9.heap[w8.heap.size]? = some (.cells (vC x) 24 (0, 0)) := by rw [hw9]; exact setRow_heap _ _ _ _ _ _ (heap_alloc_new _ _)
  have hW9 := Lib.hid hw9
  clear hw9
  go_upto_region 7 with (first
    | (with_reducible refine wpList_alloc_z rfl 24 rfl Z hz0 ?_)
    | (with_reducible refine wpList_store_z rfl 24 (.tmp 10) (.tmp 31) rfl w8.heap.size rfl (vC x) rfl Z _ (heap_alloc_new _ _) hxz zx (vC_one _) ?_)
    | fail)
  rw [← hW9.out]
  have hS9 := hS8.below hb89
  have hSr9 := hSr8.below hb89
  have h19 := (hb89.block _ (lt_get h18)).trans h18
  have h89 := (hb89.block _ (lt_get h88)).trans h88
  have ho9 := own_below ho8 hb89
  have hb9 := below_then hb8 hb89 (Nat.le_refl _)
  clear hS8 hSr8 h18 h88 ho8 hb89 hW9 hb8
  obtain ⟨s1, sA, sc, rfl, s3, s4, s5, s6⟩ := hSr9
  have hup : ∀ W, Below w9.heap.size w9 W → ∀ g o, w9.heap[g]? = some o → W.heap[g]? = some o := fun W hb g o h => (hb.block _ (lt_get h)).trans h
  by_cases h0 : ee = 0
  · refine vf7a w.heap.size w6.heap.size w8.heap.size gs w4.heap.size n c oc sc rest.length v x l rest (ee : Int) v6 A oA sA w9 hv.1 hx.1 hv.2 rfl (fun W hb => hS9.below hb) (fun W hb => str_rd (hr.below (below_then hb9 hb (Nat.le_refl _))) hl) (fun W hb => str_rd (by
      obtain ⟨A', c', e, _, _, q, _⟩ := RdC.of_own (own_below ho9 hb)
      cases e
      exact q) hl) (by omega) (fun W hb => hup W hb _ _ h19) (fun W hb => hup W hb _ _ h89) (fun W hb => hup W hb _ _ h109) (fun W hb => by rw [cell_of_row _ _ _ _ _ _ (hup W hb _ _ s1)]; rfl) fun w10 r34 r37 hb10 => ?_
    go_wp2_with fail
    go_ret
    exact ⟨rfl, below_then hb9 hb10 (Nat.le_refl _)⟩
  · refine vf7b w.heap.size w6.heap.size w8.heap.size gs w4.heap.size n c oc sc rest.length v x l rest (ee : Int) v6 A oA sA w9 hv.1 hx.1 hv.2 rfl (fun W hb => hS9.below hb) (fun W hb => str_rd (hr.below (below_then hb9 hb (Nat.le_refl _))) hl) (fun W hb => str_rd (by
      obtain ⟨A', c', e, _, _, q, _⟩ := RdC.of_own (own_below ho9 hb)
      cases e
      exact q) hl) (by rw [bne_iff_ne]; omega) (fun W hb => hup W hb _ _ h19) (fun W hb => hup W hb _ _ h89) (fun W hb => hup W hb _ _ h109) (fun W hb => by rw [cell_of_row _ _ _ _ _ _ (hup W hb _ _ s1)]; rfl) fun w10 r34 r37 hb10 => ?_
    go_wp2_with fail
    go_ret
    exact ⟨rfl, below_then hb9 hb10 (Nat.le_refl _)⟩
end Go.Proofs.Ytfifbjlmbdgmjaa
