/- Vectors that rise dot by dot: the plain law. -/
import Derived.Test.YtfifbjlmbdgmjaaVecE
namespace Go.Proofs.Ytfifbjlmbdgmjaa
open Go.RowKit

theorem lack_sum (a b : List Nat) (ha : a.length = 16) (hb : b.length = 16) (c : List Nat) (hc : c.length = 16) (h1 : ∀ k (h : k < 16), a[k] ≤ b[k]) (h2 : ∀ k (h : k < 16), b[k] ≤ c[k]) : lackV a c = lackV a b + lackV b c := by
  have key : ∀ k, k ≤ 16 → lackK a c k = lackK a b k + lackK b c k := fun k => by
    induction k with
    | zero => intro _; simp [lackK]
    | succ k ih =>
      intro hk
      rw [lackK_step a c k (by omega) (by omega), lackK_step a b k (by omega) (by omega), lackK_step b c k (by omega) (by omega), ih (by omega)]
      have := h1 k (by omega)
      have := h2 k (by omega)
      omega
  exact key 16 (by omega)
theorem lack_one (a : List Nat) (ha : a.length = 16) (j x : Nat) (hj : j < 16) (hx : a[j] = x) : lackV a (a.set j (x + 1)) = 1 := by
  have hl : (a.set j (x + 1)).length = 16 := by simpa using ha
  have key : ∀ k, k ≤ 16 → lackK a (a.set j (x + 1)) k = if j < k then 1 else 0 := fun k => by
    induction k with
    | zero => intro _; simp [lackK]
    | succ k ih =>
      intro hk
      rw [lackK_step a _ k (by omega) (by omega), ih (by omega), List.getElem_set]
      by_cases e : j = k
      · subst e
        rw [if_neg (by omega), if_pos rfl, if_pos (by omega)]
        omega
      · rw [if_neg e]
        by_cases e2 : j < k
        · rw [if_pos e2, if_pos (by omega)]; omega
        · rw [if_neg e2, if_neg (by omega)]; omega
  have := key 16 (by omega)
  rwa [if_pos hj] at this
/-- How a vector has risen. -/
structure Risen (v a : List Nat) (m : Nat) : Prop where
  len : a.length = 16
  sm : small a
  le : ∀ k (h : k < v.length) (h' : k < a.length), v[k] ≤ a[k]
  lack : lackV v a = m
theorem lack_same (v : List Nat) (hv : v.length = 16) : lackV v v = 0 := by
  have := lack_sum v v hv hv v hv (fun k _ => Nat.le_refl _) (fun k _ => Nat.le_refl _)
  omega
theorem Risen.start (v : List Nat) (hv : v.length = 16) (sv : small v) : Risen v v 0 := ⟨hv, sv, fun k _ _ => Nat.le_refl _, lack_same v hv⟩
section
variable {v a : List Nat} {m j x : Nat}
theorem set_small (ha : a.length = 16) (sa : small a) (hj : j < 16) (hov : x ≠ 4294967295) (hx : a[j] = x) : small (a.set j (x + 1)) := fun y hy => by
  rcases List.mem_or_eq_of_mem_set hy with h | h
  · exact sa y h
  · have := sa a[j] (List.getElem_mem _)
    omega
theorem Risen.step (h : Risen v a m) (hv : v.length = 16) (hj : j < 16) (hx : a[j]'(by have := h.len; omega) = x) (hov : x ≠ 4294967295) : Risen v (a.set j (x + 1)) (m + 1) := by
  have ha := h.len
  have hl : (a.set j (x + 1)).length = 16 := by simpa using ha
  have hle : ∀ k (h : k < 16), a[k] ≤ (a.set j (x + 1))[k] := fun k hk => by
    rw [List.getElem_set]
    split
    · rename_i e; subst e; omega
    · exact Nat.le_refl _
  refine ⟨hl, set_small ha h.sm hj hov hx, fun k hk hk' => Nat.le_trans (h.le k hk (by omega)) (hle k (by omega)), ?_⟩
  rw [lack_sum v a hv ha _ hl (fun k hk => h.le k (by omega) (by omega)) hle, h.lack, lack_one a ha j x hj hx]
theorem step_ok (ha : a.length = 16) (sa : small a) (hj : j < 16) (hx : a[j] = x) (hov : x ≠ 4294967295) : dotOK j ((x : Int) + 1) = true := by
  have := sa a[j] (List.getElem_mem _)
  unfold dotOK
  simp only [Bool.and_eq_true, decide_eq_true_eq]
  omega
theorem step_next (ha : a.length = 16) (sa : small a) (hj : j < 16) (hx : a[j] = x) (hov : x ≠ 4294967295) : nextS a j = j ∧ nextC a j = (x : Int) + 1 ∧ nextE a j = 0 := by
  have hgd := getD_get a j (by omega)
  rw [hx] at hgd
  refine ⟨?_, ?_, ?_⟩
  · unfold nextS; rw [if_pos (by simp only [Int.toNat_natCast, hgd]; omega)]
  · unfold nextC; rw [if_pos (by simp only [Int.toNat_natCast, hgd]; omega)]; simp only [Int.toNat_natCast, hgd]
  · unfold nextE; rw [if_pos (by omega), if_neg (by simp only [Int.toNat_natCast, hgd]; exact hov)]
theorem step_over (ha : a.length = 16) (hj : j < 16) (hx : a[j] = 4294967295) : nextS a j = 0 ∧ nextC a j = 0 ∧ nextE a j = 60 := by
  have hgd := getD_get a j (by omega)
  rw [hx] at hgd
  refine ⟨?_, ?_, ?_⟩
  · unfold nextS; rw [if_neg (by simp only [Int.toNat_natCast, hgd]; omega)]
  · unfold nextC; rw [if_neg (by simp only [Int.toNat_natCast, hgd]; omega)]
  · unfold nextE; rw [if_pos (by omega), if_pos (by simp only [Int.toNat_natCast, hgd])]
theorem step_has0 (ha : a.length = 16) (hj : j < 16) (hx : a[j] = x) : hasV a j ((x : Int) + 1) = false := by
  have hgd := getD_get a j (by omega)
  rw [hx] at hgd
  unfold hasV
  rw [Int.toNat_natCast, hgd, decide_eq_false (by omega), Bool.and_false]
theorem step_has1 (ha : a.length = 16) (sa : small a) (hj : j < 16) (hx : a[j] = x) (hov : x ≠ 4294967295) : hasV (a.set j (x + 1)) j ((x : Int) + 1) = true := by
  have hgd := getD_get (a.set j (x + 1)) j (by simp; omega)
  rw [List.getElem_set_self] at hgd
  unfold hasV
  rw [Int.toNat_natCast, hgd, step_ok ha sa hj hx hov, decide_eq_true (by omega)]
  rfl
theorem step_add (ha : a.length = 16) (sa : small a) (hj : j < 16) (hx : a[j] = x) (hov : x ≠ 4294967295) : addV a j ((x : Int) + 1) = a.set j (x + 1) ∧ addE a j ((x : Int) + 1) = 0 := by
  have hgd := getD_get a j (by omega)
  rw [hx] at hgd
  have hy : addOK a j ((x : Int) + 1) = true := by
    unfold addOK
    rw [Int.toNat_natCast, hgd, step_ok ha sa hj hx hov, decide_eq_true rfl]
    rfl
  refine ⟨?_, ?_⟩
  · unfold addV; rw [if_pos hy, Int.toNat_natCast, hgd]
  · unfold addE; rw [if_pos hy]
theorem step_cmp (ha : a.length = 16) (hj : j < 16) (hx : a[j] = x) : cmpV a (a.set j (x + 1)) = 1 := by
  have hl : (a.set j (x + 1)).length = 16 := by simpa using ha
  have hne : a ≠ a.set j (x + 1) := fun e => by
    have h1 : a[j]? = (a.set j (x + 1))[j]? := by rw [← e]
    rw [List.getElem?_set_self (by omega), List.getElem?_eq_getElem (by omega)] at h1
    simp at h1
    omega
  have hm : maxV a (a.set j (x + 1)) = a.set j (x + 1) := (maxV_eq_iff _ _ ha hl).2 fun k hk => by
    rw [List.getElem_set]
    split
    · rename_i e; subst e; omega
    · exact Nat.le_refl _
  unfold cmpV
  rw [if_neg hne, if_pos hm]
theorem Risen.back (h : Risen v a m) (hv : v.length = 16) : lackV a v = 0 := by
  have := lack_zero h.len hv
  rw [decide_eq_true ((maxV_eq_iff v a hv h.len).2 fun k hk => h.le k (by omega) (by have := h.len; omega))] at this
  have h2 : ((lackV a v : Int) == 0) = true := this.symm
  simpa using h2
theorem Risen.has (h : Risen v a m) (hv : v.length = 16) {s c : Int} (hh : hasV v s c = true) : hasV a s c = true := by
  unfold hasV at hh ⊢
  rw [Bool.and_eq_true] at hh ⊢
  refine ⟨hh.1, ?_⟩
  obtain ⟨k, rfl, hk, _, _⟩ := dot_k hh.1
  have h2 := hh.2
  have hle := h.le k (by omega) (by have := h.len; omega)
  have ha := h.len
  rw [Int.toNat_natCast, decide_eq_true_eq, getD_get _ _ (by omega)] at h2 ⊢
  omega
theorem has_bad {s c : Int} (a : List Nat) (h : s < 0 ∨ 16 ≤ s ∨ c < 1) : hasV a s c = false := by
  unfold hasV dotOK
  rcases h with h | h | h
  · rw [decide_eq_false (show ¬ 0 ≤ s by omega)]; rfl
  · rw [decide_eq_false (show ¬ s < 16 by omega)]; simp
  · rw [decide_eq_false (show ¬ 1 ≤ c by omega)]; simp
theorem has_good {k : Nat} {c : Int} (a : List Nat) (ha : a.length = 16) (sa : small a) (hk : k < 16) (hc : 1 ≤ c) : hasV a k c = decide (c ≤ (a[k] : Int)) := by
  have := sa a[k] (List.getElem_mem _)
  unfold hasV
  rw [Int.toNat_natCast, getD_get _ _ (by omega), Bool.eq_iff_iff, Bool.and_eq_true, decide_eq_true_eq]
  unfold dotOK
  simp only [Bool.and_eq_true, decide_eq_true_eq]
  omega
end
end Go.Proofs.Ytfifbjlmbdgmjaa
