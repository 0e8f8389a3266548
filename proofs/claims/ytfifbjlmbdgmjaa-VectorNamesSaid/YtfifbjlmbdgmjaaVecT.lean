/- Vectors: what holds of how they stand to one another, with no program in sight but for blocks. -/
import Derived.Test.YtfifbjlmbdgmjaaVecI
namespace Go.Proofs.Ytfifbjlmbdgmjaa
open Go.RowKit

theorem three_blocks (w : World) (x y z : Array Value) (w1 : World) (hw1 : w1 = ((w.alloc (.cells x 24)).alloc (.cells y 24)).alloc (.cells z 24)) :
    w1.heap[w.heap.size]? = some (.cells x 24 (0, 0)) ∧ w1.heap[w.heap.size + 1]? = some (.cells y 24 (0, 0)) ∧ w1.heap[w.heap.size + 1 + 1]? = some (.cells z 24 (0, 0)) ∧ Below w.heap.size w w1 := by
  subst hw1
  have k1 := heap_alloc2_old w (.cells x 24) (.cells y 24)
  have k2 := heap_alloc2_new w (.cells x 24) (.cells y 24)
  have k3 := heap_alloc_new ((w.alloc (.cells x 24)).alloc (.cells y 24)) (.cells z 24)
  have kb := (Below.refl ((w.alloc (.cells x 24)).alloc (.cells y 24)).heap.size ((w.alloc (.cells x 24)).alloc (.cells y 24))).alloc (Nat.le_refl _) (.cells z 24)
  refine ⟨(kb.block _ (lt_of_get k1)).trans k1, (kb.block _ (lt_of_get k2)).trans k2, ?_, (((Below.refl _ w).alloc (Nat.le_refl _) _).alloc (by simp) _).alloc (by simp; omega) _⟩
  simpa using k3
theorem maxV_small {a b : List Nat} (sa : small a) (sb : small b) : small (maxV a b) := fun x hx => by
  obtain ⟨i, hi, rfl⟩ := List.mem_iff_getElem.1 hx
  unfold maxV at hi ⊢
  rw [List.getElem_zipWith]
  rw [List.length_zipWith] at hi
  have h1 := sa (a[i]'(by omega)) (List.getElem_mem _)
  have h2 := sb (b[i]'(by omega)) (List.getElem_mem _)
  omega
theorem vext {a b : List Nat} (ha : a.length = 16) (hb : b.length = 16) (h : ∀ k (h : k < 16), a[k] = b[k]) : a = b := List.ext_getElem (by omega) fun k h1 h2 => h k (by omega)
section
variable {a b c : List Nat} (ha : a.length = 16) (hb : b.length = 16) (hc : c.length = 16)
include ha hb
theorem maxV_comm : maxV b a = maxV a b := vext (by simp [maxV, ha, hb]) (by simp [maxV, ha, hb]) fun k h => by simp only [maxV, List.getElem_zipWith]; omega
theorem lack_zero : decide (maxV b a = a) = ((lackV a b : Int) == 0) := by
  have key : ∀ k, k ≤ 16 → (lackK a b k = 0 ↔ ∀ j (h : j < 16), j < k → b[j] ≤ a[j]) := fun k => by
    induction k with
    | zero => intro _; exact ⟨fun _ j _ h => by omega, fun _ => by simp [lackK]⟩
    | succ k ih =>
      intro hk
      rw [lackK_step a b k (by omega) (by omega), Nat.add_eq_zero_iff, ih (by omega)]
      constructor
      · rintro ⟨h1, h2⟩ j hj hjk
        by_cases e : j = k
        · subst e; omega
        · exact h1 j hj (by omega)
      · intro h
        refine ⟨fun j hj hjk => h j hj (by omega), ?_⟩
        have := h k (by omega) (by omega)
        omega
  rw [Bool.eq_iff_iff, decide_eq_true_iff, beq_iff_eq, maxV_eq_iff b a hb ha]
  constructor
  · intro h
    have := (key 16 (by omega)).2 fun j hj _ => h j hj
    unfold lackV
    omega
  · intro h k hk
    exact (key 16 (by omega)).1 (by unfold lackV at h; omega) k hk hk
theorem lack_max : lackV a (maxV a b) = lackV a b := by
  have hm := maxV_length ha hb
  have key : ∀ k, k ≤ 16 → lackK a (maxV a b) k = lackK a b k := fun k => by
    induction k with
    | zero => intro _; simp [lackK]
    | succ k ih =>
      intro hk
      have e : (maxV a b)[k]'(by omega) = max a[k] b[k] := by simp [maxV]
      rw [lackK_step a _ k (by omega) (by omega), lackK_step a b k (by omega) (by omega), ih (by omega), e]
      omega
  exact key 16 (by omega)
omit ha hb in
theorem stand_d {n : Nat} (h : cmpV a b = (n : Int)) : ((n : Int) == 0) = decide (a = b) := by
  rw [← h]
  unfold cmpV
  by_cases e : a = b
  · simp [e]
  · simp only [e, if_false, decide_false]
    split <;> (try split) <;> rfl
omit ha in
theorem stand_le {n : Nat} (h : cmpV a b = (n : Int)) : decide (maxV a b = b) = (((n : Int) == 0) || ((n : Int) == 1)) := by
  rw [← h]
  unfold cmpV
  by_cases e : a = b
  · subst e
    have : maxV a a = a := zw_self max Nat.max_self a
    simp [this]
  · simp only [e, if_false]
    by_cases e2 : maxV a b = b
    · simp [e2]
    · simp only [e2, if_false, decide_false]
      split <;> rfl
omit ha hb in
theorem stand_anti (h1 : maxV a b = b) (h2 : maxV a b = a) : a = b := by rw [← h1, h2]
include hc
theorem stand_trans (h1 : cmpV a b = 1) (h2 : cmpV b c = 1) : cmpV a c = 1 := by
  have e1 : a ≠ b ∧ maxV a b = b := by
    unfold cmpV at h1
    by_cases e : a = b
    · simp [e] at h1
    · by_cases e2 : maxV a b = b
      · exact ⟨e, e2⟩
      · rw [if_neg e, if_neg e2] at h1; split at h1 <;> cases h1
  have e2 : b ≠ c ∧ maxV b c = c := by
    unfold cmpV at h2
    by_cases e : b = c
    · simp [e] at h2
    · by_cases e2 : maxV b c = c
      · exact ⟨e, e2⟩
      · rw [if_neg e, if_neg e2] at h2; split at h2 <;> cases h2
  have l1 := (maxV_eq_iff a b ha hb).1 e1.2
  have l2 := (maxV_eq_iff b c hb hc).1 e2.2
  have l3 : maxV a c = c := (maxV_eq_iff a c ha hc).2 fun k hk => Nat.le_trans (l1 k hk) (l2 k hk)
  have l4 : a ≠ c := by
    rintro rfl
    refine e1.1 (vext ha hb fun k hk => ?_)
    have := l1 k hk
    have := l2 k hk
    omega
  unfold cmpV
  rw [if_neg l4, if_pos l3]
theorem stand_facts_ : ∃ xn yn zn : Nat, cmpV a b = (xn : Int) ∧ cmpV b a = (yn : Int) ∧ cmpV b c = (zn : Int) ∧ xn < 4 ∧ (#[Value.int .i64 0, Value.int .i64 2, Value.int .i64 1, Value.int .i64 3] : Array Value)[xn]? = some (.int .i64 (yn : Int)) ∧ True ∧ ((xn : Int) = 1 → (zn : Int) = 1 → cmpV a c = 1) := by
  obtain ⟨zn, hz⟩ : ∃ zn : Nat, cmpV b c = (zn : Int) := by
    unfold cmpV
    split
    · exact ⟨0, rfl⟩
    · split
      · exact ⟨1, rfl⟩
      · split
        · exact ⟨2, rfl⟩
        · exact ⟨3, rfl⟩
  have tr : ∀ xn : Nat, cmpV a b = (xn : Int) → (xn : Int) = 1 → (zn : Int) = 1 → cmpV a c = 1 := fun xn h h1 h2 => stand_trans ha hb hc (by rw [h, h1]) (by rw [hz, h2])
  have hm := maxV_comm ha hb
  by_cases e : a = b
  · refine ⟨0, 0, zn, ?_, ?_, hz, by omega, rfl, trivial, fun h => by cases h⟩ <;> unfold cmpV
    · rw [if_pos e]; rfl
    · rw [if_pos e.symm]; rfl
  · have e' : ¬ b = a := fun h => e h.symm
    by_cases e2 : maxV a b = b
    · have e3 : ¬ maxV a b = a := fun h => e (stand_anti e2 h)
      have c1 : cmpV a b = ((1 : Nat) : Int) := by unfold cmpV; rw [if_neg e, if_pos e2]; rfl
      refine ⟨1, 2, zn, c1, ?_, hz, by omega, rfl, trivial, tr 1 c1⟩
      unfold cmpV
      rw [if_neg e', hm, if_neg e3, if_pos e2]
      rfl
    · by_cases e3 : maxV a b = a
      · refine ⟨2, 1, zn, ?_, ?_, hz, by omega, rfl, trivial, fun h => by cases h⟩ <;> unfold cmpV
        · rw [if_neg e, if_neg e2, if_pos e3]; rfl
        · rw [if_neg e', hm, if_pos e3]; rfl
      · refine ⟨3, 3, zn, ?_, ?_, hz, by omega, rfl, trivial, fun h => by cases h⟩ <;> unfold cmpV
        · rw [if_neg e, if_neg e2, if_neg e3]; rfl
        · rw [if_neg e', hm, if_neg e3, if_neg e2]; rfl
end
end Go.Proofs.Ytfifbjlmbdgmjaa
