/- Vectors: their bytes, by definition. No program in sight. -/
import Derived.Test.YtfifbjlmbdgmjaaVecI
import Derived.Test.YtfifbjlmbdgmjaaVecO
import Derived.Test.YtfifbjlmbdgmjaaLebZ
namespace Go.Proofs.Ytfifbjlmbdgmjaa
open Go.RowKit

/-- How many sites are written: behind the last one that is not nought, of the first k. -/
def manyK (v : List Nat) : Nat → Nat
  | 0 => 0
  | k + 1 => if 0 < v.getD k 0 then k + 1 else manyK v k
theorem manyK_le (v : List Nat) (k : Nat) : manyK v k ≤ k := by
  induction k with
  | zero => exact Nat.le_refl _
  | succ k ih => unfold manyK; split <;> omega
def encV (v : List Nat) : List UInt8 := numB (manyK v 16) ++ ((v.take (manyK v 16)).map numB).flatten
/-- The first i numbers of a vector that is read. -/
def decI (l : List UInt8) : Nat → List Nat × Nat × List UInt8
  | 0 => ([], 0, l)
  | i + 1 => if (decI l i).2.1 ≠ 0 then decI l i
    else if (readN (decI l i).2.2 4294967295).2.1 ≠ 0 then ((decI l i).1, (readN (decI l i).2.2 4294967295).2.1, (decI l i).2.2.drop (readN (decI l i).2.2 4294967295).2.2)
    else ((decI l i).1 ++ [(readN (decI l i).2.2 4294967295).1], 0, (decI l i).2.2.drop (readN (decI l i).2.2 4294967295).2.2)
def decV (l : List UInt8) : List Nat × Nat × List UInt8 :=
  if (readN l 16).2.1 ≠ 0 then (z16, (readN l 16).2.1, l.drop (readN l 16).2.2)
  else if (decI (l.drop (readN l 16).2.2) (readN l 16).1).2.1 ≠ 0 then (z16, (decI (l.drop (readN l 16).2.2) (readN l 16).1).2.1, (decI (l.drop (readN l 16).2.2) (readN l 16).1).2.2)
  else if 0 < (readN l 16).1 ∧ (padV (decI (l.drop (readN l 16).2.2) (readN l 16).1).1).getD ((readN l 16).1 - 1) 0 = 0 then (z16, 62, (decI (l.drop (readN l 16).2.2) (readN l 16).1).2.2)
  else (padV (decI (l.drop (readN l 16).2.2) (readN l 16).1).1, 0, (decI (l.drop (readN l 16).2.2) (readN l 16).1).2.2)
theorem readN_le {l : List UInt8} {m : Nat} (h : (readN l m).2.1 = 0) : (readN l m).1 ≤ m := by
  unfold readN at h ⊢
  split
  · exact Nat.zero_le _
  · split
    · exact Nat.zero_le _
    · split
      · exact Nat.zero_le _
      · split
        · exact Nat.zero_le _
        · simp only
          omega
theorem decI_stop {l : List UInt8} {i : Nat} (h : (decI l i).2.1 ≠ 0) (k : Nat) (hk : i ≤ k) : decI l k = decI l i := by
  induction k with
  | zero => obtain rfl : i = 0 := by omega
            rfl
  | succ k ih =>
    rcases Nat.lt_or_ge k i with h1 | h1
    · obtain rfl : i = k + 1 := by omega
      rfl
    · have := ih h1
      rw [decI, this, if_pos h]
theorem decI_length {l : List UInt8} {i : Nat} (h : (decI l i).2.1 = 0) : (decI l i).1.length = i ∧ small (decI l i).1 := by
  induction i with
  | zero => exact ⟨rfl, fun x hx => by cases hx⟩
  | succ i ih =>
    rw [decI] at h ⊢
    split at h
    · rename_i h1
      exact absurd h h1
    · rename_i h1
      rw [if_neg h1]
      obtain ⟨h2, h3⟩ := ih (by omega)
      split at h
      · rename_i h4
        exact absurd h h4
      · rename_i h4
        rw [if_neg h4]
        refine ⟨by simp [h2], fun x hx => ?_⟩
        rcases List.mem_append.1 hx with hx | hx
        · exact h3 x hx
        · obtain rfl := List.mem_singleton.1 hx
          have := readN_le (l := (decI l i).2.2) (m := 4294967295) (by omega)
          omega
theorem padV_set (xs : List Nat) (h : xs.length < 16) (x : Nat) : (padV xs).set xs.length x = padV (xs ++ [x]) := by
  unfold padV
  rw [List.set_append_right _ _ (Nat.le_refl _), Nat.sub_self, show 16 - xs.length = (15 - xs.length) + 1 by omega, List.replicate_succ, List.set_cons_zero]
  simp only [List.length_append, List.length_singleton, List.append_assoc, List.singleton_append]
  rw [show 16 - (xs.length + 1) = 15 - xs.length by omega]
theorem padV_nil : padV [] = z16 := rfl
end Go.Proofs.Ytfifbjlmbdgmjaa
