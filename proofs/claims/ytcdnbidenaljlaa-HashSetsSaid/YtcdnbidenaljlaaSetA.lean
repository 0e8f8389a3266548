/- Ids in order: transitivity; what a binary search among rising ids finds. -/
import Derived.Test.YtcdnbidenaljlaaHashC
import Derived.Test.YtcdnbidenaljlaaRegS
import Derived.Deep.MidRow
namespace Go.Proofs.Ytcdnbidenaljlaa
open Go.RowKit

theorem cmp_trans : ∀ (a b c : List UInt8), Lib.compareBytes a b ≤ 0 → Lib.compareBytes b c ≤ 0 → Lib.compareBytes a c ≤ 0 ∧ (Lib.compareBytes a b < 0 ∨ Lib.compareBytes b c < 0 → Lib.compareBytes a c < 0)
  | [], [], [], _, _ => by decide
  | [], [], _ :: _, _, _ => by simp [Lib.compareBytes]
  | [], _ :: _, [], _, h => by simp [Lib.compareBytes] at h
  | [], _ :: _, _ :: _, _, _ => by simp [Lib.compareBytes]
  | _ :: _, [], _, h, _ => by simp [Lib.compareBytes] at h
  | _ :: _, _ :: _, [], _, h => by simp [Lib.compareBytes] at h
  | x :: a, y :: b, z :: c, h1, h2 => by
    have ih := cmp_trans a b c
    rw [Lib.compareBytes] at h1 h2 ⊢
    have exy : x < y ↔ x.toNat < y.toNat := UInt8.lt_iff_toNat_lt
    have eyx : y < x ↔ y.toNat < x.toNat := UInt8.lt_iff_toNat_lt
    have eyz : y < z ↔ y.toNat < z.toNat := UInt8.lt_iff_toNat_lt
    have ezy : z < y ↔ z.toNat < y.toNat := UInt8.lt_iff_toNat_lt
    have exz : x < z ↔ x.toNat < z.toNat := UInt8.lt_iff_toNat_lt
    have ezx : z < x ↔ z.toNat < x.toNat := UInt8.lt_iff_toNat_lt
    by_cases k1 : x < y
    · have n1 := exy.1 k1
      by_cases k2 : y < z
      · have n2 := eyz.1 k2
        rw [if_pos (exz.2 (by omega))]
        omega
      · rw [if_neg k2] at h2
        by_cases k3 : z < y
        · rw [if_pos k3] at h2; omega
        · have : z.toNat = y.toNat := by
            have a1 : ¬ y.toNat < z.toNat := fun h => k2 (eyz.2 h)
            have a2 : ¬ z.toNat < y.toNat := fun h => k3 (ezy.2 h)
            omega
          rw [if_pos (exz.2 (by omega))]
          omega
    · rw [if_neg k1] at h1
      rw [Lib.compareBytes, if_neg k1]
      by_cases k2 : y < x
      · rw [if_pos k2] at h1; omega
      · rw [if_neg k2] at h1 ⊢
        have exy' : x = y := UInt8.toNat_inj.1 (by
          have a1 : ¬ x.toNat < y.toNat := fun h => k1 (exy.2 h)
          have a2 : ¬ y.toNat < x.toNat := fun h => k2 (eyx.2 h)
          omega)
        subst exy'
        rw [Lib.compareBytes]
        by_cases k3 : x < z
        · rw [if_pos k3]; omega
        · rw [if_neg k3] at h2 ⊢
          by_cases k4 : z < x
          · rw [if_pos k4] at h2; omega
          · rw [if_neg k4] at h2 ⊢
            simp only [if_neg k3, if_neg k4]
            exact ih h1 h2
theorem cmp_eq0 : ∀ (a b : List UInt8), a.length = b.length → Lib.compareBytes a b = 0 → a = b
  | [], [], _, _ => rfl
  | [], _ :: _, h, _ => by simp at h
  | _ :: _, [], h, _ => by simp at h
  | c :: a, d :: b, h, hz => by
    have ih := cmp_eq0 a b (by simpa using h)
    rw [Lib.compareBytes] at hz
    have hlt : c < d ↔ c.toNat < d.toNat := UInt8.lt_iff_toNat_lt
    have hgt : d < c ↔ d.toNat < c.toNat := UInt8.lt_iff_toNat_lt
    by_cases k1 : c < d
    · rw [if_pos k1] at hz; omega
    · rw [if_neg k1] at hz
      by_cases k2 : d < c
      · rw [if_pos k2] at hz; omega
      · rw [if_neg k2] at hz
        have : c = d := UInt8.toNat_inj.1 (by
          have a1 : ¬ c.toNat < d.toNat := fun x => k1 (hlt.2 x)
          have a2 : ¬ d.toNat < c.toNat := fun x => k2 (hgt.2 x)
          omega)
        rw [this, ih hz]
/-- Rising, each once. -/
def Rise (L : List (List UInt8)) : Prop := ∀ i j (hi : i < L.length) (hj : j < L.length), i < j → Lib.compareBytes L[i] L[j] < 0
theorem Rise.lo {L : List (List UInt8)} (h : Rise L) {t : List UInt8} {k : Nat} (hk : k < L.length) (ht : Lib.compareBytes L[k] t < 0) : ∀ p (hp : p < L.length), p ≤ k → Lib.compareBytes L[p] t < 0 := fun p hp hpk => by
  rcases Nat.lt_or_ge p k with hlt | hge
  · exact (cmp_trans _ _ _ (Int.le_of_lt (h p k hp hk hlt)) (Int.le_of_lt ht)).2 (.inl (h p k hp hk hlt))
  · obtain rfl : p = k := by omega
    exact ht
theorem Rise.hi {L : List (List UInt8)} (h : Rise L) {t : List UInt8} {k : Nat} (hk : k < L.length) (ht : ¬ Lib.compareBytes L[k] t < 0) : ∀ p (hp : p < L.length), k ≤ p → ¬ Lib.compareBytes L[p] t < 0 := fun p hp hpk hlt => by
  rcases Nat.lt_or_ge k p with h1 | h1
  · exact ht ((cmp_trans _ _ _ (Int.le_of_lt (h k p hk hp h1)) (Int.le_of_lt hlt)).2 (.inl (h k p hk hp h1)))
  · obtain rfl : p = k := by omega
    exact ht hlt
end Go.Proofs.Ytcdnbidenaljlaa
