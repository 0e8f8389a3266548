/- Vectors: arrays of 16 numbers; folding them. -/
import Derived.Test.YtfifbjlmbdgmjaaProg
import Derived.Test.YtfifbjlmbdgmjaaArr
import Derived.Test.YtfifbjlmbdgmjaaOpen
namespace Go.Proofs.Ytfifbjlmbdgmjaa
open Go.RowKit

/-- A vector's cells. -/
def vC (l : List Nat) : Array Value := intsC .u32 (l.map fun x : Nat => (x : Int))
theorem vC_size (l : List Nat) : (vC l).size = l.length := by simp [vC, intsC]
theorem vC_get (l : List Nat) (j : Nat) (h : j < l.length) : (vC l)[j]? = some (.int .u32 (l[j] : Int)) := by simp [vC, intsC, h]
theorem vC_one (l : List Nat) : ∀ u ∈ (vC l).toList, u.oneCell' = true := by
  intro u hu
  simp [vC, intsC] at hu
  obtain ⟨_, _, rfl⟩ := hu
  rfl
theorem vC_set (l : List Nat) (k x : Nat) : vC (l.set k x) = (vC l).setIfInBounds k (.int .u32 (x : Int)) := by
  apply Array.ext'
  simp [vC, intsC, List.map_set]
theorem max_any (a b : Nat) (w : World) : Calls Try.prog 36 #[.int .u32 (a : Int), .int .u32 (b : Int)] w fun e w' => e = .returned (.int .u32 ((max a b : Nat) : Int)) ∧ w = w' := by
  go_enter Try.func36, Try.ntmps36
  have h : (if a < b then (b : Int) else (a : Int)) = ((max a b : Nat) : Int) := by split <;> omega
  go_wp2
  go_ret
  exact ⟨rfl, rfl⟩
theorem min_any (a b : Nat) (w : World) : Calls Try.prog 37 #[.int .u32 (a : Int), .int .u32 (b : Int)] w fun e w' => e = .returned (.int .u32 ((min a b : Nat) : Int)) ∧ w = w' := by
  go_enter Try.func37, Try.ntmps37
  have h : (if b < a then (b : Int) else (a : Int)) = ((min a b : Nat) : Int) := by split <;> omega
  go_wp2
  go_ret
  exact ⟨rfl, rfl⟩
end Go.Proofs.Ytfifbjlmbdgmjaa
