/- Lists of vectors that came in, opened; appended to an empty list. -/
import Derived.Test.YtfifbjlmbdgmjaaVecX
import Derived.Test.YtfifbjlmbdgmjaaVecV
import Derived.Test.YtfifbjlmbdgmjaaVecP
namespace Go.Proofs.Ytfifbjlmbdgmjaa
open Go.RowKit Go.ChangeShapes

/-- What is asked of a list of vectors that came in. -/
def VecRow (w : World) (a : Option Addr) (len cap : Nat) (L : List (List Nat)) : Prop := L.length = len ∧ len ≤ cap ∧ cap ≤ maxLen ∧ (∀ v ∈ L, VecOK v) ∧ RdC w a (vecs L)
theorem vecRows_of {H : Type} {enc : TypeId × Value → H} {W : World} {a : Option Addr} {len cap : Nat} {d : DataW H} {p : List MemPlace}
    (h : DataW.Trod enc Try.prog W 0 (fun _ => true) true 43 (.slice a len cap) d p) : ∃ L, VecRow W a len cap L := by
  obtain ⟨fuel, hf⟩ := h
  have hc : Try.prog.cellsOf 24 = 16 := by kernel_rfl
  rcases Go.Deep.open_slice Try.underlying43 hf with ⟨hcs, _⟩ | ⟨x, l, c, m, n, D, Pl, hcs, _, hl, hm, hmm, _, hcell⟩
  · simp [Value.cells] at hcs
    obtain ⟨rfl, rfl, rfl⟩ := hcs
    exact ⟨[], rfl, Nat.le_refl _, by unfold maxLen; omega, (fun v hv => by cases hv), RdC.nil _ _⟩
  · simp [Value.cells] at hcs
    obtain ⟨rfl, rfl, rfl⟩ := hcs
    have hlm : len ≤ m := by rw [hmm]; split <;> omega
    have one : ∀ i, i < len → ∃ v : List Nat, VecOK v ∧ ∀ r (hr : r < v.length), W.cell? (x.add (i * 16 + r)) = some (.int .u32 (v[r] : Int)) := fun i hi => by
      obtain ⟨cs', h1, h2⟩ := hcell i (by omega)
      rw [hc] at h1
      obtain ⟨v, hv, hok⟩ := arr32_v (v := .agg cs'.toArray) (d := D i) (p := Pl i) Try.underlying24 Try.underlying22 (by kernel_rfl) hc ⟨n, by simpa [Value.cells] using h2⟩
      refine ⟨v, hok, fun r hr => ?_⟩
      obtain ⟨_, hlen, hcl⟩ := World.cells?_some h1
      have hv2 : cs' = (vC v).toList := by
        injection hv with hv
        rw [← hv]
      have := hcl r (by rw [← hok.1]; exact hr)
      rw [hv2, Array.getElem?_toList, vC_get v r hr, Go.Deep.add_add] at this
      exact this
    obtain ⟨f, hfn⟩ := Go.Deep.choose_lt (α := List Nat) one
    have hall : ∀ v ∈ (List.range len).map f, VecOK v := fun v hv => by
      obtain ⟨i, hi, rfl⟩ := List.mem_map.1 hv
      exact (hfn i (List.mem_range.1 hi)).1
    refine ⟨(List.range len).map f, by simp, hl, hm, hall, fun j u hj => ⟨_, rfl, ?_⟩⟩
    have h16 : ∀ v ∈ (List.range len).map f, v.length = 16 := fun v hv => (hall v hv).1
    have hjl : j < 16 * len := by
      have := (List.getElem?_eq_some_iff.1 hj).1
      rw [vecs_length _ h16] at this
      simpa using this
    have hi : j / 16 < len := by omega
    have hfi := hfn (j / 16) hi
    have hg := vecs_get _ h16 (j / 16) (j % 16) (by simpa using hi) (by omega) (by simp [hfi.1.1]; omega)
    rw [show j / 16 * 16 + j % 16 = j by omega, hj] at hg
    cases hg
    have := hfi.2 (j % 16) (by rw [hfi.1.1]; omega)
    rw [show j / 16 * 16 + j % 16 = j by omega] at this
    rw [this]
    simp
theorem elt_vec : Elt Try.prog 43 24 16 64 (.agg (vC z16)) := ⟨Try.underlying43, by kernel_rfl, rfl, by omega⟩
theorem vecs_one (L : List (List Nat)) : ∀ u ∈ vecs L, u.oneCell' = true := fun u hu => by
  unfold vecs at hu
  obtain ⟨l, hl, hu⟩ := List.mem_flatten.1 hu
  obtain ⟨v, _, rfl⟩ := List.mem_map.1 hl
  exact vC_one v u hu
end Go.Proofs.Ytfifbjlmbdgmjaa
