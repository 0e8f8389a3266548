/- Dots that came in, opened. -/
import Derived.Test.YtfifbjlmbdgmjaaVecD
import Derived.ChangeSame
namespace Go.Proofs.Ytfifbjlmbdgmjaa
open Go.RowKit Go.ChangeShapes

theorem dot_v {H : Type} {enc : TypeId × Value → H} {W : World} {v : Value} {d : DataW H} {p : List MemPlace} (h : DataW.Trod enc Try.prog W 0 (fun _ => true) true 35 v d p) :
    ∃ s c : Int, v = .agg (dC s c) ∧ (-9223372036854775808 ≤ s ∧ s ≤ 9223372036854775807) ∧ (-9223372036854775808 ≤ c ∧ c ≤ 9223372036854775807) := by
  obtain ⟨fuel, hf⟩ := h
  obtain ⟨y0, y1, n, _, hl, h0, h1⟩ := trod_struct2 Try.underlying35 hf
  have hc : Try.prog.cellsOf 35 = 2 := by kernel_rfl
  have hi : Try.prog.cellsOf 3 = 1 := by kernel_rfl
  rw [hc] at hl
  have key : ∀ (cs : List Value), cs.length = 2 → ∃ x y, cs = [x, y] := fun cs h => by
    match cs, h with
    | [x, y], _ => exact ⟨x, y, rfl⟩
  obtain ⟨x, y, hxy⟩ := key _ hl
  rw [hxy] at h0 h1
  simp only [hi, List.drop_zero, List.take_succ_cons, List.take_zero, List.drop_succ_cons] at h0 h1
  obtain ⟨z0, e0, _, w0⟩ := DataW.trod_int Try.underlying3 h0
  obtain ⟨z1, e1, _, w1⟩ := DataW.trod_int Try.underlying3 h1
  cases e0
  cases e1
  refine ⟨z0, z1, ?_, i64_of_wf w0, i64_of_wf w1⟩
  cases v with
  | agg cs =>
    simp only [Value.cells] at hxy
    congr 1
    apply Array.ext'
    rw [hxy]
    rfl
  | _ => simp [Value.cells] at hxy
end Go.Proofs.Ytfifbjlmbdgmjaa
