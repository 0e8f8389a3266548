/- Ways of spoiling that came in, opened. -/
import Derived.Test.YtfojlmnlolnilaaOpen
import Derived.Test.YtfojlmnlolnilaaNetA
import Derived.ChangeSame
import Derived.Deep.Strs
namespace Go.Proofs.Ytfojlmnlolnilaa
open Go.RowKit Go.ChangeShapes Go.Deep

theorem spoil_v {H : Type} {enc : TypeId × Value → H} {W : World} {v : Value} {d : DataW H} {p : List MemPlace} (h : DataW.Trod enc Try.prog W 0 (fun _ => true) true 25 v d p) :
    ∃ (b : Bool) (x : Int) (m : Nat), v = .agg #[.bool b, .int .i64 x, .int .u32 m] ∧ (-9223372036854775808 ≤ x ∧ x ≤ 9223372036854775807) ∧ m < 4294967296 := by
  obtain ⟨fuel, hf⟩ := h
  obtain ⟨y0, y1, y2, n, _, hl, h0, h1, h2⟩ := trod_struct3 Try.underlying25 hf
  have hc : Try.prog.cellsOf 25 = 3 := by kernel_rfl
  have hi : Try.prog.cellsOf 3 = 1 := by kernel_rfl
  have hb : Try.prog.cellsOf 4 = 1 := by kernel_rfl
  have hu : Try.prog.cellsOf 23 = 1 := by kernel_rfl
  rw [hc] at hl
  have key : ∀ (cs : List Value), cs.length = 3 → ∃ x y z, cs = [x, y, z] := fun cs h => by
    match cs, h with
    | [x, y, z], _ => exact ⟨x, y, z, rfl⟩
  obtain ⟨x, y, z, hxy⟩ := key _ hl
  rw [hxy] at h0 h1 h2
  simp only [hi, hb, hu, List.drop_zero, List.take_succ_cons, List.take_zero, List.drop_succ_cons] at h0 h1 h2
  obtain ⟨z0, e0, _⟩ := DataW.trod_bool Try.underlying4 h0
  obtain ⟨z1, e1, _, w1⟩ := DataW.trod_int Try.underlying3 h1
  obtain ⟨z2, e2, _, w2⟩ := DataW.trod_int Try.underlying23 h2
  cases e0
  cases e1
  cases e2
  obtain ⟨m, rfl, hm⟩ := u32_of_wf w2
  refine ⟨z0, z1, m, ?_, i64_of_wf w1, hm⟩
  cases v with
  | agg cs =>
    simp only [Value.cells] at hxy
    congr 1
    apply Array.ext'
    rw [hxy]
  | _ => simp [Value.cells] at hxy
theorem size_sp {a b c : Value} : (Try.prog.info? 25).map (·.size) = some (#[a, b, c] : Array Value).size := by kernel_rfl
end Go.Proofs.Ytfojlmnlolnilaa
