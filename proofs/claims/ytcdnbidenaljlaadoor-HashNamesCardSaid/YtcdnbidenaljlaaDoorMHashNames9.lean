/- Ids that came in, opened. -/
import Derived.Test.YtcdnbidenaljlaaDoorMHashNames6
import Derived.Test.YtcdnbidenaljlaaDoorMHashNames8
import Derived.OpenShut
import Derived.Deep.Slices
namespace Go.Proofs.YtcdnbidenaljlaaDoor
open Go.RowKit Go.ChangeShapes

theorem arr8_of {P : Program} {H : Type} {enc : TypeId × Value → H} {W : World} {t e : TypeId} {n : Nat} {cs : Array Value} {d : DataW H} {p : List MemPlace} (ht : P.underlying t = some (.array n e)) (he : P.underlying e = some (.int .u8)) (hc : P.cellsOf e = 1) (hct : P.cellsOf t = n)
    (h : DataW.Trod enc P W 0 (fun _ => true) true t (.agg cs) d p) : ∃ l : List UInt8, cs = idC l ∧ l.length = n := by
  obtain ⟨fuel, hf⟩ := h
  obtain ⟨xs, m, _, _, hl, hxl, hel⟩ := DataW.trod_array ht hf
  have hcl : cs.size = n := by simpa [Value.cells, hct] using hl
  have one : ∀ i, i < n → ∃ b : UInt8, cs[i]? = some (.int .u8 (b.toNat : Int)) := fun i hi => by
    have h1 := hel i hi
    rw [hc, Nat.mul_one, List.getElem?_eq_getElem (by omega)] at h1
    have hd : ((Value.agg cs).cells.toList.drop i).take 1 = [cs[i]'(by omega)] := by
      simp only [Value.cells]
      rw [List.drop_eq_getElem_cons (by simp; omega), List.take_succ_cons, List.take_zero]
      simp
    rw [hd] at h1
    obtain ⟨z, hz, _, hw⟩ := DataW.trod_int he h1
    obtain ⟨b, rfl⟩ := u8_of_wf hw
    refine ⟨b, ?_⟩
    rw [Array.getElem?_eq_getElem (by omega)]
    simpa using hz
  haveI : Inhabited UInt8 := ⟨0⟩
  obtain ⟨f, hfn⟩ := Go.Deep.choose_lt (α := UInt8) one
  refine ⟨(List.range n).map f, ?_, by simp⟩
  apply Array.ext (by simp [idC, u8v_length, hcl])
  intro i h1 h2
  have := hfn i (by omega)
  rw [Array.getElem?_eq_getElem h1] at this
  simp only [Option.some.injEq] at this
  rw [this]
  simp [idC, u8v]
theorem arr8_v {P : Program} {H : Type} {enc : TypeId × Value → H} {W : World} {t e : TypeId} {n : Nat} {v : Value} {d : DataW H} {p : List MemPlace} (ht : P.underlying t = some (.array n e)) (he : P.underlying e = some (.int .u8)) (hc : P.cellsOf e = 1) (hct : P.cellsOf t = n) (hn : n ≠ 1)
    (h : DataW.Trod enc P W 0 (fun _ => true) true t v d p) : ∃ l : List UInt8, v = .agg (idC l) ∧ l.length = n := by
  have h0 := h
  obtain ⟨fuel, hf⟩ := h
  obtain ⟨xs, m, _, _, hl, _⟩ := DataW.trod_array ht hf
  rw [hct] at hl
  cases v with
  | agg cs =>
    obtain ⟨l, rfl, hl2⟩ := arr8_of ht he hc hct h0
    exact ⟨l, rfl, hl2⟩
  | _ => exfalso; simp [Value.cells] at hl; omega
end Go.Proofs.YtcdnbidenaljlaaDoor
