/- Vectors that came in, opened; loads of whole variables, guarded. -/
import Derived.Test.YtfifbjlmbdgmjaaVecO
import Derived.Test.YtfifbjlmbdgmjaaOpen
import Derived.OpenShut
import Derived.Deep.Slices
namespace Go.Proofs.Ytfifbjlmbdgmjaa
open Go.RowKit Go.ChangeShapes

/-- What is asked of a vector that came in. -/
def VecOK (l : List Nat) : Prop := l.length = 16 ∧ small l
theorem wpList_load_rowW {P : Program} {ops : Array Oper} {rest : List Oper} {o : Oper} {a : Act} {w : World} {Q : Exit → Act → World → Prop} (hw : Region.wanted o (yielded ops a.tmps) = true) (ty : TypeId) (x : Operand) (ho : o.op = .load ty x) (g : Nat) (hx : a.eval x = .pointer (some ⟨g, 0, none⟩)) (t : TypeId) (cs : Array Value) (fr : Nat × Nat) (d : TypeDesc)
    (hg : w.heap[g]? = some (.cells cs t fr)) (hu : P.underlying ty = some d) (hd : (match d with | .struct _ | .array _ _ => true | _ => false) = true) (hi : (P.info? ty).map (·.size) = some cs.size)
    (h : wpList P ops Q rest (a.put o.dst (.agg cs)) w) : wpList P ops Q (o :: rest) a w :=
  wpList_step fun K hK => by
    rw [if_pos hw]
    exact wp_load_row ty x ho g hx t cs fr d hg hu hd hi (hK _ _ h)
theorem arr32_of {P : Program} {H : Type} {enc : TypeId × Value → H} {W : World} {t e : TypeId} {n : Nat} {cs : Array Value} {d : DataW H} {p : List MemPlace} (ht : P.underlying t = some (.array n e)) (he : P.underlying e = some (.int .u32)) (hc : P.cellsOf e = 1) (hct : P.cellsOf t = n)
    (h : DataW.Trod enc P W 0 (fun _ => true) true t (.agg cs) d p) : ∃ l : List Nat, cs = vC l ∧ l.length = n ∧ small l := by
  obtain ⟨fuel, hf⟩ := h
  obtain ⟨xs, m, _, _, hl, hxl, hel⟩ := DataW.trod_array ht hf
  have hcl : cs.size = n := by simpa [Value.cells, hct] using hl
  have one : ∀ i, i < n → ∃ b : Nat, b < 4294967296 ∧ cs[i]? = some (.int .u32 (b : Int)) := fun i hi => by
    have h1 := hel i hi
    rw [hc, Nat.mul_one, List.getElem?_eq_getElem (by omega)] at h1
    have hd : ((Value.agg cs).cells.toList.drop i).take 1 = [cs[i]'(by omega)] := by
      simp only [Value.cells]
      rw [List.drop_eq_getElem_cons (by simp; omega), List.take_succ_cons, List.take_zero]
      simp
    rw [hd] at h1
    obtain ⟨z, hz, _, hw⟩ := DataW.trod_int he h1
    obtain ⟨b, rfl, hb⟩ := u32_of_wf hw
    refine ⟨b, hb, ?_⟩
    rw [Array.getElem?_eq_getElem (by omega)]
    simpa using hz
  obtain ⟨f, hfn⟩ := Go.Deep.choose_lt (α := Nat) one
  refine ⟨(List.range n).map f, ?_, by simp, fun x hx => ?_⟩
  · apply Array.ext (by simp [vC_size, hcl])
    intro i h1 h2
    have := (hfn i (by omega)).2
    rw [Array.getElem?_eq_getElem h1] at this
    simp only [Option.some.injEq] at this
    rw [this]
    simp [vC, intsC]
  · obtain ⟨i, hi, rfl⟩ := List.mem_map.1 hx
    exact (hfn i (List.mem_range.1 hi)).1
theorem arr32_v {P : Program} {H : Type} {enc : TypeId × Value → H} {W : World} {t e : TypeId} {v : Value} {d : DataW H} {p : List MemPlace} (ht : P.underlying t = some (.array 16 e)) (he : P.underlying e = some (.int .u32)) (hc : P.cellsOf e = 1) (hct : P.cellsOf t = 16)
    (h : DataW.Trod enc P W 0 (fun _ => true) true t v d p) : ∃ l : List Nat, v = .agg (vC l) ∧ VecOK l := by
  have h0 := h
  obtain ⟨fuel, hf⟩ := h
  obtain ⟨xs, m, _, _, hl, _⟩ := DataW.trod_array ht hf
  rw [hct] at hl
  cases v with
  | agg cs =>
    obtain ⟨l, rfl, hl2⟩ := arr32_of ht he hc hct h0
    exact ⟨l, rfl, hl2⟩
  | _ => exfalso; simp [Value.cells] at hl
end Go.Proofs.Ytfifbjlmbdgmjaa
