/- Lists of ids that came in, opened. -/
import Derived.Test.YtcdnbidenaljlaaDoorMHashNames15
import Derived.Test.YtcdnbidenaljlaaDoorMHashNames9
namespace Go.Proofs.YtcdnbidenaljlaaDoor
open Go.RowKit Go.ChangeShapes

/-- What is asked of a list of ids that came in. -/
def IdRow (w : World) (a : Option Addr) (len cap : Nat) (L : List (List UInt8)) : Prop := L.length = len ∧ len ≤ cap ∧ cap ≤ maxLen ∧ (∀ v ∈ L, v.length = 32) ∧ RdC w a (idsC L)
/-- A list that is read cell by cell is read id by id. -/
theorem RdIds.of_rd {w : World} {A : Option Addr} {L : List (List UInt8)} (h : ∀ x ∈ L, x.length = 32) (hr : RdC w A (idsC L)) : RdIds w A L := by
  intro k hk
  have hp : 0 < (idsC L).length := by rw [idsC_length L h]; omega
  refine RdIds.of_row h hr (fun ad e => ?_) k hk
  obtain ⟨ad', e', hc⟩ := hr 0 _ (List.getElem?_eq_getElem hp)
  rw [e] at e'
  cases e'
  rw [addr_add_zero] at hc
  unfold World.cell? at hc
  obtain ⟨b, o, sp⟩ := ad
  cases sp with
  | none => rfl
  | some s => split at hc <;> simp at hc
set_option maxRecDepth 100000 in
theorem idRows_of {H : Type} {enc : TypeId × Value → H} {W : World} {a : Option Addr} {len cap : Nat} {d : DataW H} {p : List MemPlace}
    (h : DataW.Trod enc Tryd.prog W 0 (fun _ => true) true 47 (.slice a len cap) d p) : ∃ L, IdRow W a len cap L := by
  obtain ⟨fuel, hf⟩ := h
  have hc : Tryd.prog.cellsOf 25 = 32 := by kernel_rfl
  rcases Go.Deep.open_slice Tryd.underlying47 hf with ⟨hcs, _⟩ | ⟨x, l, c, m, n, D, Pl, hcs, _, hl, hm, hmm, _, hcell⟩
  · simp [Value.cells] at hcs
    obtain ⟨rfl, rfl, rfl⟩ := hcs
    exact ⟨[], rfl, Nat.le_refl _, by unfold maxLen; omega, (fun v hv => by cases hv), RdC.nil _ _⟩
  · simp [Value.cells] at hcs
    obtain ⟨rfl, rfl, rfl⟩ := hcs
    have hlm : len ≤ m := by rw [hmm]; split <;> omega
    have one : ∀ i, i < len → ∃ v : List UInt8, v.length = 32 ∧ ∀ r (hr : r < v.length), W.cell? (x.add (i * 32 + r)) = some (.int .u8 (v[r].toNat : Int)) := fun i hi => by
      obtain ⟨cs', h1, h2⟩ := hcell i (by omega)
      rw [hc] at h1
      obtain ⟨v, hv, hok⟩ := arr8_v (v := .agg cs'.toArray) (d := D i) (p := Pl i) Tryd.underlying25 Tryd.underlying5 (by kernel_rfl) hc (by omega) ⟨n, by simpa [Value.cells] using h2⟩
      refine ⟨v, hok, fun r hr => ?_⟩
      obtain ⟨_, hlen, hcl⟩ := World.cells?_some h1
      have hv2 : cs' = u8v v := by
        injection hv with hv
        simpa [idC] using hv
      have := hcl r (by rw [← hok]; exact hr)
      rw [hv2, u8v_get v r hr, Go.Deep.add_add] at this
      exact this
    haveI : Inhabited (List UInt8) := ⟨[]⟩
    obtain ⟨f, hfn⟩ := Go.Deep.choose_lt (α := List UInt8) one
    have hall : ∀ v ∈ (List.range len).map f, v.length = 32 := fun v hv => by
      obtain ⟨i, hi, rfl⟩ := List.mem_map.1 hv
      exact (hfn i (List.mem_range.1 hi)).1
    refine ⟨(List.range len).map f, by simp, hl, hm, hall, fun j u hj => ⟨_, rfl, ?_⟩⟩
    have hjl : j < len * 32 := by
      have := (List.getElem?_eq_some_iff.1 hj).1
      rw [idsC_length _ hall] at this
      simpa using this
    have hi : j / 32 < len := by omega
    have hfi := hfn (j / 32) hi
    have hg := idsC_get _ hall (j / 32) (by simpa using hi) (j % 32) (by omega)
    rw [show j / 32 * 32 + j % 32 = j by omega, hj] at hg
    rw [u8v_get _ _ (by simp [hfi.1]; omega)] at hg
    cases hg
    have := hfi.2 (j % 32) (by rw [hfi.1]; omega)
    rw [show j / 32 * 32 + j % 32 = j by omega] at this
    rw [this]
    simp
end Go.Proofs.YtcdnbidenaljlaaDoor
