/- Texts of this proof, laid into one: ShaZ, SetZ. -/
import Derived.Test.YtcdnbidenaljlaaDoorRows
import Derived.Test.YtcdnbidenaljlaaDoorMHashNames20
import Derived.ProofKit
import Derived.LaidMore
import Derived.OpenShut
import Derived.Stop.Joined
import Derived.Deep.Slices
/- hash's tables, as they are laid. -/
namespace Go.Proofs.YtcdnbidenaljlaaDoor
open Go.ChangeShapes Go.WideShapes Go.ChangeAt Go.RowKit

/-- Cells that read as a known row of numbers are these numbers. -/
theorem u32C_of {P : Program} {H : Type} {enc : TypeId × Value → H} {W : World} {base : Nat} {sp : Nat → Bool} {held : Bool} {fuel : Nat} {t e : TypeId} {n : Nat} {cs : List Value} {ns : List Nat} {p : List MemPlace} (ht : P.underlying t = some (.array n e)) (he : P.underlying e = some (.int .u32)) (hc : P.cellsOf e = 1) (hct : P.cellsOf t = n)
    (hn : ns.length = n) (h : DataW.trod enc P W base sp held fuel t cs = some (.agg (ns.map fun (k : Nat) => .lit (.int .u32 (k : Int))), p)) : cs = (u32C ns).toList := by
  obtain ⟨xs, m, _, hx, hl, hxl, hel⟩ := DataW.trod_array ht h
  have hcl : cs.length = n := by rw [hl, hct]
  have hx1 : ns.map (fun (k : Nat) => (DataW.lit (.int .u32 (k : Int)) : DataW H)) = xs.map (·.1) := by
    have := (Prod.mk.inj hx).1
    injection this
  refine List.ext_getElem (by simp [u32C, hcl, hn]) fun i h1 h2 => ?_
  have hi : i < n := by omega
  have h3 := hel i hi
  rw [hc, Nat.mul_one, List.getElem?_eq_getElem (by omega)] at h3
  have hd : (cs.drop i).take 1 = [cs[i]] := by rw [List.drop_eq_getElem_cons h1, List.take_succ_cons, List.take_zero]
  rw [hd] at h3
  obtain ⟨z, hz, hz2, _⟩ := DataW.trod_int he h3
  have h4 : (xs.map (·.1))[i]? = some (xs[i]'(by omega)).1 := by simp [hxl, hi]
  rw [← hx1, hz2] at h4
  simp only [List.getElem?_map, List.getElem?_eq_getElem (show i < ns.length by omega), Option.map_some, Option.some.injEq, DataW.lit.injEq, Lit.int.injEq, true_and] at h4
  have h5 : cs[i] = .int .u32 z := by simpa using hz
  rw [h5, ← h4]
  simp [u32C]
def laidL : List (String × DataW Unit) := [("marshes/hash.begin", Rows.laid_marshes_hash_begin), ("marshes/hash.factors", Rows.laid_marshes_hash_factors)]
theorem gBeg : Tryd.prog.globalNamed "marshes/hash.begin" = some 0 := by kernel_rfl
theorem gFac : Tryd.prog.globalNamed "marshes/hash.factors" = some 1 := by kernel_rfl
theorem tBeg : (Tryd.prog.globals[0]?).map (·.type) = some 28 := by kernel_rfl
theorem tFac : (Tryd.prog.globals[1]?).map (·.type) = some 84 := by kernel_rfl
theorem row_of_var {W : World} {name : String} {g : Nat} {cs : Array Value} (hg : Tryd.prog.globalNamed name = some g) (h : W.var? Tryd.prog name = some cs) : ∃ t fr, W.heap[g]? = some (.cells cs t fr) := by
  unfold World.var? at h
  rw [hg] at h
  simp only [Option.bind_some] at h
  split at h
  · rename_i cs' t fr hh
    cases h
    exact ⟨t, fr, hh⟩
  · cases h
theorem tabs_of_laid {W : World} (h : laidMetH Tryd.prog laidL W) : TabsOK W := by
  rw [MakeChecks.laidMetH_plain _ _ _ (by kernel_rfl)] at h
  obtain ⟨ps, ⟨g0, t0, cs0, f0, p0, q0, hg0, ht0, hv0, hd0, ⟨g1, t1, cs1, f1, p1, q1, hg1, ht1, hv1, hd1, _, _⟩, _⟩, _, _⟩ := h
  obtain rfl := Option.some.inj (gBeg.symm.trans hg0)
  obtain rfl := Option.some.inj (gFac.symm.trans hg1)
  obtain rfl := Option.some.inj (tBeg.symm.trans ht0)
  obtain rfl := Option.some.inj (tFac.symm.trans ht1)
  have e0 := u32C_of (ns := S8.begin.l) Tryd.underlying28 Tryd.underlying27 (by kernel_rfl) (by kernel_rfl) rfl hd0
  have e1 := u32C_of (ns := ks) Tryd.underlying84 Tryd.underlying27 (by kernel_rfl) (by kernel_rfl) rfl hd1
  have e0' : cs0 = u32C S8.begin.l := Array.ext' e0
  have e1' : cs1 = u32C ks := Array.ext' e1
  subst e0'
  subst e1'
  exact ⟨row_of_var gFac hv1, row_of_var gBeg hv0⟩
theorem door_met (os : Os) (args : Array Value) : laidMetH Tryd.prog laidL ((World.doorLaid Tryd.prog 400 os).forCall (fun _ _ => 0) ⟨#[], args, []⟩).memory :=
  laidMetH_of_parts3 (fuel := 8) (laidMet_of_run' 8 (by kernel_rfl) (by kernel_rfl)) (by kernel_rfl) (by kernel_rfl)
end Go.Proofs.YtcdnbidenaljlaaDoor

/- hash's tables, as HashNames' row lists them. -/
namespace Go.Proofs.YtcdnbidenaljlaaDoor
open Go.ChangeShapes Go.WideShapes Go.ChangeAt Go.RowKit

set_option maxRecDepth 100000 in
theorem tabs_of_names {W : World} (h : laidMetH Tryd.prog Rows.hashNamesRow.laid W) : TabsOK W := by
  rw [MakeChecks.laidMetH_plain _ _ _ (by kernel_rfl)] at h
  obtain ⟨ps, ⟨_, _, _, _, _, _, _, _, _, _, ⟨g0, t0, cs0, f0, p0, q0, hg0, ht0, hv0, hd0, ⟨g1, t1, cs1, f1, p1, q1, hg1, ht1, hv1, hd1, _, _⟩, _⟩, _⟩, _, _⟩ := h
  obtain rfl := Option.some.inj (gBeg.symm.trans hg0)
  obtain rfl := Option.some.inj (gFac.symm.trans hg1)
  obtain rfl := Option.some.inj (tBeg.symm.trans ht0)
  obtain rfl := Option.some.inj (tFac.symm.trans ht1)
  have e0 := u32C_of (ns := S8.begin.l) Tryd.underlying28 Tryd.underlying27 (by kernel_rfl) (by kernel_rfl) rfl hd0
  have e1 := u32C_of (ns := ks) Tryd.underlying84 Tryd.underlying27 (by kernel_rfl) (by kernel_rfl) rfl hd1
  have e0' : cs0 = u32C S8.begin.l := Array.ext' e0
  have e1' : cs1 = u32C ks := Array.ext' e1
  subst e0'
  subst e1'
  exact ⟨row_of_var gFac hv1, row_of_var gBeg hv0⟩
end Go.Proofs.YtcdnbidenaljlaaDoor

