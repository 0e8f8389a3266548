/- Names of refs: what the laws on conflict names share. -/
import Derived.Test.YtmfncojkpkoijaaDoorNmI
import Derived.Test.YtmfncojkpkoijaaDoorHashO
import Derived.Test.YtmfncojkpkoijaaDoorNmLaw1
namespace Go.Proofs.YtmfncojkpkoijaaDoor
open Go.RowKit
set_option linter.unusedVariables false

theorem wpList_load_rowW {P : Program} {ops : Array Oper} {rest : List Oper} {o : Oper} {a : Act} {w : World} {Q : Exit → Act → World → Prop} (hw : Region.wanted o (yielded ops a.tmps) = true) (ty : TypeId) (x : Operand) (ho : o.op = .load ty x) (g : Nat) (hx : a.eval x = .pointer (some ⟨g, 0, none⟩)) (t : TypeId) (cs : Array Value) (fr : Nat × Nat) (d : TypeDesc)
    (hg : w.heap[g]? = some (.cells cs t fr)) (hu : P.underlying ty = some d) (hd : (match d with | .struct _ | .array _ _ => true | _ => false) = true) (hi : (P.info? ty).map (·.size) = some cs.size)
    (h : wpList P ops Q rest (a.put o.dst (.agg cs)) w) : wpList P ops Q (o :: rest) a w :=
  wpList_step fun K hK => by
    rw [if_pos hw]
    exact wp_load_row ty x ho g hx t cs fr d hg hu hd hi (hK _ _ h)
/-- A new whole variable, stored into at once. -/
theorem new_set {w : World} {g : Nat} {o : Obj} (Z V : Array Value) (t : TypeId) (h : w.heap[g]? = some o) : ((w.alloc (.cells Z t)).setRow w.heap.size V).heap[g]? = some o := by
  have hlt := (Array.getElem?_eq_some_iff.1 h).1
  rw [setRow_other _ _ _ _ (by omega)]
  exact get_below ((Below.refl _ w).alloc (Nat.le_refl _) (.cells Z t)) h
theorem new_set_own (w : World) (Z V : Array Value) (t : TypeId) : ((w.alloc (.cells Z t)).setRow w.heap.size V).heap[w.heap.size]? = some (.cells V t (0, 0)) := setRow_heap _ _ _ _ _ _ (heap_alloc_new w _)
theorem new_set_below (w : World) (Z V : Array Value) (t : TypeId) : Below w.heap.size w ((w.alloc (.cells Z t)).setRow w.heap.size V) := below_setRow ((Below.refl _ w).alloc (Nat.le_refl _) _) (Nat.le_refl _) V
end Go.Proofs.YtmfncojkpkoijaaDoor
