/- Arrays and whole variables in memory: laws for the walk in which the cells stay behind a name. No program is in sight but for the tables of types. -/
import Derived.Test.YtcdnbidenaljlaaB
import Derived.Deep.MidRow
namespace Go.Proofs.Ytcdnbidenaljlaa
open Go.RowKit

section
variable {P : Program} {ops : Array Oper} {rest : List Oper} {o : Oper} {a : Act} {w : World} {Q : Exit → Act → World → Prop}

/-- 'var x T': its zero cells stay behind a name. -/
theorem wpList_alloc_z (hgd : o.guard = none) (ty : TypeId) (ho : o.op = .alloc ty) (Z : Array Value) (hz : (P.info? ty).bind (fun i => i.zero.map Value.cells) = some Z)
    (h : wpList P ops Q rest (a.put o.dst (.pointer (some ⟨w.heap.size, 0, none⟩))) (w.alloc (.cells Z ty))) : wpList P ops Q (o :: rest) a w := by
  refine wpList_plain hgd fun K hK => ?_
  cases hq : P.info? ty with
  | none => simp [hq] at hz
  | some i =>
    cases hq2 : i.zero with
    | none => simp [hq, hq2] at hz
    | some v =>
      have hv : v.cells = Z := by simpa [hq, hq2] using hz
      unfold Oper.wp execOp
      simp only [ho, Instr.alloc, zeroValue, typeInfo, Sem.run_bind, Sem.run_pure, hq]
      simp [hq, hq2, newVar, newRow, hv]
      exact hK _ _ h

/-- A whole variable is stored into its block. -/
theorem wpList_store_z (hgd : o.guard = none) (ty : TypeId) (x y : Operand) (ho : o.op = .store ty x y) (g : Nat) (hx : a.eval x = .pointer (some ⟨g, 0, none⟩)) (cs : Array Value) (hy : a.eval y = .agg cs)
    (cur : Array Value) (t : TypeId) (hg : w.heap[g]? = some (.cells cur t (0, 0))) (hs : cs.size = cur.size) (hi : (P.info? ty).map (·.size) = some cs.size) (h1 : ∀ u ∈ cs.toList, u.oneCell' = true)
    (h : wpList P ops Q rest (a.put o.dst undef) (w.setRow g cs)) : wpList P ops Q (o :: rest) a w := by
  refine wpList_plain hgd fun K hK => ?_
  have hrun : (storeCells ⟨g, 0, none⟩ cs.toList 0).run P w = .ok () (w.setRow g cs) := by
    have := run_storeCells_at P g 0 t cs.toList 0 cur w hg (by simp [hs]) h1
    rw [this]
    congr 2
    apply Array.ext'
    simp [hs]
  cases hq : P.info? ty with
  | none => simp [hq] at hi
  | some i =>
    have hsz : cs.size = i.size := by simp [hq] at hi; omega
    unfold Oper.wp execOp
    simp only [ho, hx, hy, Instr.storeAt, Instr.sureAddr, Sem.run_bind, Sem.run_pure, Result.andThen_ok, storeVar, sizeOf, typeInfo, hq]
    simp [hq, Value.cells, hsz, hrun]
    exact hK _ _ h
end

/-- An element of an array value, read by an index. -/
theorem run_index_agg {P : Program} (w : World) (T e : TypeId) (n : Nat) (k : IntKind) (i : Int) (cs : Array Value) (v : Value) (ht : P.underlying T = some (.array n e)) (hs : (P.info? e).map (·.size) = some 1) (ha : (isAgg e).run P w = .ok false w)
    (h0 : 0 ≤ i) (h1 : i < n) (hv : cs[i.toNat]? = some v) : (Instr.index T (.agg cs) (.int k i)).run P w = .ok v w := by
  cases hq : P.info? e with
  | none => simp [hq] at hs
  | some inf =>
    have hsz : inf.size = 1 := by simpa [hq] using hs
    simp [Instr.index, asIntOf, run_underlying ht, h0, h1, part, ha, sizeOf, typeInfo, hq, hsz, hv]
end Go.Proofs.Ytcdnbidenaljlaa
