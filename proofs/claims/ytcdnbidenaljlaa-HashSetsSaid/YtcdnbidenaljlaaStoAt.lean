/- A store of several cells into the midst of a row. No program in sight. -/
import Derived.Test.YtcdnbidenaljlaaB
import Derived.Laws.CopyRow
namespace Go.Proofs.Ytcdnbidenaljlaa
open Go.RowKit

theorem wp_store_at {P : Program} {o : Oper} {a : Act} {w : World} {K : Act → World → Prop} {Q : Exit → Act → World → Prop} (ty : TypeId) (x y : Operand) (ho : o.op = .store ty x y) (g off : Nat) (hx : a.eval x = .pointer (some ⟨g, off, none⟩)) (vs : Array Value) (hy : a.eval y = .agg vs)
    (cur : Array Value) (t : TypeId) (hg : w.heap[g]? = some (.cells cur t (0, 0))) (hfit : off + vs.size ≤ cur.size) (h1 : ∀ v ∈ vs.toList, v.oneCell' = true) (hs : (P.info? ty).map (·.size) = some vs.size) (hd : o.dst = none)
    (hK : K a (w.setRow g (cur.toList.take off ++ vs.toList ++ cur.toList.drop (off + vs.size)).toArray)) : o.wp P a w K Q := by
  have hst := run_storeCells_at P g off t vs.toList 0 cur w hg (by simpa using hfit) h1
  cases hq : P.info? ty with
  | none => simp [hq] at hs
  | some i =>
    have hsz : i.size = vs.size := by simpa [hq] using hs
    unfold Oper.wp execOp
    simp only [ho, hx, hy, Instr.storeAt, Instr.sureAddr, Sem.run_bind, Sem.run_pure, Result.andThen_ok, storeVar, sizeOf, typeInfo, hq]
    simp only [Nat.add_zero, Array.length_toList] at hst
    simp [hq, hsz, Value.cells, go_sem, hst, Oper.upon, hd, Act.put]
    rw [List.append_assoc] at hK
    exact hK
end Go.Proofs.Ytcdnbidenaljlaa
