/- net's law: api.Flight as an element. -/
import Derived.Test.YtfojlmnlolnilaaNetU
namespace Go.Proofs.Ytfojlmnlolnilaa
open Go.RowKit

theorem info38 : (Try.prog.info? 38).map (fun i => (i.zero, i.size, i.bytes)) = some (some (.agg #[.int .i64 0, .int .i64 0, .slice none 0 0]), 3, 40) := by kernel_rfl
theorem elt38 : Elt Try.prog 35 38 3 40 (.agg #[.int .i64 0, .int .i64 0, .slice none 0 0]) := ⟨Try.underlying35, info38, rfl, by omega⟩
theorem rd_lits {W : World} {b : Nat} {cs : List Value} {t : TypeId} {fr : Nat × Nat} (h : W.heap[b]? = some (.cells cs.toArray t fr)) : RdC W (some ⟨b, 0, none⟩) cs := fun j u hj => by
  refine ⟨_, rfl, ?_⟩
  rw [addr_add_plain, Nat.zero_add, cell_of_row _ _ j _ _ _ h]
  simpa using hj
end Go.Proofs.Ytfojlmnlolnilaa
