/- Rows of ids under stores, clear and slicing; what stays beside a row. -/
import Derived.Test.YtcdnbidenaljlaaSetGd
import Derived.Test.YtcdnbidenaljlaaSetS
namespace Go.Proofs.Ytcdnbidenaljlaa
open Go.RowKit

/-- Ids laid over part of a row. -/
theorem idsC_lay (M N : List (List UInt8)) (h : ∀ x ∈ M, x.length = 32) (hN : ∀ x ∈ N, x.length = 32) (T : List Value) (k : Nat) (hk : k + N.length ≤ M.length) :
    (idsC M ++ T).take (k * 32) ++ idsC N ++ (idsC M ++ T).drop (k * 32 + (idsC N).length) = idsC (M.take k ++ N ++ M.drop (k + N.length)) ++ T := by
  rw [idsC_length N hN, ← Nat.add_mul, idsC_take M h T k (by omega), idsC_drop M h T _ hk, ← List.append_assoc]
  simp only [idsC_app]
/-- What lies beside block g stays. -/
structure Rest (g : Nat) (w w' : World) : Prop where
  os : w'.os = w.os
  tape : w'.tape = w.tape
  output : w'.output = w.output
  size : w.heap.size ≤ w'.heap.size
  block : ∀ k, k < w.heap.size → k ≠ g → w'.heap[k]? = w.heap[k]?
theorem Rest.refl (g : Nat) (w : World) : Rest g w w := ⟨rfl, rfl, rfl, Nat.le_refl _, fun _ _ _ => rfl⟩
theorem Rest.of_grown {g : Nat} {w w' : World} (h : w.grownBy w' (some g)) : Rest g w w' := ⟨h.os, h.tape, h.output, h.size, fun k hk hne => h.block k hk fun e => hne (Option.some.inj e)⟩
theorem Rest.trans {g : Nat} {a b c : World} (h : Rest g a b) (k : Rest g b c) : Rest g a c := ⟨k.os.trans h.os, k.tape.trans h.tape, k.output.trans h.output, Nat.le_trans h.size k.size, fun i hi hne => (k.block i (Nat.lt_of_lt_of_le hi h.size) hne).trans (h.block i hi hne)⟩
theorem Rest.below {g : Nat} {a b c : World} (h : Rest g a b) (k : Below b.heap.size b c) : Rest g a c := h.trans ⟨k.os, k.tape, k.output, k.size, fun i hi _ => k.block i hi⟩
theorem Rest.setRow {g : Nat} {a b : World} (h : Rest g a b) (V : Array Value) : Rest g a (b.setRow g V) := h.trans ⟨rfl, rfl, rfl, by simp [World.setRow], fun i hi hne => setRow_other _ _ _ _ hne⟩
theorem Rest.toBelow {B g : Nat} {a b c : World} (h : Below B a b) (k : Rest g b c) (hB : B ≤ g) (hs : B ≤ b.heap.size) : Below B a c := ⟨k.os.trans h.os, k.tape.trans h.tape, k.output.trans h.output, Nat.le_trans h.size k.size, fun i hi => (k.block i (Nat.lt_of_lt_of_le hi hs) (by omega)).trans (h.block i hi)⟩
theorem zero_id_run (w : World) : (zeroValue 23).run Try.prog w = .ok (.agg (idC zeros)) w := by kernel_rfl
theorem zeroCells_ids (n : Nat) : (Builtin.zeroCells (idC zeros) n).toList = idsC (List.replicate n zeros) := by
  have hz : ∀ x ∈ List.replicate n zeros, x.length = 32 := fun x hx => by rw [List.eq_of_mem_replicate hx]; rfl
  have hs : (idC zeros).size = 32 := by rw [idC_size]; rfl
  apply List.ext_getElem?
  intro t
  have hl : (idsC (List.replicate n zeros)).length = n * 32 := by rw [idsC_length _ hz, List.length_replicate]
  by_cases ht : t < n * 32
  · have h1 := idsC_get (List.replicate n zeros) hz (t / 32) (by rw [List.length_replicate]; omega) (t % 32) (Nat.mod_lt _ (by omega))
    rw [show t / 32 * 32 + t % 32 = t by omega] at h1
    rw [h1]
    have h2 : t % 32 < (idC zeros).size := by rw [hs]; exact Nat.mod_lt _ (by omega)
    simp only [Builtin.zeroCells, hs, List.getElem_replicate]
    rw [Array.getElem?_toList, Array.getElem?_map, Array.getElem?_range, if_pos ht]
    simp only [Option.map_some]
    rw [getElem!_pos (idC zeros) (t % 32) h2, ← Array.getElem?_eq_getElem h2]
    simp [idC]
  · rw [List.getElem?_eq_none (by simp [Builtin.zeroCells, hs]; omega), List.getElem?_eq_none (by omega)]
theorem run_clear_ids (w : World) (ty : TypeId) (g : Nat) (M : List (List UInt8)) (h : ∀ x ∈ M, x.length = 32) (T : List Value) (k c : Nat) (hk : k < M.length) (hg : w.heap[g]? = some (.cells (idsC M ++ T).toArray 23 (0, 0))) :
    (Builtin.clear_ #[32] ty #[.slice (some ⟨g, k * 32, none⟩) (M.length - k) c]).run Try.prog w = .ok (.tuple #[]) (w.setRow g (idsC (M.take k ++ List.replicate (M.length - k) zeros) ++ T).toArray) := by
  have hz : ∀ x ∈ List.replicate (M.length - k) zeros, x.length = 32 := fun x hx => by rw [List.eq_of_mem_replicate hx]; rfl
  have hl : (idsC (List.replicate (M.length - k) zeros)).length = (M.length - k) * 32 := by rw [idsC_length _ hz, List.length_replicate]
  have hlay := idsC_lay M (List.replicate (M.length - k) zeros) h hz T k (by rw [List.length_replicate]; omega)
  rw [List.length_replicate, show k + (M.length - k) = M.length by omega, List.drop_length, List.append_nil] at hlay
  have hst := run_storeCells_at Try.prog g (k * 32) 23 (Builtin.zeroCells (idC zeros) (M.length - k)).toList 0 _ w hg (by
    rw [zeroCells_ids, hl]
    simp only [List.size_toArray, List.length_append, idsC_length M h, Nat.add_zero]
    rw [← Nat.add_mul]
    have : k + (M.length - k) = M.length := by omega
    rw [this]
    omega) (by rw [zeroCells_ids]; exact idsC_one _)
  rw [zeroCells_ids, Nat.add_zero] at hst
  simp only [List.toList_toArray] at hst
  rw [hlay] at hst
  rw [← zeroCells_ids] at hst
  obtain ⟨m, hm⟩ : ∃ m, M.length - k = m + 1 := ⟨M.length - k - 1, by omega⟩
  rw [hm] at hst ⊢
  simp [Builtin.clear_, run_underlying Try.underlying32, Value.cells]
  exact congrArg (fun r => Result.andThen r fun _ w' => Result.ok (Value.tuple #[]) w') hst
end Go.Proofs.Ytcdnbidenaljlaa
