/- net's law: of. -/
import Derived.Test.YtfojlmnlolnilaaNetE
import Derived.Lib.ConvBytes
namespace Go.Proofs.Ytfojlmnlolnilaa
open Go.RowKit
attribute [local go_sem] Oper.semAt_some

theorem bytesWorld_below (w : World) (s : ByteArray) : Below w.heap.size w (Lib.bytesWorld w 5 s) :=
  ⟨rfl, rfl, rfl, by rw [Lib.bytesWorld_size]; omega, fun k hk => Lib.bytesWorld_at_old w 5 s k hk⟩
theorem conv_str (w : World) (l : List UInt8) : ∃ c w', (convert 9 22 (.string (bstr l))).run Try.prog w = .ok (.slice (some ⟨w.heap.size, 0, none⟩) l.length c) w' ∧ RdC w' (some ⟨w.heap.size, 0, none⟩) (u8v l) ∧ Below w.heap.size w w' := by
  refine ⟨_, _, Lib.run_convert_string_bytes (P := Try.prog) w 9 22 5 (bstr l) Try.underlying9 Try.underlying22 Try.underlying5, fun j u hj => ⟨_, rfl, ?_⟩, bytesWorld_below _ _⟩
  have hjl : j < l.length := by have := (List.getElem?_eq_some_iff.1 hj).1; rwa [u8v_length] at this
  rw [addr_add_plain, Nat.zero_add, Lib.bytesWorld_cell w 5 (bstr l) j hjl]
  rw [u8v_get l j hjl] at hj
  cases hj
  simp [bstr, hjl]
set_option maxHeartbeats 2000000 in
theorem of_any (l : List UInt8) (w : World) : Calls Try.prog 29 #[.string (bstr l)] w fun e w' => ∃ b c, e = .returned (.agg #[.int .i64 0, .int .i64 1, .slice (some ⟨b, 0, none⟩) l.length c]) ∧ RdC w' (some ⟨b, 0, none⟩) (u8v l) ∧ Below w.heap.size w w' ∧ w.heap.size ≤ b := by
  obtain ⟨w1, hw1⟩ : ∃ w1, w1 = w.alloc (.cells #[.int .i64 0, .int .i64 0, .slice none 0 0] 38) := ⟨_, rfl⟩
  have hb1 : Below w.heap.size w w1 := by rw [hw1]; exact (Below.refl _ _).alloc (Nat.le_refl _) _
  have h1 : w1.heap[w.heap.size]? = some (.cells #[.int .i64 0, .int .i64 0, .slice none 0 0] 38 (0, 0)) := by rw [hw1]; exact heap_alloc_new _ _
  obtain ⟨c, w2, hrun, hr, hb2⟩ := conv_str w1 l
  have h2 := (hb2.block _ (lt_get h1)).trans h1
  have b0 : w2.cell? ⟨w.heap.size, 0, none⟩ = some (.int .i64 0) := by rw [cell_of_row _ _ _ _ _ _ h2]; rfl
  have b1 : w2.cell? ⟨w.heap.size, 1, none⟩ = some (.int .i64 0) := by rw [cell_of_row _ _ _ _ _ _ h2]; rfl
  have b2 : w2.cell? ⟨w.heap.size, 2, none⟩ = some (.slice none 0 0) := by rw [cell_of_row _ _ _ _ _ _ h2]; rfl
  have f0 := frozen_of_row _ _ 0 _ _ h2
  have f1 := frozen_of_row _ _ 1 _ _ h2
  have f2 := frozen_of_row _ _ 2 _ _ h2
  have hz1 := lt_get h1
  have H1 := Lib.hid hw1
  clear hw1
  go_enter Try.func29, Try.ntmps29
  go_upto_region 1 with fail
  rw [← H1.out]
  go_wp2_with fail
  refine bodyPost_ret (v := .agg #[.int .i64 0, .int .i64 1, .slice (some ⟨w1.heap.size, 0, none⟩) l.length c]) (by simp [results, Try.results29, go_sem, b0, b1, b2]) rfl ?_
  refine ⟨_, _, rfl, fun j u hj => ?_, (((below_then hb1 hb2 (Nat.le_refl _)).setCell (Nat.le_refl _) _).setCell (Nat.le_refl _) _).setCell (Nat.le_refl _) _, by omega⟩
  obtain ⟨ad, e, hc⟩ := hr j u hj
  cases e
  refine ⟨_, rfl, ?_⟩
  have hne : w1.heap.size ≠ w.heap.size := by omega
  refine (World.cell?_of_block (w := w2) ?_).trans hc
  rw [addr_add_block, heap_setCell_other _ _ _ _ hne, heap_setCell_other _ _ _ _ hne, heap_setCell_other _ _ _ _ hne]
end Go.Proofs.Ytfojlmnlolnilaa
