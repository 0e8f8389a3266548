/- The chapter's examples ('alive'): they are so. -/
import Derived.Test.YtnpdbnphoifjlaaSumT
import Derived.Test.YtnpdbnphoifjlaaSumR3
import Derived.Lib.SlBytesConst
namespace Go.Proofs.Ytnpdbnphoifjlaa
open Go.RowKit

theorem ofN_123 : ofN [[49, 50, 51, 52, 53, 54, 55, 56, 57]] = 3421780262 := by decide +kernel
theorem wrapB_nil : wrapB [] = [0, 0, 0, 0, 28, 223, 68, 33] := by decide +kernel
theorem rd_lit9 {w : World} {g : Nat} {t : TypeId} {fr : Nat × Nat} (h : w.heap[g]? = some (.cells #[.int .u8 49, .int .u8 50, .int .u8 51, .int .u8 52, .int .u8 53, .int .u8 54, .int .u8 55, .int .u8 56, .int .u8 57] t fr)) : RdC w (some ⟨g, 0, none⟩) (u8v [49, 50, 51, 52, 53, 54, 55, 56, 57]) := fun j u hj => by
  refine ⟨_, rfl, ?_⟩
  rw [addr_add_plain, Nat.zero_add, cell_of_row _ _ j _ _ _ h]
  rw [← hj, ← Array.getElem?_toList]
  rfl
theorem alive_any (w : World) : Calls Try.prog 15 #[] w fun e w' => e = .returned (.bool true) ∧ Below w.heap.size w w' := by
  have kc := fun (w : World) (C : Array Value) (n c : Nat) => Lib.run_convert_bytes_const (P := Try.prog) w 22 5 C n c Try.underlying22 Try.underlying5
  go_enter Try.func15, Try.ntmps15
  go_wp2_with fail
  have q := wrap_any none 0 [] w (RdC.nil _ _) (by simp)
  refine q.mono ?_
  rintro e w1 ⟨⟨v, rfl, hf⟩, hb1⟩
  rw [wrapB_nil] at hf
  obtain ⟨A, c, rfl, hc, hm, hr, hB⟩ := hf
  clear hB q
  have k1 : ∀ W, RdC W A (u8v [0, 0, 0, 0, 28, 223, 68, 33]) → (convert 22 9 (.slice A 8 c)).run Try.prog W = .ok (.string (bstr [0, 0, 0, 0, 28, 223, 68, 33])) W := fun W hb =>
    run_string_of (P := Try.prog) W 22 9 5 Try.underlying22 Try.underlying5 Try.underlying9 A [0, 0, 0, 0, 28, 223, 68, 33] c hb
  simp only [List.length_cons, List.length_nil, Nat.zero_add, Nat.reduceAdd] at *
  have hz := hb1.size
  go_wp2_with fail
  refine (of_any none 0 0 [] rfl _ (RdC.nil _ _) (fun s hs => by cases hs) (by omega)).mono ?_
  rintro e w' ⟨rfl, rfl⟩
  have h0 : ofN (([] : List SlB).map (·.l)) = 0 := rfl
  simp only [h0]
  go_wp2_with fail
  obtain ⟨w2, hw2⟩ : ∃ w2, w2 = w1.alloc (Obj.cells #[.int .u8 49, .int .u8 50, .int .u8 51, .int .u8 52, .int .u8 53, .int .u8 54, .int .u8 55, .int .u8 56, .int .u8 57] 5 (9, 10)) := ⟨_, rfl⟩
  have hr2 : RdC w2 A (u8v [0, 0, 0, 0, 28, 223, 68, 33]) := by rw [hw2]; exact hr.alloc _
  have hl2 : RdC w2 (some ⟨w1.heap.size, 0, none⟩) (u8v [49, 50, 51, 52, 53, 54, 55, 56, 57]) := by rw [hw2]; exact rd_lit9 (heap_alloc_new w1 _)
  have hb2 : Below w.heap.size w w2 := by rw [hw2]; exact hb1.alloc (by omega) _
  have hs2 : w2.heap.size = w1.heap.size + 1 := by rw [hw2, World.size_alloc]
  rw [← hw2, ← hs2]
  clear hw2 hb1 hr kc
  have qo : Calls Try.prog 10 #[.slice (some ⟨w2.heap.size, 0, none⟩) 1 1] (w2.alloc (Obj.cells #[Value.slice (some ⟨w1.heap.size, 0, none⟩) 9 9] 22)) fun e w' => e = .returned (.int .u32 (ofN [[49, 50, 51, 52, 53, 54, 55, 56, 57]])) ∧ w2.alloc (Obj.cells #[Value.slice (some ⟨w1.heap.size, 0, none⟩) 9 9] 22) = w' :=
    of_any _ _ _ [⟨some ⟨w1.heap.size, 0, none⟩, 9, 9, [49, 50, 51, 52, 53, 54, 55, 56, 57]⟩] rfl _ (rd_one (heap_alloc_new w2 _)) (fun s hs => by
      simp only [List.mem_cons, List.not_mem_nil, or_false] at hs
      subst hs
      exact ⟨hl2.alloc _, rfl, (show 9 ≤ 9223372036854775807 by omega)⟩) (show 1 ≤ 9223372036854775807 by omega)
  rw [ofN_123] at qo
  refine qo.mono ?_
  rintro e w' ⟨rfl, rfl⟩
  have k2 := k1 _ (hr2.alloc (Obj.cells #[Value.slice (some ⟨w1.heap.size, 0, none⟩) 9 9] 22))
  clear k1 qo
  go_wp2
  go_ret
  exact ⟨by simp [bstr_toList], hb2.alloc (by omega) _⟩
end Go.Proofs.Ytnpdbnphoifjlaa
