/- hash's law: the chapter's examples. -/
import Derived.Test.YtcdnbidenaljlaaDoorMHashNames20
import Derived.Test.YtcdnbidenaljlaaDoorMHashNames21
import Derived.Lib.SlBytesConst
namespace Go.Proofs.YtcdnbidenaljlaaDoor
open Go.RowKit

def noneT : List UInt8 := [101, 51, 98, 48, 99, 52, 52, 50, 57, 56, 102, 99, 49, 99, 49, 52, 57, 97, 102, 98, 102, 52, 99, 56, 57, 57, 54, 102, 98, 57, 50, 52, 50, 55, 97, 101, 52, 49, 101, 52, 54, 52, 57, 98, 57, 51, 52, 99, 97, 52, 57, 53, 57, 57, 49, 98, 55, 56, 53, 50, 98, 56, 53, 53]
def abcT : List UInt8 := [98, 97, 55, 56, 49, 54, 98, 102, 56, 102, 48, 49, 99, 102, 101, 97, 52, 49, 52, 49, 52, 48, 100, 101, 53, 100, 97, 101, 50, 50, 50, 51, 98, 48, 48, 51, 54, 49, 97, 51, 57, 54, 49, 55, 55, 97, 57, 99, 98, 52, 49, 48, 102, 102, 54, 49, 102, 50, 48, 48, 49, 53, 97, 100]
theorem sha_none : textB (sha []) = noneT := by decide +kernel
theorem sha_abc : textB (sha [97, 98, 99]) = abcT := by decide +kernel
set_option maxRecDepth 100000 in
set_option maxHeartbeats 1000000 in
theorem alive_any (w : World) (hT : TabsOK w) : Calls Tryd.prog 13 #[] w fun e w' => e = .returned (.bool true) ∧ Below w.heap.size w w' := by
  have hTg : ∀ W, Below w.heap.size w W → TabsOK W := fun W hb => hT.below hb
  have kc := fun (w : World) (C : Array Value) (n c : Nat) => Lib.run_convert_bytes_const (P := Tryd.prog) w 22 5 C n c Tryd.underlying22 Tryd.underlying5
  have e1 : textB (sha (flat [])) = noneT := sha_none
  go_enter Tryd.func13, Tryd.ntmps13
  go_wp2_with fail
  refine (of_any none 0 0 [] rfl (by omega) w (RdC.nil _ _) (fun s hs => by cases hs) hT (by decide)).mono ?_
  rintro e w1 ⟨rfl, hb1⟩
  go_wp2_with fail
  refine (text_any _ (sha_length _) w1).mono ?_
  rintro e w2 ⟨rfl, hb2⟩
  rw [e1]
  have hb2' := below_then hb1 hb2 (Nat.le_refl _)
  have s1 : (bstr noneT).toList = [101, 51, 98, 48, 99, 52, 52, 50, 57, 56, 102, 99, 49, 99, 49, 52, 57, 97, 102, 98, 102, 52, 99, 56, 57, 57, 54, 102, 98, 57, 50, 52, 50, 55, 97, 101, 52, 49, 101, 52, 54, 52, 57, 98, 57, 51, 52, 99, 97, 52, 57, 53, 57, 57, 49, 98, 55, 56, 53, 50, 98, 56, 53, 53] := by rw [bstr_toList]; rfl
  obtain ⟨w3, hw3⟩ : ∃ w3, w3 = (w2.alloc (.cells #[.int .u8 97, .int .u8 98, .int .u8 99] 5 (3, 4))).alloc (.cells #[.slice (some ⟨w2.heap.size, 0, none⟩) 3 3] 22) := ⟨_, rfl⟩
  have hb3 : Below w2.heap.size w2 w3 := by rw [hw3]; exact ((Below.refl _ w2).alloc (Nat.le_refl _) _).alloc (by simp) _
  have g0 : w3.heap[w2.heap.size]? = some (.cells #[.int .u8 97, .int .u8 98, .int .u8 99] 5 (3, 4)) := by rw [hw3]; exact heap_alloc2_old _ _ _
  have g1 : w3.heap[w2.heap.size + 1]? = some (.cells #[.slice (some ⟨w2.heap.size, 0, none⟩) 3 3] 22 (0, 0)) := by rw [hw3]; exact heap_alloc2_new _ _ _
  have hof := of_any (some ⟨w2.heap.size + 1, 0, none⟩) 1 1 [⟨some ⟨w2.heap.size, 0, none⟩, 3, 3, [97, 98, 99]⟩] rfl (by omega) w3 (fun j u hj => ⟨_, rfl, by
      rw [addr_add_plain, Nat.zero_add, cell_of_row _ _ _ _ _ _ g1, ← hj, ← Array.getElem?_toList]; rfl⟩) (fun s hs => by
      obtain rfl := List.mem_singleton.1 hs
      exact ⟨rfl, Nat.le_refl _, fun j u hj => ⟨_, rfl, by rw [addr_add_plain, Nat.zero_add, cell_of_row _ _ _ _ _ _ g0, ← hj, ← Array.getElem?_toList]; rfl⟩⟩) (hTg w3 (below_then hb2' hb3 (by have := hb1.size; have := hb2.size; omega))) (show 3 ≤ 800000 by omega)
  have hb3' := below_then hb2' hb3 (Nat.le_refl _)
  have e3 : sha (flat [⟨some ⟨w2.heap.size, 0, none⟩, 3, 3, [97, 98, 99]⟩]) = sha [97, 98, 99] := rfl
  rw [e3] at hof
  have HW3 := Lib.hid hw3
  clear hw3 g0 g1 hT hTg e1
  go_wp2_with fail
  rw [← HW3.out]
  refine hof.mono ?_
  rintro e w4 ⟨rfl, hb4⟩
  go_wp2_with fail
  refine (text_any _ (sha_length _) w4).mono ?_
  rintro e w5 ⟨rfl, hb5⟩
  rw [sha_abc]
  have s2 : (bstr abcT).toList = [98, 97, 55, 56, 49, 54, 98, 102, 56, 102, 48, 49, 99, 102, 101, 97, 52, 49, 52, 49, 52, 48, 100, 101, 53, 100, 97, 101, 50, 50, 50, 51, 98, 48, 48, 51, 54, 49, 97, 51, 57, 54, 49, 55, 55, 97, 57, 99, 98, 52, 49, 48, 102, 102, 54, 49, 102, 50, 48, 48, 49, 53, 97, 100] := by rw [bstr_toList]; rfl
  have hb5' := below_then (below_then hb3' hb4 (Nat.le_refl _)) hb5 (Nat.le_refl _)
  go_wp2_with fail
  go_ret
  exact ⟨rfl, hb5'⟩
end Go.Proofs.YtcdnbidenaljlaaDoor
