/- hash.Has, among rising ids. -/
import Derived.Test.YtcdnbidenaljlaaSetB
namespace Go.Proofs.Ytcdnbidenaljlaa
open Go.RowKit

set_option maxRecDepth 100000 in
theorem hashas_any (A : Option Addr) (n c : Nat) (L : List (List UInt8)) (hL : L.length = n) (hn : n ≤ 1000000) (h32 : ∀ x ∈ L, x.length = 32) (hR : Rise L) (w : World) (hr : RdIds w A L) (t : List UInt8) (ht : t.length = 32) :
    Calls Try.prog 14 #[.slice A n c, .agg (idC t)] w fun e w' => e = .returned (.bool (decide (t ∈ L))) ∧ Below w.heap.size w w' := by
  obtain ⟨T, hT, hTs⟩ : ∃ T : Array Value, Hid (T = idC t) ∧ T.size = 32 := ⟨_, rfl, by rw [idC_size, ht]⟩
  have hTi : (Try.prog.info? 23).map (·.size) = some T.size := by rw [hTs]; exact size_id
  obtain ⟨w1, hw1⟩ : ∃ w1, w1 = w.alloc (.cells T 23) := ⟨_, rfl⟩
  have hb1 : Below w.heap.size w w1 := by rw [hw1]; exact (Below.refl _ w).alloc (Nat.le_refl _) _
  have q1 : w1.heap[w.heap.size]? = some (.cells T 23 (0, 0)) := by rw [hw1]; exact heap_alloc_new _ _
  have hbs := bs_any A n c L hL hn h32 hR w1 (hr.below hb1) t ht
  rw [← hT.out] at hbs ⊢
  have HW1 := Lib.hid hw1
  generalize decide (t ∈ L) = bo at *
  clear hw1
  go_enter Try.func14, Try.ntmps14
  go_upto_region 1 with (fail)
  rw [← HW1.out]
  go_wp2_with (first
    | (with_reducible refine wpList_load_row rfl 23 (.tmp 3) rfl _ rfl 23 T _ _ q1 Try.underlying23 rfl hTi ?_)
    | (go_at_call 24; refine hbs.mono ?_; rintro e w2 ⟨⟨i, rfl⟩, hb2⟩)
    | fail)
  go_ret
  exact ⟨rfl, below_then hb1 hb2 (Nat.le_refl _)⟩
end Go.Proofs.Ytcdnbidenaljlaa
