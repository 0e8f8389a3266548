/- slices.Clone at ids. -/
import Derived.Test.YtcdnbidenaljlaaSetH
namespace Go.Proofs.Ytcdnbidenaljlaa
open Go.RowKit

theorem cloneids_any (A : Option Addr) (n c : Nat) (L : List (List UInt8)) (hL : L.length = n) (h32 : ∀ x ∈ L, x.length = 32) (hn : n ≤ 1000000) (w : World) (hr : RdC w A (idsC L)) :
    Calls Try.prog 21 #[.slice A n c] w fun e w' => ∃ v', e = .returned v' ∧ w'.ownsRow w.heap.size 23 32 v' n (idsC L) ∧ Below w.heap.size w w' := by
  have q : ∀ (w : World) (a : Option Addr) (n c n' c' : Nat), (binOp .eql 32 (.slice a n c) (.slice none n' c')).run Try.prog w = .ok (.bool a.isNone) w := fun w a n c n' c' => Lib.run_eql_slice_nil w 32 23 a n c n' c' Try.underlying32
  have hlen := idsC_length L h32
  cases A with
  | none =>
    have h0 : idsC L = [] := by
      cases hq : idsC L with
      | nil => rfl
      | cons x l => obtain ⟨_, h, _⟩ := hr 0 x (by rw [hq]; rfl); cases h
    have hL0 : L.length = 0 := by rw [h0] at hlen; simp at hlen; omega
    obtain rfl : n = 0 := by omega
    rw [h0]
    go_enter Try.func21, Try.ntmps21
    go_wp2
    go_ret
    exact ⟨_, rfl, ⟨rfl, .inl ⟨rfl, rfl⟩⟩, Below.refl _ _⟩
  | some a =>
    obtain ⟨w1, hw1⟩ : ∃ w1, w1 = w.alloc (.cells #[] 23) := ⟨_, rfl⟩
    have hb1 : Below w.heap.size w w1 := by rw [hw1]; exact (Below.refl _ _).alloc (Nat.le_refl _) _
    have ho1 : w1.ownsRow w.heap.size 23 32 (.slice (some ⟨w.heap.size, 0, none⟩) 0 0) 0 [] := ⟨rfl, .inr ⟨w.heap.size, 0, #[], rfl, Nat.le_refl _, by rw [hw1]; exact heap_alloc_new _ _, by omega, by unfold maxLen; omega, rfl, rfl⟩⟩
    have hr1 := hr.below hb1
    have HW := Lib.hid hw1
    rw [hL] at hlen
    have HL := Lib.hid hlen
    clear hw1 hlen
    go_enter Try.func21, Try.ntmps21
    go_wp2_with (first
      | (at_builtin; rw [← HW.out]; refine wpList_app elt_id rfl (.tmp 5) (.tmp 6) rfl w.heap.size _ 0 [] rfl ho1 (some a) n c (idsC L) rfl HL.out hr1 (idsC_one L) (by unfold maxLen; omega) (by omega) hb1.size ?_; intro v' w' ho hg)
      | fail)
    go_ret
    rw [Nat.zero_add] at ho
    exact ⟨v', rfl, ho, below_grown hb1 ho1 hg hb1.size (Nat.le_refl _)⟩
end Go.Proofs.Ytcdnbidenaljlaa
