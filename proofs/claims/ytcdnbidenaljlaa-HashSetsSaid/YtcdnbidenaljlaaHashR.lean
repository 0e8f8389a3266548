/- Ids: arrays of 32 bytes; the reference's Compare. -/
import Derived.Test.YtcdnbidenaljlaaProg
import Derived.Test.YtcdnbidenaljlaaA
import Derived.Lib.Bytealg
namespace Go.Proofs.Ytcdnbidenaljlaa
open Go.RowKit

/-- An id's value. -/
def idC (l : List UInt8) : Array Value := (u8v l).toArray
theorem idC_size (l : List UInt8) : (idC l).size = l.length := by simp [idC, u8v_length]
theorem idC_get (l : List UInt8) (j : Nat) (h : j < l.length) : (idC l)[j]? = some (.int .u8 (l[j].toNat : Int)) := by
  have := u8v_get l j h
  simpa [idC] using this
theorem cmp_drop (a b : List UInt8) (k : Nat) (h : a.take k = b.take k) : Lib.compareBytes a b = Lib.compareBytes (a.drop k) (b.drop k) := by
  induction k generalizing a b with
  | zero => simp
  | succ k ih =>
    cases a with
    | nil => cases b with
      | nil => simp
      | cons y b => simp at h
    | cons x a => cases b with
      | nil => simp at h
      | cons y b =>
        simp only [List.take_succ_cons, List.cons.injEq] at h
        obtain ⟨rfl, h⟩ := h
        have hlt : ¬ x < x := UInt8.lt_irrefl x
        rw [List.drop_succ_cons, List.drop_succ_cons, ← ih a b h]
        conv => lhs; unfold Lib.compareBytes
        simp [hlt]
theorem cmp_same (a : List UInt8) : Lib.compareBytes a a = 0 := by
  rw [cmp_drop a a a.length rfl, List.drop_length]
  rfl
theorem lt_of_get {w : World} {g : Nat} {o : Obj} (h : w.heap[g]? = some o) : g < w.heap.size := by
  rcases Nat.lt_or_ge g w.heap.size with h' | h'
  · exact h'
  · rw [Array.getElem?_eq_none h'] at h; cases h
set_option maxHeartbeats 1000000 in
theorem rcompare_any (a b : List UInt8) (ha : a.length = 32) (hb : b.length = 32) (w : World) :
    Calls Try.prog 10 #[.agg (idC a), .agg (idC b)] w fun e w' => e = .returned (.int .i64 (Lib.compareBytes a b)) ∧ Below w.heap.size w w' := by
  go_enter Try.func10, Try.ntmps10
  go_wp2_with fail
  have hb1 : Below w.heap.size w ((w.alloc (.cells (idC a) 23)).alloc (.cells (idC b) 23)) := ((Below.refl _ w).alloc (Nat.le_refl _) _).alloc (by simp) _
  have hg1 : ((w.alloc (.cells (idC a) 23)).alloc (.cells (idC b) 23)).heap[w.heap.size]? = some (.cells (idC a) 23 (0, 0)) := heap_alloc2_old _ _ _
  have hg2 : ((w.alloc (.cells (idC a) 23)).alloc (.cells (idC b) 23)).heap[w.heap.size + 1]? = some (.cells (idC b) 23 (0, 0)) := heap_alloc2_new _ _ _
  obtain ⟨w1, hw1⟩ : ∃ w1, w1 = (w.alloc (.cells (idC a) 23)).alloc (.cells (idC b) 23) := ⟨_, rfl⟩
  rw [← hw1] at hb1 hg1 hg2 ⊢
  clear hw1
  go_loopw [5] (fun i wr => ∃ k : Nat, k ≤ 32 ∧ i = .int .i64 k ∧ a.take k = b.take k ∧ Below w1.heap.size w1 wr) (fun i _ => 32 - (intOf i).toNat)
  case atStart => exact ⟨0, by omega, rfl, rfl, Below.refl _ _⟩
  case round =>
    obtain ⟨k, hk, rfl, heq, hbr⟩ := hrel
    by_cases hlt : k < 32
    · have ka : k < a.length := by omega
      have kb : k < b.length := by omega
      have hA : wr.cell? ⟨w.heap.size, k, none⟩ = some (.int .u8 (a[k].toNat : Int)) := by
        rw [(hbr.cell (p := ⟨w.heap.size, k, none⟩) (lt_of_get hg1)), cell_of_row _ _ _ _ _ _ hg1]
        exact idC_get a k ka
      have hB : wr.cell? ⟨w.heap.size + 1, k, none⟩ = some (.int .u8 (b[k].toNat : Int)) := by
        rw [(hbr.cell (p := ⟨w.heap.size + 1, k, none⟩) (lt_of_get hg2)), cell_of_row _ _ _ _ _ _ hg2]
        exact idC_get b k kb
      have hcmp : Hid (Lib.compareBytes a b = if a[k] < b[k] then -1 else if b[k] < a[k] then 1 else Lib.compareBytes (a.drop (k + 1)) (b.drop (k + 1))) := by
        show _ = _
        rw [cmp_drop a b k heq, List.drop_eq_getElem_cons ka, List.drop_eq_getElem_cons kb]
        rfl
      have hsn : a[k] = b[k] → a.take (k + 1) = b.take (k + 1) := fun h => by rw [List.take_succ_eq_append_getElem ka, List.take_succ_eq_append_getElem kb, heq, h]
      generalize a[k] = x at *
      generalize b[k] = y at *
      have hx8 := x.toNat_lt
      have hy8 := y.toNat_lt
      by_cases h1 : x.toNat < y.toNat
      · have h2 : x < y := UInt8.lt_iff_toNat_lt.2 h1
        go_wp2_with fail
        go_quiet (fail)
        go_wp2_with fail
        go_ret
        exact ⟨by rw [hcmp.out, if_pos h2]; rfl, below_then hb1 (below_drewN hbr _) (Nat.le_refl _)⟩
      by_cases h3 : y.toNat < x.toNat
      · have h2 : ¬ x < y := fun h => h1 (UInt8.lt_iff_toNat_lt.1 h)
        have h4 : y < x := UInt8.lt_iff_toNat_lt.2 h3
        go_wp2_with fail
        go_quiet (fail)
        go_wp2_with fail
        go_quiet (fail)
        go_wp2_with fail
        go_ret
        exact ⟨by rw [hcmp.out, if_neg h2, if_pos h4]; rfl, below_then hb1 (below_drewN (below_drewN hbr _) _) (Nat.le_refl _)⟩
      · have he : x = y := UInt8.toNat_inj.1 (by omega)
        have hsn2 := hsn he
        subst he
        go_wp2_with fail
        go_quiet (fail)
        go_wp2_with fail
        go_quiet (fail)
        go_wp2_with fail
        go_roundw
        case rel => exact ⟨k + 1, by omega, by go_num, hsn2, below_drewN hbr _⟩
        case measure => simp [intOf]; omega
    · obtain rfl : k = 32 := by omega
      have he : a = b := by
        rw [List.take_of_length_le (by omega), List.take_of_length_le (by omega)] at heq
        exact heq
      go_wp2_with fail
      go_ret
      exact ⟨by rw [he, cmp_same]; rfl, below_then hb1 hbr (Nat.le_refl _)⟩
end Go.Proofs.Ytcdnbidenaljlaa
