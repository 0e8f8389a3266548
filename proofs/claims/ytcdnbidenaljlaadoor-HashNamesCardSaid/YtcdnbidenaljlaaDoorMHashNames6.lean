/- Ids: arrays of 32 bytes; the reference's Compare. -/
import Derived.Test.YtcdnbidenaljlaaDoorProg
import Derived.Test.YtcdnbidenaljlaaDoorMHashNames2
import Derived.Lib.Bytealg
namespace Go.Proofs.YtcdnbidenaljlaaDoor
open Go.RowKit

/-- An id's value. -/
def idC (l : List UInt8) : Array Value := (u8v l).toArray
theorem idC_size (l : List UInt8) : (idC l).size = l.length := by simp [idC, u8v_length]
theorem idC_get (l : List UInt8) (j : Nat) (h : j < l.length) : (idC l)[j]? = some (.int .u8 (l[j].toNat : Int)) := by
  have := u8v_get l j h
  simpa [idC] using this
theorem cmp_drop (a b : List UInt8) (k : Nat) (h : a.take k = b.take k) : Lib.compareBytes a b = Lib.compareBytes (a.drop k) (b.drop k) := by
  induction k generalizing a b with
  | zero => simp
  | succ k ih =>
    cases a with
    | nil => cases b with
      | nil => simp
      | cons y b => simp at h
    | cons x a => cases b with
      | nil => simp at h
      | cons y b =>
        simp only [List.take_succ_cons, List.cons.injEq] at h
        obtain ⟨rfl, h⟩ := h
        have hlt : ¬ x < x := UInt8.lt_irrefl x
        rw [List.drop_succ_cons, List.drop_succ_cons, ← ih a b h]
        conv => lhs; unfold Lib.compareBytes
        simp [hlt]
theorem cmp_same (a : List UInt8) : Lib.compareBytes a a = 0 := by
  rw [cmp_drop a a a.length rfl, List.drop_length]
  rfl
theorem lt_of_get {w : World} {g : Nat} {o : Obj} (h : w.heap[g]? = some o) : g < w.heap.size := by
  rcases Nat.lt_or_ge g w.heap.size with h' | h'
  · exact h'
  · rw [Array.getElem?_eq_none h'] at h; cases h
end Go.Proofs.YtcdnbidenaljlaaDoor
