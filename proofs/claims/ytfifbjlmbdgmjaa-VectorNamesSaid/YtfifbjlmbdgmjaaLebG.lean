/- leb: are calls more than statements go through. -/
import Derived.Test.YtfifbjlmbdgmjaaLebO
namespace Go.Proofs.Ytfifbjlmbdgmjaa
open Go.RowKit
attribute [local go_sem] Oper.semAt_some

def lenSum (L : List OpV) (k : Nat) : Nat := ((L.take k).map OpV.len).sum
theorem lenSum_succ (L : List OpV) (k : Nat) (h : k < L.length) : lenSum L (k + 1) = lenSum L k + (L[k]).len := by
  unfold lenSum
  rw [List.take_succ_eq_append_getElem h, List.map_append, List.sum_append]
  simp
theorem add_at (p : Addr) (r : Nat) : p.add (r + 1) = ⟨p.block, p.off + (r + 1), none⟩ := by simp [Addr.add]
theorem OpRow.cell {W : World} {a : Option Addr} {len cap : Nat} {L : List OpV} (h : OpRow W a len cap L) (k : Nat) (hk : k < L.length) :
    ∃ ad, a = some ad ∧ W.cell? (ad.add (k * 4)) = some (.int .i64 (L[k]).k) ∧ W.cell? ⟨(ad.add (k * 4)).block, (ad.add (k * 4)).off + 1, none⟩ = some (.int .i64 (L[k]).m) ∧ W.cell? ⟨(ad.add (k * 4)).block, (ad.add (k * 4)).off + 2, none⟩ = some (.int .u64 ((L[k]).n : Int)) ∧ W.cell? ⟨(ad.add (k * 4)).block, (ad.add (k * 4)).off + 3, none⟩ = some (.slice (L[k]).A (L[k]).len (L[k]).cap) := by
  obtain ⟨ad, rfl, hc⟩ := h.2.2.2.2 k hk hk
  refine ⟨ad, rfl, ?_, ?_, ?_, ?_⟩
  · exact hc 0 _ rfl
  · rw [← add_at _ 0, Go.Deep.add_add]; exact hc 1 _ rfl
  · rw [← add_at _ 1, Go.Deep.add_add]; exact hc 2 _ rfl
  · rw [← add_at _ 2, Go.Deep.add_add]; exact hc 3 _ rfl
def GreatPost (L : List OpV) (w : World) (e : Ending) (w' : World) : Prop := w' = w ∧ ∃ b, e = .returned (.bool b) ∧ (b = false → L.length ≤ 100 ∧ lenSum L L.length ≤ 20000)
end Go.Proofs.Ytfifbjlmbdgmjaa
