/- leb: are calls more than statements go through. -/
import Derived.Test.YtokfenogiajcgaaLebO
namespace Go.Proofs.Ytokfenogiajcgaa
open Go.RowKit
attribute [local go_sem] Oper.semAt_some

def lenSum (L : List OpV) (k : Nat) : Nat := ((L.take k).map OpV.len).sum
theorem lenSum_succ (L : List OpV) (k : Nat) (h : k < L.length) : lenSum L (k + 1) = lenSum L k + (L[k]).len := by
  unfold lenSum
  rw [List.take_succ_eq_append_getElem h, List.map_append, List.sum_append]
  simp
theorem add_at (p : Addr) (r : Nat) : p.add (r + 1) = ⟨p.block, p.off + (r + 1), none⟩ := by simp [Addr.add]
theorem OpRow.cell {W : World} {a : Option Addr} {len cap : Nat} {L : List OpV} (h : OpRow W a len cap L) (k : Nat) (hk : k < L.length) :
    ∃ ad, a = some ad ∧ W.cell? (ad.add (k * 4)) = some (.int .i64 (L[k]).k) ∧ W.cell? ⟨(ad.add (k * 4)).block, (ad.add (k * 4)).off + 1, none⟩ = some (.int .i64 (L[k]).m) ∧ W.cell? ⟨(ad.add (k * 4)).block, (ad.add (k * 4)).off + 2, none⟩ = some (.int .u64 ((L[k]).n : Int)) ∧ W.cell? ⟨(ad.add (k * 4)).block, (ad.add (k * 4)).off + 3, none⟩ = some (.slice (L[k]).A (L[k]).len (L[k]).cap) := by
  obtain ⟨ad, rfl, hc⟩ := h.2.2.2.2 k hk hk
  refine ⟨ad, rfl, ?_, ?_, ?_, ?_⟩
  · exact hc 0 _ rfl
  · rw [← add_at _ 0, Go.Deep.add_add]; exact hc 1 _ rfl
  · rw [← add_at _ 1, Go.Deep.add_add]; exact hc 2 _ rfl
  · rw [← add_at _ 2, Go.Deep.add_add]; exact hc 3 _ rfl
def GreatPost (L : List OpV) (w : World) (e : Ending) (w' : World) : Prop := w' = w ∧ ∃ b, e = .returned (.bool b) ∧ (b = false → L.length ≤ 100 ∧ lenSum L L.length ≤ 20000)
set_option maxRecDepth 100000 in
set_option maxHeartbeats 2000000 in
theorem great_any (a : Option Addr) (len cap : Nat) (L : List OpV) (w : World) (hR : OpRow w a len cap L) :
    Calls Try.prog 10 #[.slice a len cap] w (GreatPost L w) := by
  obtain ⟨hl, hlc, hcm, hok, hcell⟩ := id hR
  have hb : (len : Int) ≤ 9223372036854775807 := by unfold maxLen at hcm; omega
  go_enter Try.func10, Try.ntmps10
  go_wp2
  go_loopw [3, 7] (fun n i wr => ∃ (k : Nat) (z : Int), k ≤ len ∧ i = .int .i64 (k : Int) ∧ n = .int .i64 z ∧ (len ≤ 100 → z = (lenSum L k : Int) ∧ z ≤ k * 140737488355328) ∧ wr = w) (fun _ i _ => len - (intOf i).toNat)
  case atStart => exact ⟨0, 0, by omega, rfl, rfl, fun _ => ⟨by simp [lenSum], by omega⟩, rfl⟩
  case round =>
    obtain ⟨k, z, hk, rfl, rfl, hz, rfl⟩ := hrel
    by_cases hlt : k < len
    · obtain ⟨ad, rfl, q0, q1, q2, q3⟩ := hR.cell k (by omega)
      have hle := (hok _ (List.getElem_mem (show k < L.length by omega))).2.2.2.2
      generalize hp : ad.add (k * 4) = p at *
      clear hcell
      generalize ho : L[k] = o at *
      have hw : ∀ z : Int, IntKind.i64.wrap (k + 1) = k + 1 := fun _ => IntWalk.i64_in _ (by omega)
      go_wp2
      go_roundw
      case rel =>
        refine ⟨k + 1, _, by omega, by go_num, rfl, fun h => ?_, trivial⟩
        obtain ⟨h1, h2⟩ := hz h
        have h3 := lenSum_succ L k (by omega)
        rw [ho] at h3
        have h4 : wrap64 (z + (o.len : Int)) = z + (o.len : Int) := IntWalk.wrap64_in _ (by omega)
        rw [h4]
        constructor <;> push_cast <;> omega
      case measure => simp only [intOf]; omega
    · obtain rfl : k = len := by omega
      clear hcell
      by_cases hg : 100 < k
      · go_wp2
        go_ret
        exact ⟨rfl, true, rfl, fun h => by cases h⟩
      · obtain ⟨h1, h2⟩ := hz (by omega)
        by_cases hg2 : 20000 < lenSum L k
        · have d1 : decide ((100 : Int) < k) = false := by simp; omega
          have d2 : decide ((20000 : Int) < lenSum L k) = true := by simp; omega
          go_wp2
          go_ret
          exact ⟨rfl, true, rfl, fun h => by cases h⟩
        · have d1 : decide ((100 : Int) < k) = false := by simp; omega
          have d2 : decide ((20000 : Int) < lenSum L k) = false := by simp; omega
          go_wp2
          go_ret
          exact ⟨rfl, false, rfl, fun _ => ⟨by omega, by rw [hl]; omega⟩⟩
end Go.Proofs.Ytokfenogiajcgaa
