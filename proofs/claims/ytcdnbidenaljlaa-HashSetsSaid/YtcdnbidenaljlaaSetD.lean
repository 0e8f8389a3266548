/- The reference's Has: of any list of ids. -/
import Derived.Test.YtcdnbidenaljlaaSetGb
namespace Go.Proofs.Ytcdnbidenaljlaa
open Go.RowKit

set_option maxRecDepth 100000 in
theorem rhasid_any (A : Option Addr) (n c : Nat) (L : List (List UInt8)) (hL : L.length = n) (hn : n ≤ 1000000) (h32 : ∀ x ∈ L, x.length = 32) (w : World) (hr : RdIds w A L) (t : List UInt8) (ht : t.length = 32) :
    Calls Try.prog 15 #[.slice A n c, .agg (idC t)] w fun e w' => e = .returned (.bool (decide (t ∈ L))) ∧ Below w.heap.size w w' := by
  obtain ⟨T, hT, hTs⟩ : ∃ T : Array Value, Hid (T = idC t) ∧ T.size = 32 := ⟨_, rfl, by rw [idC_size, ht]⟩
  have hTi : (Try.prog.info? 23).map (·.size) = some T.size := by rw [hTs]; exact size_id
  rw [← hT.out]
  obtain ⟨fb, hfb⟩ : ∃ fb, fb = decide (t ∈ L) := ⟨_, rfl⟩
  rw [← hfb]
  have HFB := Lib.hid hfb
  clear hfb
  obtain ⟨w1, hw1⟩ : ∃ w1, w1 = w.alloc (.cells T 23) := ⟨_, rfl⟩
  have hb1 : Below w.heap.size w w1 := by rw [hw1]; exact (Below.refl _ w).alloc (Nat.le_refl _) _
  have q1 : w1.heap[w.heap.size]? = some (.cells T 23 (0, 0)) := by rw [hw1]; exact heap_alloc_new _ _
  have HW1 := Lib.hid hw1
  have hni : (n : Int) ≤ 1000000 := by omega
  clear hw1
  go_enter Try.func15, Try.ntmps15
  go_wp2_with fail
  rw [← HW1.out]
  go_loopw [5] (fun i wr => ∃ x : Nat, x ≤ n ∧ i = .int .i64 (x : Int) ∧ (∀ p (hp : p < L.length), p < x → L[p] ≠ t) ∧ wr.heap[w.heap.size]? = some (.cells T 23 (0, 0)) ∧ Below w.heap.size w wr) (fun i _ => n - (intOf i).toNat)
  case atStart => exact ⟨0, by omega, rfl, fun p _ h => by omega, q1, hb1⟩
  case round =>
    obtain ⟨x, hx, rfl, hlo, g1, gb⟩ := hrel
    clear q1 hb1 HW1
    by_cases hlt : x < n
    · have hhL : x < L.length := by omega
      obtain ⟨g, o, hA, hrg⟩ := hr x hhL
      have hlh : L[x].length = 32 := h32 _ (List.getElem_mem hhL)
      have hSi : (Try.prog.info? 23).map (·.size) = some (u8v L[x]).length := by rw [u8v_length, hlh]; exact size_id
      have hag : (u8v L[x]).toArray = idC L[x] := rfl
      have hev : ∀ W, (Op.equalIn 10000 23 (.agg (u8v L[x]).toArray) (.agg T)).run Try.prog W = .ok (decide (L[x] = t)) W := fun W => by rw [hag, hT.out]; exact run_eq_id W _ _ hlh ht
      have hrgW : ∀ W, Below wr.heap.size wr W → W.rangeAt g (o + x * 32) (u8v L[x]) := fun W hW => range_below (range_below hrg gb) hW
      have hhn : (x : Int) < (n : Int) := by omega
      subst hA
      obtain ⟨bo, hbo⟩ : ∃ bo, bo = decide (L[x] = t) := ⟨_, rfl⟩
      rw [← hbo] at hev
      have HBO := Lib.hid hbo
      clear hag hbo
      go_upto_region 4 with (fail)
      refine rh4 g o n c x w.heap.size (u8v L[x]) T bo wr hhn hrgW hSi hTi hev (fun W hW => (hW.block _ (lt_of_get g1)).trans g1) fun w2 hb2 => ?_
      have g2 := (hb2.block _ (lt_of_get g1)).trans g1
      have gb2 := below_then gb hb2 (Nat.le_refl _)
      clear hev hrgW g1 gb hb2
      cases bo with
      | true =>
        have he : L[x] = t := of_decide_eq_true HBO.out.symm
        have hm : decide (t ∈ L) = true := decide_eq_true (he ▸ List.getElem_mem hhL)
        go_wp2_with fail
        go_ret
        exact ⟨by rw [HFB.out, hm]; rfl, gb2⟩
      | false =>
        have he : L[x] ≠ t := of_decide_eq_false HBO.out.symm
        go_wp2_with fail
        refine ⟨⟨x + 1, by omega, rfl, fun p hp hpl => ?_, g2, gb2⟩, by simp [intOf]; omega⟩
        rcases Nat.lt_or_ge p x with h1 | h1
        · exact hlo p hp h1
        · obtain rfl : p = x := by omega
          exact he
    · obtain rfl : x = n := by omega
      have hm : decide (t ∈ L) = false := decide_eq_false fun hm => by
        obtain ⟨q, hq, e⟩ := List.getElem_of_mem hm
        exact hlo q hq (by omega) e
      go_wp2_with fail
      go_ret
      exact ⟨by rw [HFB.out, hm]; rfl, gb⟩
end Go.Proofs.Ytcdnbidenaljlaa
