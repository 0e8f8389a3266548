/- The reference's Same. -/
import Derived.Test.YtcdnbidenaljlaaSetGc
namespace Go.Proofs.Ytcdnbidenaljlaa
open Go.RowKit

set_option maxRecDepth 100000 in
theorem rsame_any (A : Option Addr) (n c : Nat) (L : List (List UInt8)) (hL : L.length = n) (hn : n ≤ 1000000) (h32 : ∀ x ∈ L, x.length = 32) (A2 : Option Addr) (n2 c2 : Nat) (L2 : List (List UInt8)) (hL2 : L2.length = n2) (hn2 : n2 ≤ 1000000) (h322 : ∀ x ∈ L2, x.length = 32) (w : World) (hr : RdIds w A L) (hr2 : RdIds w A2 L2) :
    Calls Try.prog 13 #[.slice A n c, .slice A2 n2 c2] w fun e w' => e = .returned (.bool (decide (L = L2))) ∧ Below w.heap.size w w' := by
  obtain ⟨fb, hfb⟩ : ∃ fb, fb = decide (L = L2) := ⟨_, rfl⟩
  rw [← hfb]
  have HFB := Lib.hid hfb
  clear hfb
  have hni : (n : Int) ≤ 1000000 := by omega
  have hni2 : (n2 : Int) ≤ 1000000 := by omega
  go_enter Try.func13, Try.ntmps13
  by_cases hne : n = n2
  case neg =>
    have hm : decide (L = L2) = false := decide_eq_false fun e => hne (by rw [← hL, ← hL2, e])
    go_wp2_with fail
    go_ret
    exact ⟨by rw [HFB.out, hm]; rfl, Below.refl _ _⟩
  case pos =>
    subst hne
    go_wp2_with fail
    go_loopw [5] (fun i wr => ∃ x : Nat, x ≤ n ∧ i = .int .i64 (x : Int) ∧ (∀ p (hp : p < L.length) (hp2 : p < L2.length), p < x → L[p] = L2[p]) ∧ Below w.heap.size w wr) (fun i _ => n - (intOf i).toNat)
    case atStart => exact ⟨0, by omega, rfl, fun p _ _ h => by omega, Below.refl _ _⟩
    case round =>
      obtain ⟨x, hx, rfl, hlo, gb⟩ := hrel
      by_cases hlt : x < n
      · have hhL : x < L.length := by omega
        have hhL2 : x < L2.length := by omega
        obtain ⟨g, o, hA, hrg⟩ := hr x hhL
        obtain ⟨g2, o2, hA2, hrg2⟩ := hr2 x hhL2
        have hlh : L[x].length = 32 := h32 _ (List.getElem_mem hhL)
        have hlh2 : L2[x].length = 32 := h322 _ (List.getElem_mem hhL2)
        have hSi : (Try.prog.info? 23).map (·.size) = some (u8v L[x]).length := by rw [u8v_length, hlh]; exact size_id
        have hSi2 : (Try.prog.info? 23).map (·.size) = some (u8v L2[x]).length := by rw [u8v_length, hlh2]; exact size_id
        have hag : (u8v L[x]).toArray = idC L[x] := rfl
        have hag2 : (u8v L2[x]).toArray = idC L2[x] := rfl
        have hev : ∀ W, (Op.equalIn 10000 23 (.agg (u8v L[x]).toArray) (.agg (u8v L2[x]).toArray)).run Try.prog W = .ok (decide (L[x] = L2[x])) W := fun W => by rw [hag, hag2]; exact run_eq_id W _ _ hlh hlh2
        have hrgW : ∀ W, Below wr.heap.size wr W → W.rangeAt g (o + x * 32) (u8v L[x]) := fun W hW => range_below (range_below hrg gb) hW
        have hrgW2 : ∀ W, Below wr.heap.size wr W → W.rangeAt g2 (o2 + x * 32) (u8v L2[x]) := fun W hW => range_below (range_below hrg2 gb) hW
        have hhn : (x : Int) < (n : Int) := by omega
        subst hA hA2
        obtain ⟨bo, hbo⟩ : ∃ bo, bo = decide (L[x] = L2[x]) := ⟨_, rfl⟩
        rw [← hbo] at hev
        have HBO := Lib.hid hbo
        clear hag hag2 hbo
        go_upto_region 6 with (fail)
        refine rs6 g o n c g2 o2 c2 x (u8v L[x]) (u8v L2[x]) bo wr hhn hrgW hSi hrgW2 hSi2 hev fun w2 hb2 => ?_
        have gb2 := below_then gb hb2 (Nat.le_refl _)
        clear hev hrgW hrgW2 gb hb2
        cases bo with
        | true =>
          have he : L[x] = L2[x] := of_decide_eq_true HBO.out.symm
          go_wp2_with fail
          refine ⟨⟨x + 1, by omega, rfl, fun p hp hp2 hpl => ?_, gb2⟩, by simp [intOf]; omega⟩
          rcases Nat.lt_or_ge p x with h1 | h1
          · exact hlo p hp hp2 h1
          · obtain rfl : p = x := by omega
            exact he
        | false =>
          have he : L[x] ≠ L2[x] := of_decide_eq_false HBO.out.symm
          have hm : decide (L = L2) = false := decide_eq_false fun e => he (by subst e; rfl)
          go_wp2_with fail
          go_ret
          exact ⟨by rw [HFB.out, hm]; rfl, gb2⟩
      · obtain rfl : x = n := by omega
        have hm : decide (L = L2) = true := decide_eq_true (List.ext_getElem (by omega) fun p hp hp2 => hlo p hp hp2 (by omega))
        go_wp2_with fail
        go_ret
        exact ⟨by rw [HFB.out, hm]; rfl, gb⟩
end Go.Proofs.Ytcdnbidenaljlaa
