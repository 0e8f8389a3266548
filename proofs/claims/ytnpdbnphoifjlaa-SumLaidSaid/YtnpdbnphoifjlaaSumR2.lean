/- The walks through the reference of sums, further on. -/
import Derived.Test.YtnpdbnphoifjlaaSumR
namespace Go.Proofs.Ytnpdbnphoifjlaa
open Go.RowKit

theorem elt8 : Elt Try.prog 22 5 1 1 (.int .u8 0) := ⟨Try.underlying22, info8, rfl, by omega⟩
theorem fourB_length (n : Nat) : (fourB n).length = 4 := rfl
theorem wrapB_length (l : List UInt8) : (wrapB l).length = l.length + 8 := by simp [wrapB, fourB_length]; omega

set_option maxHeartbeats 1000000 in
theorem rwrap_any (A : Option Addr) (n c : Nat) (l : List UInt8) (hn0 : l.length = n) (w : World) (hr : RdC w A (u8v l)) (hl : n ≤ 4194304) :
    Calls Try.prog 18 #[.slice A n c] w fun e w' => (∃ v, e = .returned (.tuple #[v, .int .i64 0]) ∧ w'.ownsRow w.heap.size 5 1 v (n + 8) (u8v (wrapB l))) ∧ Below w.heap.size w w' := by
  subst hn0
  have hl0 := hl
  go_enter Try.func18, Try.ntmps18
  go_wp2_with fail
  refine (rfour_any l.length (by omega) w).mono ?_
  rintro e w1 ⟨⟨v1, rfl, ho1⟩, hb1⟩
  have hr1 := hr.below hb1
  go_wp2_with (at_builtin; refine wpList_app elt8 rfl (.tmp 11) (.tmp 12) rfl w.heap.size v1 4 (u8v (fourB l.length)) rfl ho1 A l.length c (u8v l) rfl ?_ hr1 (u8v_one _) ?_ ?_ hb1.size ?_)
  · simp [u8v_length]
  · unfold maxLen; omega
  · omega
  intro v2 w2 ho2 hg2
  have hb2 := below_grown hb1 ho1 hg2 hb1.size (Nat.le_refl _)
  have hr2 := hr1.grown_own ho1 hg2 hr (Nat.le_refl _)
  rw [← u8v_append] at ho2
  clear ho1 hg2 hr1 hb1
  obtain ⟨A2, c2, rfl, hc2, hm2, hrr, hB2⟩ := RdC.of_own ho2
  go_wp2_with fail
  refine (rof_any _ _ _ (fourB l.length ++ l) (by simp [fourB_length]) w2 hrr (by omega)).mono ?_
  rintro e w' ⟨rfl, rfl⟩
  have he : Hid (wrapB l = fourB l.length ++ l ++ fourB (ofN [fourB l.length ++ l])) := by
    show _ = _
    unfold wrapB
    congr 2
    unfold ofN
    simp only [List.foldl_cons, List.foldl_nil]
    unfold onN overN
    rw [List.foldl_append, Nat.sub_zero]
    congr 2
    have := overN_lt (fourB l.length) 4294967295 (by omega)
    unfold overN at this
    omega
  go_wp2_with fail
  refine (rfour_any _ (ofN_lt _) w2).mono ?_
  rintro e w3 ⟨⟨v3, rfl, ho3⟩, hb3⟩
  have ho2' := own_below ho2 hb3
  have hb23 := below_then hb2 hb3 (Nat.le_refl _)
  obtain ⟨A3, c3, rfl, hc3, hm3, hrr3, hB3⟩ := RdC.of_own ho3
  go_wp2_with (at_builtin; refine wpList_app elt8 rfl (.tmp 14) (.tmp 17) rfl w.heap.size _ _ (u8v (fourB l.length ++ l)) rfl ho2' A3 4 c3 (u8v (fourB (ofN [fourB l.length ++ l]))) rfl ?_ hrr3 (u8v_one _) ?_ ?_ hb23.size ?_)
  · rw [u8v_length]; rfl
  · unfold maxLen; omega
  · omega
  intro v4 w4 ho4 hg4
  go_wp2
  go_ret2
  refine ⟨⟨v4, rfl, ?_⟩, below_grown hb23 ho2' hg4 hb23.size (Nat.le_refl _)⟩
  rw [he.out, u8v_append]
  have e : 4 + l.length + 4 = l.length + 8 := by omega
  rwa [e] at ho4
end Go.Proofs.Ytnpdbnphoifjlaa
