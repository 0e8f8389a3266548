/- The law SumSums, walked: it answers true, and writes nothing that was there. -/
import Derived.Test.YtnpdbnphoifjlaaSumT
import Derived.Test.YtnpdbnphoifjlaaSumR3
import Derived.Test.YtnpdbnphoifjlaaOpen
namespace Go.Proofs.Ytnpdbnphoifjlaa
open Go.RowKit

theorem below_alloc' {w W : World} (h : Below w.heap.size w W) (o : Obj) : Below w.heap.size w (W.alloc o) := h.alloc h.size o
theorem rd_three {w : World} {g : Nat} {u v x : Value} {t : TypeId} (h : w.heap[g]? = some (.cells #[u, v, x] t (0, 0))) : RdC w (some ⟨g, 0, none⟩) [u, v, x] := fun j y hj => by
  refine ⟨_, rfl, ?_⟩
  rw [addr_add_plain, Nat.zero_add, cell_of_row w g j _ _ _ h]
  simpa using hj
theorem onN_app (s : Nat) (a b : List UInt8) : onN (onN s a) b = onN s (a ++ b) := by
  unfold onN
  have h := overN_lt a (4294967295 - s) (by omega)
  rw [show 4294967295 - (4294967295 - overN (4294967295 - s) a) = overN (4294967295 - s) a by omega]
  congr 1
  unfold overN
  rw [List.foldl_append]
theorem ofN_cut (l : List UInt8) (k : Nat) : ofN [l.take k, [], l.drop k] = ofN [l] := by
  unfold ofN
  simp only [List.foldl_cons, List.foldl_nil, onN_app, List.append_nil, List.take_append_drop]
set_option maxHeartbeats 4000000 in
theorem sumSums_walk (A : Option Addr) (n c : Nat) (l : List UInt8) (at1 x2 : Nat) (b3 : UInt8) (w : World) (h0 : ByteRow w A n c l) (h1 : at1 < 65536) (h2 : x2 < 4294967296) :
    Calls Try.prog 3 #[.slice A n c, .int .u16 at1, .int .u32 x2, .int .u8 (b3.toNat : Int)] w fun e w' => e = .returned (.bool true) ∧ Below w.heap.size w w' := by
  obtain ⟨hl, hc, hm, hr⟩ := h0
  by_cases hlen : 5000 < n
  · go_enter Try.func3, Try.ntmps3
    go_wp2
    go_ret
    exact ⟨rfl, Below.refl _ _⟩
  have HL := Lib.hid hl
  clear hl
  have hkn : ((at1 : Int) % ((n : Int) + 1)) = ((at1 % (n + 1) : Nat) : Int) := by simp
  have hkle : at1 % (n + 1) ≤ n := by have := Nat.mod_lt at1 (show 0 < n + 1 by omega); omega
  obtain ⟨k, hk⟩ : ∃ k, k = at1 % (n + 1) := ⟨_, rfl⟩
  rw [← hk] at hkn hkle
  clear hk
  go_enter Try.func3, Try.ntmps3
  go_wp2_with (at_builtin; refine wpList_app elt8 rfl (.tmp 15) (.tmp 16) rfl w.heap.size (.slice (some ⟨w.heap.size, 0, none⟩) 0 0) 0 [] rfl ?_ A n c (u8v l) rfl ?_ ((hr.alloc _)) (u8v_one _) ?_ ?_ ?_ ?_)
  case refine_1 => exact World.ownsRow_lit w #[] 0 (Nat.le_refl _) (by unfold maxLen; omega) rfl
  case refine_2 => rw [u8v_length, HL.out]; simp
  case refine_3 => unfold maxLen; omega
  case refine_4 => omega
  case refine_5 => simp
  intro v1 w2 ho hg
  have ho0 : (w.alloc (Obj.cells #[] 5)).ownsRow w.heap.size 5 1 (.slice (some ⟨w.heap.size, 0, none⟩) 0 0) 0 [] := World.ownsRow_lit w #[] 0 (Nat.le_refl _) (by unfold maxLen; omega) rfl
  have hb2 := below_grown ((Below.refl _ w).alloc (Nat.le_refl _) (Obj.cells #[] 5)) ho0 hg (by simp) (Nat.le_refl _)
  have hr2 : RdC w2 A (u8v l) := hr.below hb2
  clear ho0 hg hr
  obtain ⟨A1, c1, rfl, hc1, hm1, hrr, hB1⟩ := RdC.of_own ho
  clear ho hB1
  have hR0 : ∀ W, Below w2.heap.size w2 W → RdC W A (u8v l) := fun W h => hr2.below h
  have hR1 : ∀ W, Below w2.heap.size w2 W → RdC W A1 (u8v l) := fun W h => hrr.below h
  have s1 := fun W => run_sub_h (P := Try.prog) W 22 A1 n c1 1 Try.underlying22 (Try.sizeOf5 W) (k : Int) k rfl (by omega)
  have s2 := fun W => run_sub_l (P := Try.prog) W 22 A1 n c1 1 Try.underlying22 (Try.sizeOf5 W) (k : Int) k rfl (by omega)
  have qOf1 : ∀ W g, Below w2.heap.size w2 W → W.heap[g]? = some (.cells #[.slice A1 n c1] 22 (0, 0)) → Calls Try.prog 10 #[.slice (some ⟨g, 0, none⟩) 1 1] W fun e w' => e = .returned (.int .u32 (ofN [l])) ∧ W = w' := fun W g hb hg =>
    of_any _ _ _ [⟨A1, n, c1, l⟩] rfl W (rd_one hg) (fun s hs => by
      simp only [List.mem_cons, List.not_mem_nil, or_false] at hs
      subst hs
      exact ⟨hR1 W hb, HL.out, by show n ≤ _; omega⟩) (show 1 ≤ 9223372036854775807 by omega)
  go_wp2_with (first
    | (go_at_call 9; refine (rof_any _ _ _ l HL.out _ hr2 (by omega)).mono ?_; rintro e w' ⟨rfl, rfl⟩)
    | fail)
  have qOf3 : ∀ W g, Below w2.heap.size w2 W → W.heap[g]? = some (.cells #[.slice A1 k c1, .slice none 0 0, .slice (subA A1 c1 k 1) (n - k) (c1 - k)] 22 (0, 0)) → Calls Try.prog 10 #[.slice (some ⟨g, 0, none⟩) 3 3] W fun e w' => e = .returned (.int .u32 (ofN [l])) ∧ W = w' := fun W g hb hg => by
    have := of_any _ 3 3 [⟨A1, k, c1, l.take k⟩, ⟨none, 0, 0, []⟩, ⟨subA A1 c1 k 1, n - k, c1 - k, l.drop k⟩] rfl W (rd_three hg) (fun s hs => by
      simp only [List.mem_cons, List.not_mem_nil, or_false] at hs
      rcases hs with rfl | rfl | rfl
      · exact ⟨by rw [← u8v_take]; exact (hR1 W hb).take k, by simp [HL.out]; omega, by show k ≤ _; omega⟩
      · exact ⟨RdC.nil _ _, rfl, by simp⟩
      · refine ⟨?_, by simp [HL.out], by show n - k ≤ _; omega⟩
        have := (hR1 W hb).drop c1 k 1 (by rw [u8v_length, HL.out]; omega)
        rwa [Nat.mul_one, u8v_drop] at this) (by omega)
    simpa only [List.map_cons, List.map_nil, ofN_cut] using this
  have qOn : ∀ W, Below w2.heap.size w2 W → Calls Try.prog 11 #[.int .u32 x2, .slice A1 n c1] W fun e w' => e = .returned (.int .u32 (onN x2 l)) ∧ W = w' := fun W hb => on_any _ h2 _ _ _ l HL.out W (hR1 W hb) (by omega)
  have qROn : ∀ W, Below w2.heap.size w2 W → Calls Try.prog 12 #[.int .u32 x2, .slice A n c] W fun e w' => e = .returned (.int .u32 (onN x2 l)) ∧ W = w' := fun W hb => ron_any _ h2 _ _ _ l HL.out W (hR0 W hb) (by omega)
  have hb38 := b3.toNat_lt
  have hix := fun W => run_index_agg (P := Try.prog) W 28 24 256 .u8 (b3.toNat : Int) tabV _ Try.underlying28 (by kernel_rfl) (Try.isAgg24 W) (by omega) (by omega) (tabV_get b3.toNat (by omega))
  have k1 : ∀ W, Below w2.heap.size w2 W → (convert 22 9 (.slice A1 n c1)).run Try.prog W = .ok (.string (bstr l)) W := fun W hb => by
    have := run_string_of (P := Try.prog) W 22 9 5 Try.underlying22 Try.underlying5 Try.underlying9 A1 l c1 (hR1 W hb)
    rwa [HL.out] at this
  have k2 : ∀ W, Below w2.heap.size w2 W → (convert 22 9 (.slice A n c)).run Try.prog W = .ok (.string (bstr l)) W := fun W hb => by
    have := run_string_of (P := Try.prog) W 22 9 5 Try.underlying22 Try.underlying5 Try.underlying9 A l c (hR0 W hb)
    rwa [HL.out] at this
  have qRow := fun W => rrow_any b3 W
  generalize onN x2 l = y2 at *
  generalize ofN [l] = y1 at *
  generalize rowN b3.toNat = y3 at *
  clear hR0 hR1 hrr hr2
  go_region_held3 (fun W => Below w2.heap.size w2 W) ((repeat first | exact Below.refl _ _ | assumption | apply Below.drew | apply below_alloc')) (first
    | (go_at_call 10; (with_reducible refine (qOf1 _ _ ?_ ?_).mono ?_); (repeat first | exact Below.refl _ _ | apply Below.drew | apply below_alloc'); (exact heap_alloc_new _ _); rintro e w' ⟨rfl, rfl⟩)
    | (go_at_call 10; (with_reducible refine (qOf3 _ _ ?_ ?_).mono ?_); (repeat first | exact Below.refl _ _ | apply Below.drew | apply below_alloc'); (exact heap_alloc2_new _ _ _); rintro e w' ⟨rfl, rfl⟩)
    | (go_at_call 11; (with_reducible refine (qOn _ ?_).mono ?_); (repeat first | exact Below.refl _ _ | apply Below.drew | apply below_alloc'); rintro e w' ⟨rfl, rfl⟩)
    | (go_at_call 12; (with_reducible refine (qROn _ ?_).mono ?_); (repeat first | exact Below.refl _ _ | apply Below.drew | apply below_alloc'); rintro e w' ⟨rfl, rfl⟩)
    | (go_at_call 13; (with_reducible refine (table_any _).mono ?_); rintro e w5 ⟨rfl, hb5⟩; have hb6 : Below w2.heap.size w2 w5 := below_then (below_alloc' (below_alloc' (Below.refl _ _) _) _).drew hb5 (Nat.le_refl _))
    | (go_at_call 14; (with_reducible refine (qRow _).mono ?_); rintro e w' ⟨rfl, rfl⟩)
    | fail)
  all_goals
    go_wp2
    go_ret
    refine ⟨rfl, below_then hb2 ?_ (Nat.le_refl _)⟩
    assumption
end Go.Proofs.Ytnpdbnphoifjlaa
