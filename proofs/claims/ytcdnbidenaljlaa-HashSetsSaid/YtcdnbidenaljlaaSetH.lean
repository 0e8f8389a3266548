/- The reference's Less. -/
import Derived.Test.YtcdnbidenaljlaaSetG
namespace Go.Proofs.Ytcdnbidenaljlaa
open Go.RowKit

set_option maxRecDepth 100000 in
set_option maxHeartbeats 1000000 in
theorem rless_any (A : Option Addr) (n c : Nat) (L : List (List UInt8)) (hL : L.length = n) (hn : n ≤ 1000000) (h32 : ∀ x ∈ L, x.length = 32) (A2 : Option Addr) (n2 c2 : Nat) (L2 : List (List UInt8)) (hL2 : L2.length = n2) (hn2 : n2 ≤ 1000000) (h322 : ∀ x ∈ L2, x.length = 32) (w : World) (hr : RdIds w A L) (hr2 : RdIds w A2 L2) :
    Calls Try.prog 17 #[.slice A n c, .slice A2 n2 c2] w fun e w' => ∃ v, e = .returned v ∧ w'.ownsRow w.heap.size 23 32 v (lessL L L2).length (idsC (lessL L L2)) ∧ Below w.heap.size w w' := by
  have hni : (n : Int) ≤ 1000000 := by omega
  go_enter Try.func17, Try.ntmps17
  go_wp2_with fail
  go_loopw [5, 6] (fun v i wr => ∃ k : Nat, k ≤ n ∧ i = .int .i64 (k : Int) ∧ wr.ownsRow w.heap.size 23 32 v (lessL (L.take k) L2).length (idsC (lessL (L.take k) L2)) ∧ Below w.heap.size w wr) (fun _ i _ => n - (intOf i).toNat)
  case atStart => exact ⟨0, by omega, rfl, World.ownsRow_nil _ _ _ _, Below.refl _ _⟩
  case round =>
    obtain ⟨k, hk, rfl, hown, gb⟩ := hrel
    by_cases hlt : k < n
    · have hhL : k < L.length := by omega
      have hki : (k : Int) < (n : Int) := by omega
      obtain ⟨g, o, hA, hrg⟩ := hr k hhL
      have hlh : L[k].length = 32 := h32 _ (List.getElem_mem hhL)
      have hsn := lessL_snoc L L2 k hhL
      have hKl : (lessL (L.take k) L2).length ≤ k := Nat.le_trans (List.length_filter_le _ _) (by rw [List.length_take]; omega)
      have hrgW := range_below hrg gb
      generalize L[k] = x at hlh hsn hrgW hrg
      have hSi : (Try.prog.info? 23).map (·.size) = some (u8v x).length := by rw [u8v_length, hlh]; exact size_id
      obtain ⟨X, hX, hXs⟩ : ∃ X : Array Value, Hid (X = idC x) ∧ X.size = 32 := ⟨_, rfl, by rw [idC_size, hlh]⟩
      have hag : (u8v x).toArray = X := by rw [hX.out]; rfl
      have hhas := rhasid_any A2 n2 c2 L2 hL2 hn2 h322 wr (hr2.below gb) x hlh
      rw [← hX.out] at hhas
      obtain ⟨bo, hbo⟩ : ∃ bo, bo = decide (x ∈ L2) := ⟨_, rfl⟩
      rw [← hbo] at hhas hsn
      have HSN := Lib.hid hsn
      have HAG := Lib.hid hag
      subst hA
      clear hsn hbo hag
      cases bo with
      | true =>
        go_wp2_with (first
          | (with_reducible refine wpList_load_mid rfl 23 (.tmp 17) rfl g (o + k * 32) rfl (u8v x) _ hrgW Try.underlying23 rfl hSi ?_; rw [HAG.out])
          | (go_at_call 15; refine hhas.mono ?_; rintro e w2 ⟨rfl, hb2⟩)
          | fail)
        refine ⟨⟨k + 1, by omega, rfl, ?_, below_then gb hb2 (Nat.le_refl _)⟩, by simp [intOf]; omega⟩
        have hs := HSN.out
        simp only [if_true, List.append_nil] at hs
        rw [hs]
        exact own_below hown hb2
      | false =>
        go_upto_region 7 with (first
          | (with_reducible refine wpList_load_mid rfl 23 (.tmp 17) rfl g (o + k * 32) rfl (u8v x) _ hrgW Try.underlying23 rfl hSi ?_; rw [HAG.out])
          | (go_at_call 15; refine hhas.mono ?_; rintro e w2 ⟨rfl, hb2⟩)
          | fail)
        have hrg2 := range_below hrgW hb2
        obtain ⟨wx, hwx⟩ : ∃ wx, wx = w2.alloc (.cells X 23) := ⟨_, rfl⟩
        have hbx : Below w2.heap.size w2 wx := by rw [hwx]; exact (Below.refl _ _).alloc (Nat.le_refl _) _
        have hox := own_below (own_below hown hb2) hbx
        have hgx : wx.heap[w2.heap.size]? = some (.cells X 23 (0, 0)) := by rw [hwx]; exact heap_alloc_new _ _
        have hrx : RdC wx (some ⟨w2.heap.size, 0, none⟩) (idsC [x]) := fun j u hj => by
          refine ⟨_, rfl, ?_⟩
          rw [addr_add_plain, Nat.zero_add, cell_of_row _ _ _ _ _ _ hgx, hX.out, ← hj, ← Array.getElem?_toList]
          simp [idsC, idC]
        have hsx := below_then (below_then gb hb2 (Nat.le_refl _)) hbx (Nat.le_refl _)
        have hl1 : (idsC [x]).length = 1 * 32 := idsC_length [x] (by simpa using hlh)
        have HWX := Lib.hid hwx
        clear hwx hbx hown gb hb2 hrgW
        go_wp2_with (first
          | (with_reducible refine wpList_load_mid rfl 23 (.tmp 25) rfl g (o + k * 32) rfl (u8v x) _ hrg2 Try.underlying23 rfl hSi ?_; rw [HAG.out])
          | (with_reducible refine wpList_id1 rfl (.tmp 26) rfl X x hX.out hlh rfl ?_; rw [← HWX.out])
          | (at_builtin; go_loud (refine wpList_app elt_id rfl (.tmp 22) (.tmp 27) rfl w.heap.size _ (lessL (L.take k) L2).length (idsC (lessL (L.take k) L2)) rfl hox (some ⟨w2.heap.size, 0, none⟩) 1 1 (idsC [x]) rfl hl1 hrx (idsC_one _) (by unfold maxLen; omega) (by omega) hsx.size ?_; intro v' w' ho hg; have hbn := below_grown hsx hox hg hsx.size (Nat.le_refl _)))
          | fail)
        refine ⟨⟨k + 1, by omega, rfl, ?_, hbn⟩, by simp [intOf]; omega⟩
        have hs := HSN.out
        simp only [Bool.false_eq_true, if_false] at hs
        rw [hs, idsC_app, List.length_append]
        exact ho
    · obtain rfl : k = n := by omega
      rw [List.take_of_length_le (by omega)] at hown
      go_wp2_with fail
      go_ret
      exact ⟨_, rfl, hown, gb⟩
end Go.Proofs.Ytcdnbidenaljlaa
