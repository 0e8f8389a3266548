/- hash.Less. -/
import Derived.Test.YtcdnbidenaljlaaSetF
namespace Go.Proofs.Ytcdnbidenaljlaa
open Go.RowKit

theorem wpList_id1 {ops : Array Oper} {rest : List Oper} {o : Oper} {c : Act} {w : World} {Q : Exit → Act → World → Prop} (hgd : o.guard = none) (x : Operand) (ho : o.op = .buildSlice 32 1 #[(0, x)]) (X : Array Value) (a : List UInt8) (hX : X = idC a) (ha : a.length = 32) (hx : c.eval x = .agg X)
    (h : wpList Try.prog ops Q rest (c.put o.dst (.slice (some ⟨w.heap.size, 0, none⟩) 1 1)) (w.alloc (.cells X 23))) : wpList Try.prog ops Q (o :: rest) c w := by
  subst hX
  refine wpList_plain hgd fun K hK => ?_
  have hf := built_id1 a ha (#[(0, x)].map fun (i, x) => (i, c.eval x)).toList (by simp [hx])
  unfold Program.builtSlice at hf
  cases hie : Try.prog.info? 23 with
  | none => simp [hie] at hf
  | some ie =>
    simp only [hie] at hf
    cases hz : ie.zero with
    | none => simp [hz] at hf
    | some z =>
      simp only [hz] at hf
      by_cases hc : 1 * ie.size > 2 ^ 24 ∨ 1 * ie.size = 0
      · simp only [hc, if_true] at hf; cases hf
      · rw [if_neg hc] at hf
        exact wp_buildSlice 32 23 1 _ ho _ ie z Try.underlying32 hie hz (fun h' => hc (Or.inl h')) (fun h' => hc (Or.inr h')) hf (hK _ _ h)
def lessL (L L2 : List (List UInt8)) : List (List UInt8) := L.filter fun x => !decide (x ∈ L2)
theorem lessL_snoc (L L2 : List (List UInt8)) (k : Nat) (h : k < L.length) : lessL (L.take (k + 1)) L2 = lessL (L.take k) L2 ++ if decide (L[k] ∈ L2) = true then [] else [L[k]] := by
  unfold lessL
  rw [List.take_succ_eq_append_getElem h, List.filter_append]
  congr 1
  by_cases e : L[k] ∈ L2 <;> simp [e]
theorem lessL_32 {L L2 : List (List UInt8)} (h : ∀ x ∈ L, x.length = 32) : ∀ x ∈ lessL L L2, x.length = 32 := fun x hx => h x (List.mem_filter.1 hx).1
set_option maxRecDepth 100000 in
set_option maxHeartbeats 1000000 in
theorem less_any (A : Option Addr) (n c : Nat) (L : List (List UInt8)) (hL : L.length = n) (hn : n ≤ 1000000) (h32 : ∀ x ∈ L, x.length = 32) (A2 : Option Addr) (n2 c2 : Nat) (L2 : List (List UInt8)) (hL2 : L2.length = n2) (hn2 : n2 ≤ 1000000) (h322 : ∀ x ∈ L2, x.length = 32) (hR : Rise L2) (w : World) (hr : RdIds w A L) (hr2 : RdIds w A2 L2) :
    Calls Try.prog 16 #[.slice A n c, .slice A2 n2 c2] w fun e w' => ∃ v, e = .returned v ∧ w'.ownsRow w.heap.size 23 32 v (lessL L L2).length (idsC (lessL L L2)) ∧ Below w.heap.size w w' := by
  obtain ⟨Z, hZ0, hZs⟩ : ∃ Z : Array Value, (Try.prog.info? 23).bind (fun i => i.zero.map Value.cells) = some Z ∧ Z.size = 32 := ⟨_, zero_id, by rw [idC_size]; rfl⟩
  have hni : (n : Int) ≤ 1000000 := by omega
  go_enter Try.func16, Try.ntmps16
  go_wp2_with fail
  go_loopw [5, 10] (fun v i wr => ∃ k : Nat, k ≤ n ∧ i = .int .i64 (k : Int) ∧ wr.ownsRow w.heap.size 23 32 v (lessL (L.take k) L2).length (idsC (lessL (L.take k) L2)) ∧ Below w.heap.size w wr) (fun _ i _ => n - (intOf i).toNat)
  case atStart => exact ⟨0, by omega, rfl, World.ownsRow_nil _ _ _ _, Below.refl _ _⟩
  case round =>
    obtain ⟨k, hk, rfl, hown, gb⟩ := hrel
    by_cases hlt : k < n
    · have hhL : k < L.length := by omega
      have hki : (k : Int) < (n : Int) := by omega
      obtain ⟨g, o, hA, hrg⟩ := hr k hhL
      have hlh : L[k].length = 32 := h32 _ (List.getElem_mem hhL)
      have hsn := lessL_snoc L L2 k hhL
      have h32k := lessL_32 (L2 := L2) (fun x hx => h32 x (List.mem_of_mem_take hx) : ∀ x ∈ L.take k, x.length = 32)
      have hKl : (lessL (L.take k) L2).length ≤ k := Nat.le_trans (List.length_filter_le _ _) (by rw [List.length_take]; omega)
      have hrgW := range_below hrg gb
      generalize L[k] = x at hlh hsn hrgW hrg
      have hSi : (Try.prog.info? 23).map (·.size) = some (u8v x).length := by rw [u8v_length, hlh]; exact size_id
      obtain ⟨X, hX, hXs, hX1⟩ : ∃ X : Array Value, Hid (X = idC x) ∧ X.size = 32 ∧ (∀ u ∈ X.toList, u.oneCell' = true) := ⟨_, rfl, by rw [idC_size, hlh], by simpa [idC] using u8v_one x⟩
      have hXi : (Try.prog.info? 23).map (·.size) = some X.size := by rw [hXs]; exact size_id
      have hXz : X.size = Z.size := by rw [hXs, hZs]
      have hag : (u8v x).toArray = X := by rw [hX.out]; rfl
      have qn : (wr.alloc (.cells Z 23)).heap[wr.heap.size]? = some (.cells Z 23 (0, 0)) := heap_alloc_new _ _
      obtain ⟨w1, hw1⟩ : ∃ w1, w1 = (wr.alloc (.cells Z 23)).setRow wr.heap.size X := ⟨_, rfl⟩
      have hb1 : Below wr.heap.size wr w1 := by rw [hw1]; exact below_setRow ((Below.refl _ wr).alloc (Nat.le_refl _) _) (Nat.le_refl _) X
      have q1 : w1.heap[wr.heap.size]? = some (.cells X 23 (0, 0)) := by rw [hw1]; exact setRow_heap _ _ _ _ _ _ qn
      have gb1 := below_then gb hb1 (Nat.le_refl _)
      have hown1 := own_below hown hb1
      have hhas := hashas_any A2 n2 c2 L2 hL2 hn2 h322 hR w1 (hr2.below gb1) x hlh
      rw [← hX.out] at hhas
      obtain ⟨bo, hbo⟩ : ∃ bo, bo = decide (x ∈ L2) := ⟨_, rfl⟩
      rw [← hbo] at hhas hsn
      have HW1 := Lib.hid hw1
      have HSN := Lib.hid hsn
      have HAG := Lib.hid hag
      subst hA
      clear hw1 hsn hbo hown hag hb1
      go_upto_region 4 with (fail)
      go_upto_region 5 with (first
        | (with_reducible refine wpList_load_mid rfl 23 (.tmp 12) rfl g (o + k * 32) rfl (u8v x) _ hrgW Try.underlying23 rfl hSi ?_; rw [HAG.out])
        | (with_reducible refine wpList_alloc_z rfl 23 rfl Z hZ0 ?_)
        | (with_reducible refine wpList_store_z rfl 23 (.tmp 7) (.tmp 13) rfl _ rfl X rfl Z _ qn hXz hXi hX1 ?_)
        | fail)
      rw [← HW1.out]
      cases bo with
      | true =>
        go_wp2_with (first
          | (with_reducible refine wpList_load_row rfl 23 (.tmp 7) rfl _ rfl 23 X _ _ q1 Try.underlying23 rfl hXi ?_)
          | (go_at_call 14; refine hhas.mono ?_; rintro e w2 ⟨rfl, hb2⟩)
          | fail)
        refine ⟨⟨k + 1, by omega, rfl, ?_, below_then gb1 hb2 (Nat.le_refl _)⟩, by simp [intOf]; omega⟩
        have hs := HSN.out
        simp only [if_true, List.append_nil] at hs
        rw [hs]
        exact own_below hown1 hb2
      | false =>
        go_upto_region 6 with (first
          | (with_reducible refine wpList_load_row rfl 23 (.tmp 7) rfl _ rfl 23 X _ _ q1 Try.underlying23 rfl hXi ?_)
          | (go_at_call 14; refine hhas.mono ?_; rintro e w2 ⟨rfl, hb2⟩)
          | fail)
        have q2 := (hb2.block _ (lt_of_get q1)).trans q1
        obtain ⟨wx, hwx⟩ : ∃ wx, wx = w2.alloc (.cells X 23) := ⟨_, rfl⟩
        have hbx : Below w2.heap.size w2 wx := by rw [hwx]; exact (Below.refl _ _).alloc (Nat.le_refl _) _
        have hox := own_below (own_below hown1 hb2) hbx
        have hgx : wx.heap[w2.heap.size]? = some (.cells X 23 (0, 0)) := by rw [hwx]; exact heap_alloc_new _ _
        have hrx : RdC wx (some ⟨w2.heap.size, 0, none⟩) (idsC [x]) := fun j u hj => by
          refine ⟨_, rfl, ?_⟩
          rw [addr_add_plain, Nat.zero_add, cell_of_row _ _ _ _ _ _ hgx, hX.out, ← hj, ← Array.getElem?_toList]
          simp [idsC, idC]
        have hsx := below_then (below_then gb1 hb2 (Nat.le_refl _)) hbx (Nat.le_refl _)
        have hl1 : (idsC [x]).length = 1 * 32 := idsC_length [x] (by simpa using hlh)
        have HWX := Lib.hid hwx
        clear hwx hbx hown1 gb1 hb2 q1
        go_wp2_with (first
          | (with_reducible refine wpList_load_row rfl 23 (.tmp 7) rfl _ rfl 23 X _ _ q2 Try.underlying23 rfl hXi ?_)
          | (with_reducible refine wpList_id1 rfl (.tmp 19) rfl X x hX.out hlh rfl ?_; rw [← HWX.out])
          | (at_builtin; go_loud (refine wpList_app elt_id rfl (.tmp 18) (.tmp 20) rfl w.heap.size _ (lessL (L.take k) L2).length (idsC (lessL (L.take k) L2)) rfl hox (some ⟨w2.heap.size, 0, none⟩) 1 1 (idsC [x]) rfl hl1 hrx (idsC_one _) (by unfold maxLen; omega) (by omega) hsx.size ?_; intro v' w' ho hg; have hbn := below_grown hsx hox hg hsx.size (Nat.le_refl _)))
          | fail)
        refine ⟨⟨k + 1, by omega, rfl, ?_, hbn⟩, by simp [intOf]; omega⟩
        have hs := HSN.out
        simp only [Bool.false_eq_true, if_false] at hs
        rw [hs, idsC_app, List.length_append]
        exact ho
    · obtain rfl : k = n := by omega
      rw [List.take_of_length_le (by omega)] at hown
      go_wp2_with fail
      go_ret
      exact ⟨_, rfl, hown, gb⟩
end Go.Proofs.Ytcdnbidenaljlaa
