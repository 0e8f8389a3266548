/- leb: a Sink's Number. -/
import Derived.Test.YtfifbjlmbdgmjaaLebN
import Derived.Test.YtfifbjlmbdgmjaaLebU
namespace Go.Proofs.Ytfifbjlmbdgmjaa
open Go.RowKit Go.Shelf
attribute [local go_sem] Oper.semAt_some

set_option maxRecDepth 100000 in
set_option maxHeartbeats 2000000 in
theorem number_wide (g m : Nat) (hm : m < 18446744073709551616) (xs : List UInt8) (hx : xs.length ≤ 100000000) (v : Value) (w : World) (hS : SinkAt g v xs w) :
    Calls Try.prog 43 #[.pointer (some ⟨g, 0, none⟩), .int .u64 (m : Int)] w fun e w' => e = .returned (.pointer (some ⟨g, 0, none⟩)) ∧ ∃ v', SinkAt g v' (xs ++ numB m) w' ∧ (∀ k, v'.ownBlock = some k → k < w.heap.size → v.ownBlock = some k) ∧ Kept (fun k => k = g ∨ v.ownBlock = some k) w w' := by
  refine (callsIn_wide (n := 5)).1 ?_
  refine callsIn_of_wp_marks Try.func43 rfl trivial ?_ rfl
  simp only [Try.ntmps43, List.size_toArray, List.length_cons, List.length_nil, Nat.reduceAdd, Nat.reduceSub, Array.replicate_succ, Array.replicate_zero, List.push_toArray, List.append_toArray, List.nil_append, List.cons_append]
  gi_wp2_with (refine ⟨trivial, ?_⟩; gi_at_call 49; refine (callsIn_wide.2 (parts_any m _)).mono ?_; rintro e w' ⟨rfl, rfl⟩)
  obtain ⟨hsg, hown⟩ := hS
  have hgl := lt_get hsg
  obtain ⟨W0, hW0⟩ : ∃ W0, W0 = (w.alloc (.cells #[.pointer (some ⟨g, 0, none⟩)] 73)).alloc (.cells #[.int .u64 (m : Int)] 31) := ⟨_, rfl⟩
  have b1 : W0.heap[w.heap.size]? = some (.cells #[.pointer (some ⟨g, 0, none⟩)] 73 (0, 0)) := by rw [hW0]; exact heap_alloc2_old _ _ _
  have b2 : W0.heap[w.heap.size + 1]? = some (.cells #[.int .u64 (m : Int)] 31 (0, 0)) := by rw [hW0]; exact heap_alloc2_new _ _ _
  have bb : Below w.heap.size w W0 := by rw [hW0]; exact ((Below.refl _ w).alloc (Nat.le_refl _) _).alloc (by simp) _
  have bs : W0.heap.size = w.heap.size + 2 := by rw [hW0, World.size_alloc, World.size_alloc]
  rw [← hW0]
  clear hW0
  have hnb : ∀ k, v.ownBlock = some k → k < w.heap.size := fun k hk => (hown.lt k hk).2
  refine range_on (F := Fence.wide) (n := 5) rfl (by omega) (gf := 52) (lb := #[.pointer (some ⟨w.heap.size + 1, 0, none⟩)]) rfl trivial (enters_of Try.func52 (by kernel_rfl) rfl) enc8 (fun _ => rfl) (numB m) ⟨w.heap.size + 1, 0, none⟩ (by simp [bs])
    (fun r o => parts_hands Fence.wide 4 trivial rfl (by omega) (w.heap.size + 1) m _ hm (by
      rw [cell_of_row _ _ 0 _ _ _ (show ((W0.alloc o).alloc r).heap[w.heap.size + 1]? = _ from (((Below.refl _ W0).alloc (Nat.le_refl _) o).alloc (by simp) r).block _ (by omega) |>.trans b2)]
      rfl) (frozen_of_row _ _ 0 _ _ (show ((W0.alloc o).alloc r).heap[w.heap.size + 1]? = _ from (((Below.refl _ W0).alloc (Nat.le_refl _) o).alloc (by simp) r).block _ (by omega) |>.trans b2)))
    (SinkI g xs v w) ?h0 ?hIc ?hIp (sinkA g m w.heap.size) ?assign ?body ?done
  case h0 =>
    intro o r
    have hb := ((Below.refl _ W0).alloc (Nat.le_refl _) o).alloc (show W0.heap.size ≤ (W0.alloc o).heap.size by simp) r
    have hbw := below_then bb hb (Nat.le_refl _)
    exact ⟨(hb.block _ (by omega)).trans b1, ⟨_, (hb.block _ (by omega)).trans b2⟩, v, ⟨(hbw.block _ hgl).trans hsg, by rw [List.append_nil]; exact own_below hown hbw⟩, fun k hk _ => hk, ⟨hbw.os, hbw.tape, hbw.output, hbw.size, fun k hk _ => hbw.block k hk⟩⟩
  case hIc =>
    rintro s A u ⟨i1, ⟨u0, i4⟩, v1, ⟨i2, i3⟩, i5, i6⟩
    have hg : A.grownBy (A.setCell ⟨w.heap.size + 1, 0, none⟩ u) (some (w.heap.size + 1)) := ⟨rfl, rfl, rfl, by simp, fun k hk hne => heap_setCell_other _ _ _ _ (fun e => hne (by rw [e]))⟩
    exact ⟨by rw [heap_setCell_other _ _ _ _ (show w.heap.size ≠ w.heap.size + 1 by omega)]; exact i1, ⟨u, heap_setCell_same A (w.heap.size + 1) 0 #[u0] _ u i4⟩, v1, ⟨by rw [heap_setCell_other _ _ _ _ (show g ≠ w.heap.size + 1 by omega)]; exact i2, i3.kept hg (.inr (own_ne i3 i4 (by decide)))⟩, i5,
      ⟨i6.os, i6.tape, i6.output, by simpa using i6.size, fun k hk he => by rw [heap_setCell_other _ _ _ _ (show k ≠ w.heap.size + 1 by omega)]; exact i6.block k hk he⟩⟩
  case hIp =>
    rintro s A k o o' ⟨i1, ⟨u0, i4⟩, v1, ⟨i2, i3⟩, i5, i6⟩ hk ho hoc
    exact ⟨by rw [World.putObj_heap_other (by omega)]; exact i1, ⟨u0, by rw [World.putObj_heap_other (by omega)]; exact i4⟩, v1, ⟨by rw [World.putObj_heap_other (by omega)]; exact i2, ownsRow_putObj i3 _ ho hoc⟩, i5, ⟨i6.os, i6.tape, i6.output, by simpa using i6.size, fun j hj he => by rw [World.putObj_heap_other (by omega)]; exact i6.block j hj he⟩⟩
  case assign =>
    intro l x W K hK
    unfold enc8
    unfold sinkA at hK
    gi_wp2
    exact hK
  case body =>
    intro l pre x W hI hpl hlt
    have h10 := numB_ten m hm
    exact number_body l g m xs v w hgl pre x W (by omega) hI (by omega)
  case done =>
    rintro D W rfl ⟨i1, ⟨u0, i4⟩, v1, ⟨i2, i3⟩, i5, i6⟩ hK
    have c1 : W.cell? ⟨w.heap.size, 0, none⟩ = some (.pointer (some ⟨g, 0, none⟩)) := by rw [cell_of_row _ _ _ _ _ _ i1]; rfl
    gi_wp2
    have ht : (W.putObj W0.heap.size (.deferred none)).heap.size = W.heap.size := World.putObj_size
    have hoth : ∀ k, k < W0.heap.size → (W.putObj W0.heap.size (.deferred none)).heap[k]? = W.heap[k]? := fun k hk => World.putObj_heap_other (by omega)
    refine ⟨by simp, .inl ⟨_, _, rfl, run_takeDeferred hK, ?_⟩⟩
    exact ⟨_, results_tmp rfl _ _ _, rfl, v1, ⟨by rw [hoth g (by omega)]; exact i2, ownsRow_putObj i3 _ hK rfl⟩, i5, ⟨i6.os, i6.tape, i6.output, by rw [ht]; exact i6.size, fun k hk he => by rw [hoth k (by omega)]; exact i6.block k hk he⟩⟩
theorem number_any (g m : Nat) (hm : m < 18446744073709551616) (xs : List UInt8) (hx : xs.length ≤ 100000000) (v : Value) (w : World) (hS : SinkAt g v xs w) :
    Calls Try.prog 43 #[.pointer (some ⟨g, 0, none⟩), .int .u64 (m : Int)] w fun e w' => e = .returned (.pointer (some ⟨g, 0, none⟩)) ∧ ∃ v', SinkStep g v w (xs ++ numB m) v' w' := number_wide g m hm xs hx v w hS
end Go.Proofs.Ytfifbjlmbdgmjaa
