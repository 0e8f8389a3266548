/- net's law: how often a frame is in a list. -/
import Derived.Test.YtfojlmnlolnilaaNetGg
namespace Go.Proofs.Ytfojlmnlolnilaa
open Go.RowKit
attribute [local go_sem] Oper.semAt_some

theorem apC_single (M : List Fl) (i : Nat) (hi : i < M.length) : apC [M[i]] = ((apC M).drop (i * 3)).take (1 * 3) := by
  rw [← apC_drop, ← apC_take, List.drop_eq_getElem_cons hi]
  rfl
set_option maxRecDepth 100000 in
set_option maxHeartbeats 4000000 in
theorem count_in (A : Option Addr) (n c : Nat) (M : List Fl) (f : Fl) (w : World) (h : ApRow w A n M) (hf : f.rd w) (hn : n ≤ 1000000) (hnc : n ≤ c) :
    Calls Try.prog 22 #[.slice A n c, .agg #[.int .i64 f.f, .int .i64 f.t, .slice f.A f.n f.c]] w fun e w' => e = .returned (.int .i64 (((M.map Fl.key).count f.key : Nat) : Int)) ∧ Below w.heap.size w w' := by
  obtain ⟨w1, hw1⟩ : ∃ w1, w1 = w.alloc (.cells #[.int .i64 f.f, .int .i64 f.t, .slice f.A f.n f.c] 38) := ⟨_, rfl⟩
  have hb1 : Below w.heap.size w w1 := by rw [hw1]; exact (Below.refl _ _).alloc (Nat.le_refl _) _
  have h1 : w1.heap[w.heap.size]? = some (.cells #[.int .i64 f.f, .int .i64 f.t, .slice f.A f.n f.c] 38 (0, 0)) := by rw [hw1]; exact heap_alloc_new _ _
  have hl := h.1
  have hleC : ∀ k, ((M.take k).map Fl.key).count f.key ≤ k := fun k => Nat.le_trans List.count_le_length (by rw [List.length_map, List.length_take]; omega)
  go_enter Try.func22, Try.ntmps22
  go_wp2_with fail
  rw [← hw1]
  clear hw1
  go_loopw [5, 9] (fun m i wr => ∃ k : Nat, k ≤ n ∧ i = .int .i64 (k : Int) ∧ m = .int .i64 ((((M.take k).map Fl.key).count f.key : Nat) : Int) ∧ Below w.heap.size w wr ∧ wr.heap[w.heap.size]? = some (.cells #[.int .i64 f.f, .int .i64 f.t, .slice f.A f.n f.c] 38 (0, 0))) (fun _ i _ => n - (intOf i).toNat)
  case atStart => exact ⟨0, by omega, rfl, by simp, hb1, h1⟩
  case round =>
    obtain ⟨k, hk, rfl, rfl, hbr, hfb⟩ := hrel
    clear h1 hb1
    by_cases hlt : k < n
    · have hkM : k < M.length := by omega
      have hc1 := hleC k
      have hstep : ((M.take (k + 1)).map Fl.key).count f.key = ((M.take k).map Fl.key).count f.key + (if (M[k]).key = f.key then 1 else 0) := by
        rw [List.take_succ_eq_append_getElem hkM, List.map_append, List.count_append]
        simp only [List.map_cons, List.map_nil, List.count_singleton, beq_iff_eq]
      obtain ⟨bb, hbb⟩ : ∃ bb, decide ((M[k]).key = f.key) = bb := ⟨_, rfl⟩
      have hki : (k : Int) < (n : Int) := by omega
      have hwk : IntKind.i64.wrap ((k : Int) + 1) = (k : Int) + 1 := IntWalk.i64_in _ (by omega)
      have hwk2 := hwk
      have hsm : ∀ W b, Below wr.heap.size wr W → W.heap[b]? = some (.cells #[.int .i64 f.f, .int .i64 f.t, .slice f.A f.n f.c] 38 (0, 0)) → Calls Try.prog 19 #[.slice (subA A c k 3) 1 (c - k), .slice (some ⟨b, 0, none⟩) 1 1] W fun e w' => e = .returned (.bool bb) ∧ Below W.heap.size W w' := fun W b hb hW => by
        have hbW := below_then hbr hb (Nat.le_refl _)
        have hA := h.below hbW
        have := same_any (subA A c k 3) 1 (c - k) [M[k]] (some ⟨b, 0, none⟩) 1 1 [f] W ⟨rfl, by rw [apC_single M k hkM]; exact (hA.2.1.drop c k 3 (by rw [apC_length, hl]; omega)).take _, fun y hy => by
          obtain rfl := List.mem_singleton.1 hy
          exact hA.2.2 _ (List.getElem_mem hkM)⟩ ⟨rfl, rd_lits hW, fun y hy => by
          obtain rfl := List.mem_singleton.1 hy
          exact hf.below hbW⟩ (by omega) (by omega)
        have he : decide ([M[k]].map Fl.key = [f].map Fl.key) = bb := by rw [← hbb]; simp
        rw [he] at this
        exact this
      have hbb2 : (if (M[k]).key = f.key then 1 else 0) = (if bb = true then 1 else 0) := by rw [← hbb]; simp
      rw [hbb2] at hstep
      generalize ((M.take k).map Fl.key).count f.key = q at *
      have HS := Lib.hid hstep
      clear hstep hbb2 hbb hleC
      go_upto_region 5 with fail
      refine ncnt5 n c k w.heap.size f.n f.c (c - k) A (subA A c k 3) f.A f.f f.t bb wr hwk2 (fun W => ?_) hsm (fun W hb => (hb.block _ (lt_get hfb)).trans hfb) fun w5 r18 hb5 => ?_
      · have := run_sub_lh (P := Try.prog) W 35 A n c 3 Try.underlying35 (Try.sizeOf38 W) (k : Int) ((k : Int) + 1) k (k + 1) rfl (by omega) (by omega) (by omega)
        rw [this, show k + 1 - k = 1 by omega]
      have hb05 := below_then hbr hb5 (Nat.le_refl _)
      have hf5 := (hb5.block _ (lt_get hfb)).trans hfb
      have hwq : IntKind.i64.wrap ((q : Int) + 1) = (q : Int) + 1 := IntWalk.i64_in _ (by omega)
      clear hsm
      cases bb
      · go_wp2_with fail
        exact ⟨⟨k + 1, by omega, rfl, by rw [HS.out]; rfl, hb05, hf5⟩, by simp [intOf]; omega⟩
      · go_wp2_with fail
        exact ⟨⟨k + 1, by omega, rfl, by rw [HS.out]; rfl, hb05, hf5⟩, by simp [intOf]; omega⟩
    · obtain rfl : k = n := by omega
      have hT : M.take k = M := List.take_of_length_le (by omega)
      rw [hT]
      have hki : ¬ (k : Int) < (k : Int) := by omega
      go_wp2_with fail
      go_ret
      exact ⟨rfl, hbr⟩
end Go.Proofs.Ytfojlmnlolnilaa
