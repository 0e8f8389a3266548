/- hash: Of. -/
import Derived.Test.YtcdnbidenaljlaaDoorShaE
namespace Go.Proofs.YtcdnbidenaljlaaDoor
open Go.RowKit

/-- A slice of bytes, as a value, and what it reads. -/
structure SlB where
  A : Option Addr
  n : Nat
  c : Nat
  l : List UInt8
def SlB.val (s : SlB) : Value := .slice s.A s.n s.c
def SlB.ok (w : World) (s : SlB) : Prop := s.l.length = s.n ∧ s.n ≤ s.c ∧ RdC w s.A (u8v s.l)
theorem SlB.ok.below {w W : World} {s : SlB} (h : s.ok w) (hb : Below w.heap.size w W) : s.ok W := ⟨h.1, h.2.1, h.2.2.below hb⟩
def flat (L : List SlB) : List UInt8 := (L.map SlB.l).flatten
theorem flat_snoc (L : List SlB) (k : Nat) (h : k < L.length) : flat (L.take (k + 1)) = flat (L.take k) ++ L[k].l := by
  unfold flat
  rw [List.take_succ_eq_append_getElem h, List.map_append, List.flatten_append]
  simp
theorem flat_take_le (L : List SlB) (k : Nat) : (flat (L.take k)).length ≤ (flat L).length := by
  unfold flat
  conv => rhs; rw [← List.take_append_drop k L]
  rw [List.map_append, List.flatten_append, List.length_append]
  omega
set_option maxRecDepth 100000 in
set_option maxHeartbeats 1000000 in
theorem of_any (A : Option Addr) (n c : Nat) (L : List SlB) (hL : L.length = n) (hn : n ≤ 1000000) (w : World) (hr : RdC w A (L.map SlB.val)) (hok : ∀ s ∈ L, s.ok w) (hT : TabsOK w) (hlen : (flat L).length ≤ 800000) :
    Calls Tryd.prog 11 #[.slice A n c] w fun e w' => e = .returned (.agg (idC (sha (flat L)))) ∧ Below w.heap.size w w' := by
  obtain ⟨Z, hZ0, hZ⟩ : ∃ Z : Array Value, (Tryd.prog.info? 25).bind (fun i => i.zero.map Value.cells) = some Z ∧ Hid (Z = idC zeros) := ⟨_, zero_id, rfl⟩
  obtain ⟨ZR, hZR0, hZR⟩ : ∃ Z : Array Value, (Tryd.prog.info? 30).bind (fun i => i.zero.map Value.cells) = some Z ∧ Hid (Z = runC false S8.zero (.slice none 0 0) 0) := ⟨_, zero_run, rfl⟩
  obtain ⟨w1, hw1⟩ : ∃ w1, w1 = (w.alloc (.cells Z 25)).alloc (.cells ZR 30) := ⟨_, rfl⟩
  have hb1 : Below w.heap.size w w1 := by rw [hw1]; exact ((Below.refl _ w).alloc (Nat.le_refl _) _).alloc (by simp) _
  have q0 : w1.heap[w.heap.size]? = some (.cells Z 25 (0, 0)) := by rw [hw1]; exact heap_alloc2_old _ _ _
  have q1 : w1.heap[w.heap.size + 1]? = some (.cells ZR 30 (0, 0)) := by rw [hw1]; exact heap_alloc2_new _ _ _
  have hTg : ∀ W, Below w.heap.size w W → TabsOK W := fun W hb => hT.below hb
  have hRA : RunAt w.heap.size (w.heap.size + 1) false [] w1 := ⟨fun _ => rfl, none, 0, by rw [q1, hZR.out]; rfl, by decide, by decide, by unfold maxLen; omega, RdC.nil _ _, fun _ => rfl, fun ad e => by cases e⟩
  have HW1 := Lib.hid hw1
  have HL := Lib.hid hL
  clear hw1 q1 hL hT
  go_enter Tryd.func11, Tryd.ntmps11
  go_wp2_with (first
    | (with_reducible refine wpList_alloc_z rfl 25 rfl Z hZ0 ?_)
    | (with_reducible refine wpList_alloc_z rfl 30 rfl ZR hZR0 ?_; rw [← HW1.out])
    | fail)
  go_loopw [8] (fun i wr => ∃ (k : Nat) (b : Bool), k ≤ n ∧ i = .int .i64 (k : Int) ∧ RunAt w.heap.size (w.heap.size + 1) b (flat (L.take k)) wr ∧ wr.heap[w.heap.size]? = some (.cells Z 25 (0, 0)) ∧ Below w.heap.size w wr) (fun i _ => n - (intOf i).toNat)
  case atStart => exact ⟨0, false, by omega, rfl, hRA, q0, hb1⟩
  case round =>
    obtain ⟨k, b, hk, rfl, hR, g0, gb⟩ := hrel
    clear hRA q0 hb1
    by_cases hlt : k < n
    · have kL : k < L.length := by rw [HL.out]; exact hlt
      have hki : (k : Int) < (n : Int) := by omega
      obtain ⟨ad, hA, hc⟩ := hr k (L[k].val) (by rw [List.getElem?_map, List.getElem?_eq_getElem kL]; rfl)
      subst hA
      have hck := (gb.cell (World.block_lt_of_cell? w _ hc)).trans hc
      have hoks := hok _ (List.getElem_mem kL)
      have hsn := flat_snoc L k kL
      have hle := flat_take_le L (k + 1)
      rw [hsn] at hle
      rw [List.length_append] at hle
      have HSN := Lib.hid hsn
      generalize L[k] = s at *
      unfold SlB.val at hck
      obtain ⟨s1, s2, s3⟩ := hoks
      have hadd := add_any w.heap.size (w.heap.size + 1) b (flat (L.take k)) wr hR gb.size (hTg wr gb) s.A s.n s.c s.l s1 s2 (s3.below gb) (fun ad' e => by
        by_cases h0 : s.l = []
        · exact .inr h0
        · have := s3.lt (by rw [u8v_length]; exact List.length_pos_iff.2 h0) ad' e
          exact .inl (by omega)) (by rw [← s1]; omega)
      clear hsn hc hR hTg
      go_wp2_with (first
        | (go_at_call 9; refine hadd.mono ?_; rintro e w2 ⟨rfl, hR2, hg2⟩)
        | fail)
      rw [← HSN.out] at hR2
      have g02 := (hg2.block _ (lt_of_get g0) (by simp)).trans g0
      have gb2 : Below w.heap.size w w2 := ⟨hg2.os.trans gb.os, hg2.tape.trans gb.tape, hg2.output.trans gb.output, Nat.le_trans gb.size hg2.size, fun j hj => (hg2.block j (by have := gb.size; omega) (by simp; omega)).trans (gb.block j hj)⟩
      exact ⟨⟨k + 1, true, by omega, rfl, hR2, g02, gb2⟩, by simp [intOf]; omega⟩
    · obtain rfl : k = n := by omega
      rw [List.take_of_length_le (by rw [HL.out]; exact Nat.le_refl _)] at hR
      have hsum := sum_any w.heap.size (w.heap.size + 1) b (flat L) wr hR (hTg wr gb) (by omega)
      obtain ⟨D, hD, hDs, hD1⟩ : ∃ D : Array Value, Hid (D = idC (sha (flat L))) ∧ D.size = 32 ∧ (∀ u ∈ D.toList, u.oneCell' = true) := ⟨_, rfl, by rw [idC_size]; rfl, by simpa [idC] using u8v_one (sha (flat L))⟩
      rw [← hD.out] at hsum
      have hDi : (Tryd.prog.info? 25).map (·.size) = some D.size := by rw [hDs]; exact size_id
      have hDz : D.size = Z.size := by rw [hDs, hZ.out, idC_size]; rfl
      go_wp2_with (first
        | (go_at_call 10; refine hsum.mono ?_; rintro e w2 ⟨rfl, hb2⟩; have g02 := (hb2.block _ (lt_of_get g0)).trans g0; have gb2 := below_then gb hb2 (Nat.le_refl _))
        | (with_reducible refine wpList_store_z rfl 25 (.tmp 2) (.tmp 15) rfl _ rfl D rfl Z _ g02 hDz hDi hD1 ?_)
        | fail)
      have gr := setRow_heap w2 w.heap.size _ D _ _ g02
      exact bodyPost_ret (results_cell_row rfl _ _ w.heap.size 25 D (0, 0) _ rfl gr Tryd.underlying25 rfl hDi) rfl ⟨by rw [hD.out], below_setRow gb2 (Nat.le_refl _) D⟩
end Go.Proofs.YtcdnbidenaljlaaDoor
