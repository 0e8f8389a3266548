/- The walks through package sum, further on: bytes wrapped, and what is in wrapped ones. -/
import Derived.Test.YtnpdbnphoifjlaaSumW
namespace Go.Proofs.Ytnpdbnphoifjlaa
open Go.RowKit

/-- Bytes with their length and sum. -/
def wrapB (l : List UInt8) : List UInt8 := fourB l.length ++ l ++ fourB (ofN [fourB l.length, l])

theorem rd_lit4 {w : World} {g : Nat} {b0 b1 b2 b3 : UInt8} (h : w.heap[g]? = some (.cells #[.int .u8 (b0.toNat : Int), .int .u8 (b1.toNat : Int), .int .u8 (b2.toNat : Int), .int .u8 (b3.toNat : Int)] 49 (0, 0))) : RdC w (some ⟨g, 0, none⟩) (u8v [b0, b1, b2, b3]) := fun j u hj => by
  refine ⟨_, rfl, ?_⟩
  rw [addr_add_plain, Nat.zero_add, cell_of_row w g j _ _ _ h]
  simpa [u8v] using hj

theorem holds_of_rd {w : World} {A : Option Addr} {l : List UInt8} (c : Nat) (h : RdC w A (u8v l)) : Lib.HoldsBytes w (.slice A l.length c) l := by
  refine ⟨A, c, rfl, fun e => ?_, fun a e i x hx => ?_⟩
  · subst e
    cases l with
    | nil => rfl
    | cons b l => obtain ⟨_, e, _⟩ := cell_of_rd h 0 (by simp); cases e
  · subst e
    obtain ⟨_, e, hc⟩ := h i (.int .u8 (x.toNat : Int)) (by simp [u8v, hx])
    cases e
    exact hc
theorem holds_nil (w : World) : Lib.HoldsBytes w (.slice none 0 0) [] := ⟨none, 0, rfl, fun _ => rfl, fun a e => by cases e⟩
theorem parts3 {w : World} {g : Nat} {A0 A1 A2 : Option Addr} {c0 c1 c2 : Nat} {l0 l1 l2 : List UInt8} (t : TypeId)
    (hg : w.heap[g]? = some (.cells #[.slice A0 l0.length c0, .slice A1 l1.length c1, .slice A2 l2.length c2] t (0, 0))) (h0 : RdC w A0 (u8v l0)) (h1 : RdC w A1 (u8v l1)) (h2 : RdC w A2 (u8v l2)) :
    Lib.PartsAt w ⟨g, 0, none⟩ [.slice A0 l0.length c0, .slice A1 l1.length c1, .slice A2 l2.length c2] [l0, l1, l2] := by
  refine ⟨rfl, fun i v hv => ?_, fun i v l hv hl => ?_⟩
  · rw [addr_add_plain, Nat.zero_add, cell_of_row w g i _ _ _ hg]
    simpa using hv
  · match i with
    | 0 => cases hv; cases hl; exact holds_of_rd _ h0
    | 1 => cases hv; cases hl; exact holds_of_rd _ h1
    | 2 => cases hv; cases hl; exact holds_of_rd _ h2
    | i + 3 => cases hv

set_option maxHeartbeats 1000000 in
theorem wrap_any (A : Option Addr) (c : Nat) (l : List UInt8) (w : World) (hr : RdC w A (u8v l)) (hl : l.length ≤ 4194304) :
    Calls Try.prog 16 #[.slice A l.length c] w fun e w' => (∃ v, e = .returned (.tuple #[v, .int .i64 0]) ∧ Fresh w.heap.size w' v (wrapB l)) ∧ Below w.heap.size w w' := by
  go_enter Try.func16, Try.ntmps16
  go_wp2_with fail
  refine (four_lit _ (by omega) _).mono ?_
  rintro e w1 ⟨⟨b0, b1, b2, b3, hf1, rfl⟩, hb1⟩
  have hz1 := hb1.size
  go_wp2_with fail
  have hr1 := hr.below hb1
  have hB := below_then (w := w) hb1 (((Below.refl _ w1).alloc (Nat.le_refl _) (Obj.cells #[.int .u8 (b0.toNat : Int), .int .u8 (b1.toNat : Int), .int .u8 (b2.toNat : Int), .int .u8 (b3.toNat : Int)] 49)).alloc (by simp) (Obj.cells #[Value.slice (some ⟨w1.heap.size, 0, none⟩) 4 4, Value.slice A l.length c] 22)) (Nat.le_refl _)
  have hL : RdC ((w1.alloc (Obj.cells #[.int .u8 (b0.toNat : Int), .int .u8 (b1.toNat : Int), .int .u8 (b2.toNat : Int), .int .u8 (b3.toNat : Int)] 49)).alloc (Obj.cells #[Value.slice (some ⟨w1.heap.size, 0, none⟩) 4 4, Value.slice A l.length c] 22)) (some ⟨w1.heap.size, 0, none⟩) (u8v [b0, b1, b2, b3]) := (rd_lit4 (heap_alloc_new w1 _)).alloc _
  have hR := (hr1.alloc (Obj.cells #[.int .u8 (b0.toNat : Int), .int .u8 (b1.toNat : Int), .int .u8 (b2.toNat : Int), .int .u8 (b3.toNat : Int)] 49)).alloc (Obj.cells #[Value.slice (some ⟨w1.heap.size, 0, none⟩) 4 4, Value.slice A l.length c] 22)
  refine (of_any _ _ _ [⟨some ⟨w1.heap.size, 0, none⟩, 4, 4, [b0, b1, b2, b3]⟩, ⟨A, l.length, c, l⟩] rfl _ ?_ ?_ (by simp)).mono ?_
  · intro j u hj
    refine ⟨_, rfl, ?_⟩
    rw [addr_add_plain, Nat.zero_add]
    have := heap_alloc_new (w1.alloc (Obj.cells #[.int .u8 (b0.toNat : Int), .int .u8 (b1.toNat : Int), .int .u8 (b2.toNat : Int), .int .u8 (b3.toNat : Int)] 49)) (Obj.cells #[Value.slice (some ⟨w1.heap.size, 0, none⟩) 4 4, Value.slice A l.length c] 22)
    rw [World.size_alloc] at this
    rw [cell_of_row _ _ j _ _ _ this]
    simpa [SlB.val] using hj
  · intro s hs
    simp only [List.mem_cons, List.not_mem_nil, or_false] at hs
    rcases hs with rfl | rfl
    · exact ⟨hL, rfl, by simp⟩
    · exact ⟨hR, rfl, by show l.length ≤ _; omega⟩
  rintro e w' ⟨rfl, rfl⟩
  go_wp2_with fail
  refine (four_lit _ (ofN_lt _) _).mono ?_
  rintro e w2 ⟨⟨d0, d1, d2, d3, hf2, rfl⟩, hb2⟩
  have hz2 := hb2.size
  simp only [World.size_alloc] at hz2
  have hB2 := below_then hB hb2 (Nat.le_refl _)
  have hL2 := hL.below hb2
  have hR2 := hR.below hb2
  clear hL hR hr1 hb2 hB hb1
  go_wp2_with fail
  have hL3 := hL2.alloc (Obj.cells #[.int .u8 (d0.toNat : Int), .int .u8 (d1.toNat : Int), .int .u8 (d2.toNat : Int), .int .u8 (d3.toNat : Int)] 49)
  have hR3 := hR2.alloc (Obj.cells #[.int .u8 (d0.toNat : Int), .int .u8 (d1.toNat : Int), .int .u8 (d2.toNat : Int), .int .u8 (d3.toNat : Int)] 49)
  have hD3 : RdC _ _ (u8v [d0, d1, d2, d3]) := rd_lit4 (heap_alloc_new w2 (Obj.cells #[.int .u8 (d0.toNat : Int), .int .u8 (d1.toNat : Int), .int .u8 (d2.toNat : Int), .int .u8 (d3.toNat : Int)] 49))
  have hB3 := hB2.alloc (by omega) (Obj.cells #[.int .u8 (d0.toNat : Int), .int .u8 (d1.toNat : Int), .int .u8 (d2.toNat : Int), .int .u8 (d3.toNat : Int)] 49)
  clear hL2 hR2 hB2
  obtain ⟨w3, hw3⟩ : ∃ w3, w3 = (w2.alloc (Obj.cells #[.int .u8 (d0.toNat : Int), .int .u8 (d1.toNat : Int), .int .u8 (d2.toNat : Int), .int .u8 (d3.toNat : Int)] 49)) := ⟨_, rfl⟩
  rw [← hw3] at hL3 hR3 hD3 hB3 ⊢
  have hz3 : w.heap.size ≤ w3.heap.size := by rw [hw3, World.size_alloc]; omega
  clear hw3
  have hcon := fun W hP hS => Try.bytes_Join_many w3.heap.size 0 3 3 [.slice (some ⟨w1.heap.size, 0, none⟩) 4 4, .slice A l.length c, .slice (some ⟨w2.heap.size, 0, none⟩) 4 4] [[b0, b1, b2, b3], l, [d0, d1, d2, d3]] (.slice none 0 0) [] W rfl (by omega) hP (by omega) hS (by omega) (by simp [Lib.lens]; omega)
  go_region_held3 (fun _ => True) (trivial) ((go_at_call 26; refine (hcon _ ?_ ?_).mono ?_; (exact parts3 _ (heap_alloc_new w3 _) (hL3.alloc _) (hR3.alloc _) (hD3.alloc _)); (exact holds_nil _); rintro e w' ⟨v, rfl, hfr, hbl⟩))
  go_wp2
  go_ret2
  have hj : Lib.join [[b0, b1, b2, b3], l, [d0, d1, d2, d3]] [] = wrapB l := by
    have h2 : fourB (ofN [[b0, b1, b2, b3], l]) = [d0, d1, d2, d3] := hf2.out
    unfold wrapB
    rw [hf1.out, h2]
    simp [Lib.join, List.intercalate, List.intersperse]
  rw [hj] at hfr
  refine ⟨⟨v, rfl, (Fresh.of_fb hfr).mono ?_⟩, ?_⟩
  · simp; omega
  · refine below_then (hB3.alloc hz3 _).drew hbl (Nat.le_refl _)

/-- What Wrap says of too many bytes. -/
theorem wrap_most (A : Option Addr) (n c : Nat) (w : World) (hl : 4194304 < n) :
    Calls Try.prog 16 #[.slice A n c] w fun e w' => e = .returned (.tuple #[.slice none 0 0, .int .i64 12]) ∧ w = w' := by
  go_enter Try.func16, Try.ntmps16
  go_wp2
  go_ret2
  exact ⟨rfl, rfl⟩

theorem clone_any (A : Option Addr) (n c : Nat) (l : List UInt8) (hn0 : l.length = n) (w : World) (hr : RdC w A (u8v l)) (hl0 : n ≤ 140737488355328) :
    Calls Try.prog 28 #[.slice A n c] w fun e w' => (∃ v, e = .returned v ∧ Fresh w.heap.size w' v l) ∧ Below w.heap.size w w' := by
  subst hn0
  have hl := hl0
  cases A with
  | none =>
    have : l = [] := by
      cases l with
      | nil => rfl
      | cons b l => obtain ⟨_, e, _⟩ := cell_of_rd hr 0 (by simp); cases e
    subst this
    exact (Try.bytes_Clone_nil _ c w).mono fun e w' ⟨he, hw⟩ => by subst hw; exact ⟨⟨_, he, none, 0, rfl, Nat.le_refl _, by unfold maxLen; omega, RdC.nil _ _, fun ad e => by cases e⟩, Below.refl _ _⟩
  | some ad =>
    refine (Try.bytes_Clone_at ad l.length c (l.map fun b => (b.toNat : Int)) w (by simp) hl fun i hi => ?_).mono fun e w' ⟨v, he, ho, _, hb⟩ => ⟨⟨v, he, Fresh.of_own (e := 5) ?_⟩, hb⟩
    · obtain ⟨_, e, hc⟩ := cell_of_rd hr i hi
      cases e
      rw [hc]
      simp [hi]
    · have e : u8v l = (l.map fun b => (b.toNat : Int)).map (Value.int .u8) := by simp [u8v]
      rw [e]
      exact ho

/-- What First answers: what is in the first wrapped bytes, what is behind, or nothing. -/
def firstB (b : List UInt8) : Option (List UInt8 × List UInt8) :=
  if b.length < 8 ∨ 4194304 < numB b then none
  else if b.length < 8 + numB b then none
  else if numB (b.drop (4 + numB b)) ≠ ofN [b.take (4 + numB b)] then none
  else some ((b.drop 4).take (numB b), b.drop (8 + numB b))

set_option maxHeartbeats 1000000 in
theorem first_short (A : Option Addr) (c : Nat) (b : List UInt8) (w : World) (hl : b.length < 8) :
    Calls Try.prog 17 #[.slice A b.length c] w fun e w' => e = .returned (.tuple #[.slice none 0 0, .slice none 0 0, .int .i64 20]) ∧ w = w' := by
  go_enter Try.func17, Try.ntmps17
  go_wp2_with fail
  go_ret3
  exact ⟨rfl, rfl⟩
set_option maxHeartbeats 1000000 in
theorem first_great (A : Option Addr) (c : Nat) (b : List UInt8) (w : World) (hr : RdC w A (u8v b)) (hl : 8 ≤ b.length) (hl2 : b.length ≤ 140737488355328) (hn : 4194304 < numB b) :
    Calls Try.prog 17 #[.slice A b.length c] w fun e w' => e = .returned (.tuple #[.slice none 0 0, .slice none 0 0, .int .i64 20]) ∧ Below w.heap.size w w' := by
  have hnum := numB_lt b
  go_enter Try.func17, Try.ntmps17
  go_wp2_with fail
  refine (number_any _ _ _ _ rfl _ hr (by omega)).mono ?_
  rintro e w1 ⟨rfl, hb1⟩
  go_wp2_with fail
  go_ret3
  exact ⟨rfl, hb1⟩
set_option maxHeartbeats 1000000 in
theorem first_over (A : Option Addr) (c : Nat) (b : List UInt8) (w : World) (hr : RdC w A (u8v b)) (hl : 8 ≤ b.length) (hl2 : b.length ≤ 140737488355328) (hn : numB b ≤ 4194304) (ho : b.length < 8 + numB b) :
    Calls Try.prog 17 #[.slice A b.length c] w fun e w' => e = .returned (.tuple #[.slice none 0 0, .slice none 0 0, .int .i64 20]) ∧ Below w.heap.size w w' := by
  have hnum := number_any A b.length c b rfl
  generalize numB b = m at *
  have hd : decide ((b.length : Int) < 4 + (m : Int) + 4) = true := by simp; omega
  go_enter Try.func17, Try.ntmps17
  go_wp2_with fail
  refine (hnum _ hr (by omega)).mono ?_
  rintro e w1 ⟨rfl, hb1⟩
  go_wp2_with fail
  refine (hnum _ (hr.below hb1) (by omega)).mono ?_
  rintro e w2 ⟨rfl, hb2⟩
  clear hnum
  go_wp2_with fail
  go_quiet (fail)
  go_wp2_with fail
  go_ret3
  exact ⟨rfl, below_then hb1 (below_drewN hb2 _) (Nat.le_refl _)⟩
theorem rd_one {w : World} {g : Nat} {v : Value} {t : TypeId} (h : w.heap[g]? = some (.cells #[v] t (0, 0))) : RdC w (some ⟨g, 0, none⟩) [v] := fun j u hj => by
  refine ⟨_, rfl, ?_⟩
  rw [addr_add_plain, Nat.zero_add, cell_of_row w g j _ _ _ h]
  simpa using hj
/-- The road of First up to the sums, laid once. -/
theorem sums_at (A : Option Addr) (c : Nat) (b : List UInt8) (m : Nat) (hl2 : b.length ≤ 140737488355328) (hc : b.length ≤ c) (ho : ¬ b.length < 8 + m) :
    (∀ W, RdC W A (u8v b) → Calls Try.prog 27 #[.slice (subA A c (4 + m) 1) (b.length - (4 + m)) (c - (4 + m))] W fun e w' => e = .returned (.int .u32 (numB (b.drop (4 + m)))) ∧ Below W.heap.size W w') ∧
    (∀ W g, RdC W A (u8v b) → W.heap[g]? = some (.cells #[.slice A (4 + m) c] 22 (0, 0)) → Calls Try.prog 10 #[.slice (some ⟨g, 0, none⟩) 1 1] W fun e w' => e = .returned (.int .u32 (ofN [b.take (4 + m)])) ∧ W = w') := by
  refine ⟨fun W h => number_any _ _ _ _ (by simp) W ?_ (by omega), fun W g h hg => of_any _ _ _ [⟨A, 4 + m, c, b.take (4 + m)⟩] rfl W (rd_one hg) ?_ (show 1 ≤ 9223372036854775807 by omega)⟩
  · have := h.drop c (4 + m) 1 (by rw [u8v_length]; omega)
    rwa [Nat.mul_one, u8v_drop] at this
  · intro s hs
    simp only [List.mem_cons, List.not_mem_nil, or_false] at hs
    subst hs
    refine ⟨?_, by simp; omega, by show 4 + m ≤ _; omega⟩
    show RdC W A (u8v (b.take (4 + m)))
    rw [← u8v_take]
    exact h.take _
set_option maxHeartbeats 2000000 in
theorem first_unlike (A : Option Addr) (c : Nat) (b : List UInt8) (w : World) (hr : RdC w A (u8v b)) (hl : 8 ≤ b.length) (hl2 : b.length ≤ 140737488355328) (hc : b.length ≤ c) (hn : numB b ≤ 4194304) (ho : ¬ b.length < 8 + numB b) (hx : numB (b.drop (4 + numB b)) ≠ ofN [b.take (4 + numB b)]) :
    Calls Try.prog 17 #[.slice A b.length c] w fun e w' => e = .returned (.tuple #[.slice none 0 0, .slice none 0 0, .int .i64 20]) ∧ Below w.heap.size w w' := by
  have hnum := number_any A b.length c b rfl
  generalize numB b = m at *
  have hd : decide ((b.length : Int) < 4 + (m : Int) + 4) = false := by simp; omega
  have s1 := fun W => run_sub_l (P := Try.prog) W 22 A b.length c 1 Try.underlying22 (Try.sizeOf5 W) (4 + (m : Int)) (4 + m) (by omega) (by omega)
  have s2 := fun W => run_sub_h (P := Try.prog) W 22 A b.length c 1 Try.underlying22 (Try.sizeOf5 W) (4 + (m : Int)) (4 + m) (by omega) (by omega)
  obtain ⟨q1, q2⟩ := sums_at A c b m hl2 hc ho
  generalize numB (b.drop (4 + m)) = x at *
  generalize ofN [b.take (4 + m)] = y at *
  have hxy : ((x : Int) != (y : Int)) = true := by simp; omega
  go_enter Try.func17, Try.ntmps17
  go_wp2_with fail
  refine (hnum _ hr (by omega)).mono ?_
  rintro e w1 ⟨rfl, hb1⟩
  go_wp2_with fail
  refine (hnum _ (hr.below hb1) (by omega)).mono ?_
  rintro e w2 ⟨rfl, hb2⟩
  clear hnum
  have hw : IntKind.i64.wrap (4 + (m : Int) + 4) = 4 + (m : Int) + 4 := IntWalk.i64_in _ (by omega)
  have hr2 := (hr.below hb1).below hb2
  have hbb := below_then hb1 hb2 (Nat.le_refl _)
  clear hb1 hb2 hr
  go_wp2_with fail
  have hN := fun (o : Obj) => (hr2.alloc o).drew
  go_region_held3 (fun _ => True) (trivial) (first
    | (go_at_call 27; refine (q1 _ ?_).mono ?_; (first | exact hr2.drew | exact hN _); rintro e w3 ⟨rfl, hb3⟩)
    | (go_at_call 10; refine (q2 _ _ ?_ ?_).mono ?_; (first | exact (hr2.drew.below hb3).alloc _ | exact (hN _).below hb3); (first | exact heap_alloc_new w3 _ | exact (hb3.block _ (by simp)).trans (heap_alloc_new w2 _)); rintro e w' ⟨rfl, rfl⟩)
    | fail)
  all_goals
    go_wp2_with fail
    go_ret3
    refine ⟨rfl, ?_⟩
  · exact (below_then hbb.drew hb3 (Nat.le_refl _)).alloc (by have := hb3.size; have := hbb.size; simp at *; omega) _
  · exact below_then (hbb.alloc hbb.size _).drew hb3 (Nat.le_refl _)
end Go.Proofs.Ytnpdbnphoifjlaa
