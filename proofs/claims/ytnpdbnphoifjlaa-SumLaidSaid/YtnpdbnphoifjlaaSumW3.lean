/- First, where there is something in the bytes; and Unwrap. -/
import Derived.Test.YtnpdbnphoifjlaaSumW2
namespace Go.Proofs.Ytnpdbnphoifjlaa
open Go.RowKit

set_option maxHeartbeats 4000000 in
theorem first_yes (A : Option Addr) (c : Nat) (b : List UInt8) (w : World) (hr : RdC w A (u8v b)) (hl : 8 ≤ b.length) (hl2 : b.length ≤ 140737488355328) (hc : b.length ≤ c) (hn : numB b ≤ 4194304) (ho : ¬ b.length < 8 + numB b) (hx : numB (b.drop (4 + numB b)) = ofN [b.take (4 + numB b)]) :
    Calls Try.prog 17 #[.slice A b.length c] w fun e w' => (∃ v1 v2, e = .returned (.tuple #[v1, v2, .int .i64 0]) ∧ Fresh w.heap.size w' v1 ((b.drop 4).take (numB b)) ∧ Fresh w.heap.size w' v2 (b.drop (8 + numB b))) ∧ Below w.heap.size w w' := by
  have hnum := number_any A b.length c b rfl
  generalize numB b = m at *
  have hd : decide ((b.length : Int) < 4 + (m : Int) + 4) = false := by simp; omega
  have s1 := fun W => run_sub_l (P := Try.prog) W 22 A b.length c 1 Try.underlying22 (Try.sizeOf5 W) (4 + (m : Int)) (4 + m) (by omega) (by omega)
  have s2 := fun W => run_sub_h (P := Try.prog) W 22 A b.length c 1 Try.underlying22 (Try.sizeOf5 W) (4 + (m : Int)) (4 + m) (by omega) (by omega)
  have s3 := fun W => run_sub_lh (P := Try.prog) W 22 A b.length c 1 Try.underlying22 (Try.sizeOf5 W) 4 (4 + (m : Int)) 4 (4 + m) (by omega) (by omega) (by omega) (by omega)
  have s4 := fun W => run_sub_l (P := Try.prog) W 22 A b.length c 1 Try.underlying22 (Try.sizeOf5 W) (4 + (m : Int) + 4) (8 + m) (by omega) (by omega)
  have q3 : ∀ W, RdC W A (u8v b) → Calls Try.prog 28 #[.slice (subA A c 4 1) m (c - 4)] W fun e w' => (∃ v, e = .returned v ∧ Fresh W.heap.size w' v ((b.drop 4).take m)) ∧ Below W.heap.size W w' := fun W h => clone_any _ _ _ _ (by simp; omega) W (by
    have := (h.drop c 4 1 (by rw [u8v_length]; omega)).take m
    rwa [Nat.mul_one, u8v_drop, u8v_take] at this) (by omega)
  have q4 : ∀ W, RdC W A (u8v b) → Calls Try.prog 28 #[.slice (subA A c (8 + m) 1) (b.length - (8 + m)) (c - (8 + m))] W fun e w' => (∃ v, e = .returned v ∧ Fresh W.heap.size w' v (b.drop (8 + m))) ∧ Below W.heap.size W w' := fun W h => clone_any _ _ _ _ (by simp) W (by
    have := h.drop c (8 + m) 1 (by rw [u8v_length]; omega)
    rwa [Nat.mul_one, u8v_drop] at this) (by omega)
  obtain ⟨q1, q2⟩ := sums_at A c b m hl2 hc ho
  rw [hx] at q1
  clear hx
  generalize ofN [b.take (4 + m)] = y at *
  go_enter Try.func17, Try.ntmps17
  go_wp2_with fail
  refine (hnum _ hr (by omega)).mono ?_
  rintro e w1 ⟨rfl, hb1⟩
  go_wp2_with fail
  refine (hnum _ (hr.below hb1) (by omega)).mono ?_
  rintro e w2 ⟨rfl, hb2⟩
  clear hnum
  have hw : IntKind.i64.wrap (4 + (m : Int) + 4) = 4 + (m : Int) + 4 := IntWalk.i64_in _ (by omega)
  have hr2 := (hr.below hb1).below hb2
  have hbb := below_then hb1 hb2 (Nat.le_refl _)
  clear hb1 hb2 hr
  go_wp2_with fail
  have hN := fun (o : Obj) => (hr2.alloc o).drew
  go_region_held3 (fun _ => True) (trivial) (first
    | (go_at_call 27; refine (q1 _ ?_).mono ?_; (first | exact hr2.drew | exact hN _); rintro e w3 ⟨rfl, hb3⟩)
    | (go_at_call 10; refine (q2 _ _ ?_ ?_).mono ?_; (first | exact (hr2.drew.below hb3).alloc _ | exact (hN _).below hb3); (first | exact heap_alloc_new w3 _ | exact (hb3.block _ (by simp)).trans (heap_alloc_new w2 _)); rintro e w' ⟨rfl, rfl⟩)
    | fail)
  · have hr4 := (hr2.drew.below hb3).alloc (.cells #[.slice A (4 + m) c] 22)
    have hb4 := (below_then hbb.drew hb3 (Nat.le_refl _)).alloc (by have := hb3.size; have := hbb.size; simp at *; omega) (.cells #[.slice A (4 + m) c] 22)
    have hz4 := hb4.size
    clear hb3 hbb hr2 hN q1 q2
    go_wp2_with fail
    go_region_held3 (fun _ => True) (trivial) (first
      | (go_at_call 28; refine (q3 _ hr4.drew).mono ?_; rintro e w5 ⟨⟨v1, rfl, hv1⟩, hb5⟩)
      | (go_at_call 28; refine (q4 _ (hr4.drew.below hb5)).mono ?_; rintro e w6 ⟨⟨v2, rfl, hv2⟩, hb6⟩)
      | fail)
    go_wp2_with fail
    go_ret3
    have hb4' := below_then hb4.drew hb5 (Nat.le_refl _)
    exact ⟨⟨v1, v2, rfl, (hv1.below hb6).mono hz4, hv2.mono hb4'.size⟩, below_then hb4' hb6 (Nat.le_refl _)⟩
  · have hr4 := (hN _).below hb3
    have hb4 := below_then (hbb.alloc hbb.size _).drew hb3 (Nat.le_refl _)
    have hz4 := hb4.size
    clear hb3 hbb hr2 hN q1 q2
    go_wp2_with fail
    go_region_held3 (fun _ => True) (trivial) (first
      | (go_at_call 28; refine (q3 _ hr4.drew).mono ?_; rintro e w5 ⟨⟨v1, rfl, hv1⟩, hb5⟩)
      | (go_at_call 28; refine (q4 _ (hr4.drew.below hb5)).mono ?_; rintro e w6 ⟨⟨v2, rfl, hv2⟩, hb6⟩)
      | fail)
    go_wp2_with fail
    go_ret3
    have hb4' := below_then hb4.drew hb5 (Nat.le_refl _)
    exact ⟨⟨v1, v2, rfl, (hv1.below hb6).mono hz4, hv2.mono hb4'.size⟩, below_then hb4' hb6 (Nat.le_refl _)⟩

/-- First, whatever the bytes. -/
def FirstEnd (w : World) (b : List UInt8) (e : Ending) (w' : World) : Prop :=
  (∃ x r v1 v2, firstB b = some (x, r) ∧ e = .returned (.tuple #[v1, v2, .int .i64 0]) ∧ Fresh w.heap.size w' v1 x ∧ Fresh w.heap.size w' v2 r ∧ Below w.heap.size w w') ∨
  (firstB b = none ∧ e = .returned (.tuple #[.slice none 0 0, .slice none 0 0, .int .i64 20]) ∧ Below w.heap.size w w')
theorem first_any (A : Option Addr) (n c : Nat) (b : List UInt8) (hn0 : b.length = n) (w : World) (hr : RdC w A (u8v b)) (hl2 : n ≤ 140737488355328) (hc : n ≤ c) :
    Calls Try.prog 17 #[.slice A n c] w (FirstEnd w b) := by
  subst hn0
  by_cases h1 : b.length < 8
  · exact (first_short A c b w h1).mono fun e w' ⟨he, hw⟩ => .inr ⟨by simp [firstB, h1], he, by subst hw; exact Below.refl _ _⟩
  by_cases h2 : 4194304 < numB b
  · exact (first_great A c b w hr (by omega) hl2 h2).mono fun e w' ⟨he, hb⟩ => .inr ⟨by simp [firstB, h2], he, hb⟩
  by_cases h3 : b.length < 8 + numB b
  · exact (first_over A c b w hr (by omega) hl2 (by omega) h3).mono fun e w' ⟨he, hb⟩ => .inr ⟨by simp [firstB, h1, h2, h3], he, hb⟩
  by_cases h4 : numB (b.drop (4 + numB b)) = ofN [b.take (4 + numB b)]
  · exact (first_yes A c b w hr (by omega) hl2 hc (by omega) h3 h4).mono fun e w' ⟨⟨v1, v2, he, f1, f2⟩, hb⟩ => .inl ⟨_, _, v1, v2, by simp only [firstB]; rw [if_neg (by omega), if_neg h3, if_neg (by simpa using h4)], he, f1, f2, hb⟩
  · exact (first_unlike A c b w hr (by omega) hl2 hc (by omega) h3 h4).mono fun e w' ⟨he, hb⟩ => .inr ⟨by simp only [firstB]; rw [if_neg (by omega), if_neg h3, if_pos h4], he, hb⟩

/-- What Unwrap answers. -/
def unwrapB (b : List UInt8) : Option (List UInt8) := match firstB b with
  | some (x, []) => some x
  | _ => none
def UnwrapEnd (w : World) (b : List UInt8) (e : Ending) (w' : World) : Prop :=
  (∃ x v, unwrapB b = some x ∧ e = .returned (.tuple #[v, .int .i64 0]) ∧ Fresh w.heap.size w' v x ∧ Below w.heap.size w w') ∨
  (unwrapB b = none ∧ e = .returned (.tuple #[.slice none 0 0, .int .i64 20]) ∧ Below w.heap.size w w')
set_option maxHeartbeats 1000000 in
theorem unwrap_any (A : Option Addr) (n c : Nat) (b : List UInt8) (hn0 : b.length = n) (w : World) (hr : RdC w A (u8v b)) (hl2 : n ≤ 140737488355328) (hc : n ≤ c) :
    Calls Try.prog 19 #[.slice A n c] w (UnwrapEnd w b) := by
  go_enter Try.func19, Try.ntmps19
  go_wp2_with fail
  refine (first_any A n c b hn0 w hr hl2 hc).mono ?_
  rintro e w1 (⟨x, r, v1, v2, hf, rfl, f1, f2, hb⟩ | ⟨hf, rfl, hb⟩)
  · obtain ⟨A2, c2, rfl, f2⟩ := f2
    have hf' := Lib.hid hf
    clear hf
    cases r with
    | nil =>
      go_wp2_with fail
      go_ret2
      exact .inl ⟨x, v1, by simp [unwrapB, hf'.out], rfl, f1, hb⟩
    | cons y r =>
      go_wp2_with fail
      go_ret2
      exact .inr ⟨by simp [unwrapB, hf'.out], rfl, hb⟩
  · have hf' := Lib.hid hf
    clear hf
    go_wp2_with fail
    go_ret2
    exact .inr ⟨by simp [unwrapB, hf'.out], rfl, hb⟩
end Go.Proofs.Ytnpdbnphoifjlaa
