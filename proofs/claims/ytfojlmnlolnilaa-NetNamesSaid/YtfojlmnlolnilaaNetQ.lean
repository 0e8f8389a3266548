/- net: Send, no room. -/
import Derived.Test.YtfojlmnlolnilaaNetP
namespace Go.Proofs.Ytfojlmnlolnilaa
open Go.RowKit
attribute [local go_sem] Oper.semAt_some

theorem Kept.drew {ex : Nat → Prop} {a b : World} (h : Kept ex a b) : Kept ex a b.drew := ⟨h.os, h.tape, h.output, h.size, h.block⟩
set_option maxRecDepth 100000 in
set_option maxHeartbeats 4000000 in
theorem send_full (B g : Nat) (room : Int) (v : Value) (s d x : Int) (fl : List Fl) (w : World) (hN : NetAt B g room v s d x fl w) (hBw : B ≤ w.heap.size) (hs1 : 0 ≤ s) (hs2 : s ≤ 1000000) (hx1 : 0 ≤ x) (hx2 : x ≤ 1000000) (hr1 : 1 ≤ room) (hr2 : room ≤ 4096) (hlt : room ≤ (fl.length : Int)) (ff tt : Int) (RA : Option Addr) (rn rc : Nat) :
    Calls Try.prog 13 #[.pointer (some ⟨g, 0, none⟩), .agg #[.int .i64 ff, .int .i64 tt, .slice RA rn rc]] w fun e w' => e = .returned (.int .i64 280) ∧ NetAt B g room v (s + 1) d (x + 1) fl w' ∧ Kept (fun k => k = g) w w' := by
  obtain ⟨A, c, rfl, hnc, hcm, hrd, hA0⟩ := hN.rows
  obtain ⟨w1, hw1⟩ : ∃ w1, w1 = w.alloc (.cells #[.int .i64 ff, .int .i64 tt, .slice RA rn rc] 38) := ⟨_, rfl⟩
  have hb1 : Below w.heap.size w w1 := by rw [hw1]; exact (Below.refl _ _).alloc (Nat.le_refl _) _
  have hN1 := hN.below hb1
  have hno := none_any g room _ s d x w1 hN1.c hr1
  have c2 := hN1.c.c2
  have f2 := hN1.c.fr 2
  have c0 := hN1.c.c0
  have c1 := hN1.c.c1
  have hgl := lt_get hN.c
  have hcmi : (c : Int) ≤ 9223372036854775807 := by unfold maxLen at hcm; omega
  have hmx : Try.prog.follows .mixedOrders = true := by kernel_rfl
  go_enter Try.func13, Try.ntmps13
  go_wp2_with fail
  rw [← hw1]
  clear hw1
  refine hno.mono ?_
  rintro e w' ⟨rfl, hw'⟩
  rw [hw']
  clear hw' hno
  go_wp2_with fail
  go_region
  all_goals go_wp2_with fail
  have hc3 : NetC g room (.slice A fl.length c) (s + 1) d x (w1.setCell ⟨g, 2, none⟩ (.int .i64 (s + 1))).drew := (hN1.c.set2 (s + 1)).drew
  have hN3 := hN1.recell hc3 (fun k hk _ => heap_setCell_other _ _ _ _ hk)
  have hk3 : Kept (fun k => k = g) w (w1.setCell ⟨g, 2, none⟩ (.int .i64 (s + 1))).drew := ((Kept.of_below (ex := fun k => k = g) hb1).set (g := g) (k := 2) (v := .int .i64 (s + 1)) (.inl rfl)).drew
  generalize (w1.setCell ⟨g, 2, none⟩ (.int .i64 (s + 1))).drew = w3 at *
  clear hN1 c2 f2 c0 c1 hb1
  have c0 := hc3.c0
  have c1 := hc3.c1
  go_quiet (fail)
  go_upto_region 5 with fail
  have hb4 : Below w3.heap.size w3 (w3.drewN nq) := below_drewN _ _
  have hN4 := hN3.below hb4
  have hk4 := hk3.below hb4
  generalize w3.drewN nq = w4 at *
  have c4 := hN4.c.c4
  have f4 := hN4.c.fr 4
  clear c0 c1
  go_region
  all_goals go_wp2_with fail
  go_ret
  have hc5 : NetC g room (.slice A fl.length c) (s + 1) d (x + 1) (w4.setCell ⟨g, 4, none⟩ (.int .i64 (x + 1))).drew := (hN4.c.set4 (x + 1)).drew
  exact ⟨rfl, hN4.recell hc5 (fun k hk _ => heap_setCell_other _ _ _ _ hk), (hk4.set (.inl rfl)).drew⟩
theorem NetAt.fresh (B g : Nat) (room : Int) (W : World) (hB : B ≤ g) (hc : NetC g room (.slice none 0 0) 0 0 0 W) : NetAt B g room (.slice none 0 0) 0 0 0 [] W :=
  ⟨hc, World.ownsRow_nil .., fun y hy => (by cases hy), List.Pairwise.nil, hB⟩
end Go.Proofs.Ytfojlmnlolnilaa
