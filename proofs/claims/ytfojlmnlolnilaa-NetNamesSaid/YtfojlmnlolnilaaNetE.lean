/- net: Deliver, Lose. -/
import Derived.Test.YtfojlmnlolnilaaNetD
namespace Go.Proofs.Ytfojlmnlolnilaa
open Go.RowKit
attribute [local go_sem] Oper.semAt_some

theorem isagg38 (W : World) : (isAgg 38).run Try.prog W = .ok true W := by
  simp [isAgg, underlying, go_sem, Try.underlying38]
theorem fld74 (a b c d : Value) (W : World) : (Instr.field 74 (.agg #[a, b, c, d]) 0).run Try.prog W = .ok (.agg #[a, b, c]) W := by
  simp [Instr.field, part, asAgg, go_sem, Try.underlying74, isagg38, Try.sizeOf38]
theorem NetAt.aside {B g : Nat} {room : Int} {v : Value} {s d x : Int} {fl : List Fl} {W W' : World} (h : NetAt B g room v s d x fl W) {k0 : Nat} {cs : Array Value} {t : TypeId} {fr : Nat × Nat} (hk0 : W.heap[k0]? = some (.cells cs t fr)) (h1 : t ≠ 74) (h2 : t ≠ 5) (h3 : t ≠ 70)
    (ho : ∀ k, k ≠ k0 → W'.heap[k]? = W.heap[k]?) : NetAt B g room v s d x fl W' := by
  have hg : g ≠ k0 := fun e => by
    subst e
    have hc := h.c
    unfold NetC at hc
    rw [hk0] at hc
    cases hc
    exact h3 rfl
  exact ⟨(ho g hg).trans h.c, own_of_block h.row fun k hk => ho k fun e => own_ne h.row hk0 h1 (by rw [hk, e]), fun y hy => ⟨(h.raw y hy).1, own_of_block (h.raw y hy).2 fun k hk => ho k fun e => own_ne (h.raw y hy).2 hk0 h2 (by rw [hk, e])⟩, h.apart, h.hB⟩
set_option maxRecDepth 100000 in
set_option maxHeartbeats 4000000 in
theorem lose_ok (B g : Nat) (room : Int) (v : Value) (s d x : Int) (fl : List Fl) (w : World) (hN : NetAt B g room v s d x fl w) (hBw : B ≤ w.heap.size) (hfl : fl.length ≤ 5000) (hr1 : 1 ≤ room) (hx1 : 0 ≤ x) (hx2 : x ≤ 1000000) (i : Nat) (hi : i < fl.length) :
    Calls Try.prog 21 #[.pointer (some ⟨g, 0, none⟩), .int .i64 (i : Int)] w fun e w' => e = .returned (.int .i64 0) ∧ ∃ A2 c2, NetAt B g room (.slice A2 (fl.length - 1) c2) s d (x + 1) (fl.eraseIdx i) w' ∧ Kept (fun k => k = g) w w' := by
  obtain ⟨A, c, rfl, hnc, hcm, hrd, hA0⟩ := hN.rows
  have hcmi : (c : Int) ≤ 9223372036854775807 := by unfold maxLen at hcm; omega
  have hrdy := ready_any g room A fl.length c s d x w hN.c hr1 i (by omega)
  have hrE : readyE fl.length (i : Int) = 0 := by unfold readyE; rw [if_neg (by omega)]
  rw [hrE] at hrdy
  have hgl := lt_get hN.c
  have c4 := hN.c.c4
  have f4 := hN.c.fr 4
  go_enter Try.func21, Try.ntmps21
  go_wp2_with (go_at_call 34; refine hrdy.mono ?_; rintro e w' ⟨rfl, hw'⟩; rw [hw']; clear hw')
  go_region
  all_goals go_wp2_with fail
  have hc3 : NetC g room (.slice A fl.length c) s d (x + 1) (w.setCell ⟨g, 4, none⟩ (.int .i64 (x + 1))).drew := (hN.c.set4 (x + 1)).drew
  have hN3 := hN.recell hc3 (fun k hk _ => heap_setCell_other _ _ _ _ hk)
  have hk3 : Kept (fun k => k = g) w (w.setCell ⟨g, 4, none⟩ (.int .i64 (x + 1))).drew := by
    have := (Kept.refl (fun k => k = g) w).set (g := g) (k := 4) (v := .int .i64 (x + 1)) (.inl rfl)
    exact ⟨this.os, this.tape, this.output, this.size, this.block⟩
  generalize (w.setCell ⟨g, 4, none⟩ (.int .i64 (x + 1))).drew = w3 at *
  have hcut := cut_any B g room _ s d (x + 1) fl w3 hN3 (Nat.le_trans hBw hk3.size) hfl i hi
  go_wp2_with (go_at_call 35; refine hcut.mono ?_; rintro e w4 ⟨rfl, ad, hN4, hk4⟩)
  go_ret
  exact ⟨rfl, _, _, hN4, hk3.trans hk4⟩
set_option maxRecDepth 100000 in
set_option maxHeartbeats 4000000 in
theorem deliver_ok (B g : Nat) (room : Int) (v : Value) (s d x : Int) (fl : List Fl) (w : World) (hN : NetAt B g room v s d x fl w) (hBw : B ≤ w.heap.size) (hfl : fl.length ≤ 5000) (hr1 : 1 ≤ room) (hx1 : 0 ≤ d) (hx2 : d ≤ 1000000) (i : Nat) (hi : i < fl.length) :
    Calls Try.prog 17 #[.pointer (some ⟨g, 0, none⟩), .int .i64 (i : Int)] w fun e w' => e = .returned (.tuple #[.agg #[.int .i64 (fl[i]).f, .int .i64 (fl[i]).t, (fl[i]).v], .int .i64 0]) ∧ ∃ A2 c2, NetAt B g room (.slice A2 (fl.length - 1) c2) s (d + 1) x (fl.eraseIdx i) w' ∧ Kept (fun k => k = g) w w' := by
  obtain ⟨A, c, rfl, hnc, hcm, hrd, hA0⟩ := hN.rows
  have hcmi : (c : Int) ≤ 9223372036854775807 := by unfold maxLen at hcm; omega
  obtain ⟨w1, hw1⟩ : ∃ w1, w1 = w.alloc (.cells #[.int .i64 0, .int .i64 0, .slice none 0 0] 38) := ⟨_, rfl⟩
  have hb1 : Below w.heap.size w w1 := by rw [hw1]; exact (Below.refl _ _).alloc (Nat.le_refl _) _
  have hN1 := hN.below hb1
  have h1 : w1.heap[w.heap.size]? = some (.cells #[.int .i64 0, .int .i64 0, .slice none 0 0] 38 (0, 0)) := by rw [hw1]; exact heap_alloc_new _ _
  have hrdy := ready_any g room A fl.length c s d x w1 hN1.c hr1 i (by omega)
  have hrE : readyE fl.length (i : Int) = 0 := by unfold readyE; rw [if_neg (by omega)]
  rw [hrE] at hrdy
  have hgl := lt_get hN.c
  have c4 := hN1.c.c3
  have f4 := hN1.c.fr 3
  have hcs : (fl[i]).cs.toArray = #[.int .i64 (fl[i]).f, .int .i64 (fl[i]).t, (fl[i]).v, .bool (fl[i]).bad] := rfl
  have hcut0 := fun s d x (w : World) hN hBw => cut_any B g room (.slice A fl.length c) s d x fl w hN hBw hfl i hi
  simp only [hcs] at hcut0
  generalize fl[i] = y at *
  obtain ⟨yf, yt, yA, yn, yc, yl, yb⟩ := y
  simp only [Fl.v] at hcut0 ⊢
  clear hcs
  go_enter Try.func17, Try.ntmps17
  go_wp2_with fail
  rw [← hw1]
  refine hrdy.mono ?_
  rintro e w' ⟨rfl, hw'⟩
  rw [hw']
  clear hw' hw1
  go_wp2_with fail
  go_region
  all_goals go_wp2_with fail
  have hc3 : NetC g room (.slice A fl.length c) s (d + 1) x (w1.setCell ⟨g, 3, none⟩ (.int .i64 (d + 1))).drew := (hN1.c.set3 (d + 1)).drew
  have hN3 := hN1.recell hc3 (fun k hk _ => heap_setCell_other _ _ _ _ hk)
  have hk3 : Kept (fun k => k = g) w (w1.setCell ⟨g, 3, none⟩ (.int .i64 (d + 1))).drew := by
    have := (Kept.of_below (ex := fun k => k = g) hb1).set (g := g) (k := 3) (v := .int .i64 (d + 1)) (.inl rfl)
    exact ⟨this.os, this.tape, this.output, this.size, this.block⟩
  have h3 : (w1.setCell ⟨g, 3, none⟩ (.int .i64 (d + 1))).drew.heap[w.heap.size]? = some (.cells #[.int .i64 0, .int .i64 0, .slice none 0 0] 38 (0, 0)) := (heap_setCell_other _ _ _ _ (show w.heap.size ≠ g by omega)).trans h1
  generalize (w1.setCell ⟨g, 3, none⟩ (.int .i64 (d + 1))).drew = w3 at *
  have hcut := hcut0 s (d + 1) x w3 hN3 (Nat.le_trans hBw hk3.size)
  have hz3 := lt_get h3
  clear hcut0
  go_wp2_with fail
  refine hcut.mono ?_
  rintro e w4 ⟨rfl, ad, hN4, hk4⟩
  have h4 : w4.heap[w.heap.size]? = some (.cells #[.int .i64 0, .int .i64 0, .slice none 0 0] 38 (0, 0)) := (hk4.block _ hz3 (by omega)).trans h3
  have b0 : w4.cell? ⟨w.heap.size, 0, none⟩ = some (.int .i64 0) := by rw [cell_of_row _ _ _ _ _ _ h4]; rfl
  have b1 : w4.cell? ⟨w.heap.size, 1, none⟩ = some (.int .i64 0) := by rw [cell_of_row _ _ _ _ _ _ h4]; rfl
  have b2 : w4.cell? ⟨w.heap.size, 2, none⟩ = some (.slice none 0 0) := by rw [cell_of_row _ _ _ _ _ _ h4]; rfl
  have f0 := frozen_of_row _ _ 0 _ _ h4
  have f1 := frozen_of_row _ _ 1 _ _ h4
  have f2 := frozen_of_row _ _ 2 _ _ h4
  have hk3' := hk3
  clear hN3 hk3 h3 h1 hN1 c4 f4
  have fld := fld74
  go_wp2_with fail
  refine bodyPost_ret (v := .tuple #[.agg #[.int .i64 yf, .int .i64 yt, .slice yA yn yc], .int .i64 0]) (by simp [results, Try.results17, go_sem, b0, b1, b2]) rfl ?_
  have hoth : ∀ k, k ≠ w.heap.size → (((w4.setCell ⟨w.heap.size, 0, none⟩ (.int .i64 yf)).setCell ⟨w.heap.size, 1, none⟩ (.int .i64 yt)).setCell ⟨w.heap.size, 2, none⟩ (.slice yA yn yc)).heap[k]? = w4.heap[k]? := fun k hk => by
    rw [heap_setCell_other _ _ _ _ hk, heap_setCell_other _ _ _ _ hk, heap_setCell_other _ _ _ _ hk]
  refine ⟨rfl, some ad, fl.length - 1, hN4.aside h4 (by decide) (by decide) (by decide) hoth, (((hk3'.trans hk4).set (.inr (Nat.le_refl _))).set (.inr (Nat.le_refl _))).set (.inr (Nat.le_refl _))⟩
end Go.Proofs.Ytfojlmnlolnilaa
