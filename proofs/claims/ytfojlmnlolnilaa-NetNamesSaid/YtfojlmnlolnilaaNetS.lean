/- net: a net whole; Send. -/
import Derived.Test.YtfojlmnlolnilaaNetGa
import Derived.Deep.QuietTactic
import Derived.BigQuiet
namespace Go.Proofs.Ytfojlmnlolnilaa
open Go.RowKit
attribute [local go_sem] Oper.semAt_some

def Fl.v (y : Fl) : Value := .slice y.A y.n y.c
/-- A net in block g, all that it holds beyond B. -/
structure NetAt (B g : Nat) (room : Int) (v : Value) (s d x : Int) (fl : List Fl) (W : World) : Prop where
  c : NetC g room v s d x W
  row : W.ownsRow B 74 4 v fl.length (flC fl)
  raw : ∀ y ∈ fl, y.l.length = y.n ∧ W.ownsRow B 5 1 y.v y.n (u8v y.l)
  apart : fl.Pairwise fun y z => ∀ b, y.v.ownBlock = some b → z.v.ownBlock ≠ some b
  hB : B ≤ g
section
variable {B g : Nat} {room : Int} {v : Value} {s d x : Int} {fl : List Fl} {W W' : World}
theorem NetAt.rowNe (h : NetAt B g room v s d x fl W) : v.ownBlock ≠ some g := own_ne h.row h.c (by decide)
theorem NetAt.rawNe (h : NetAt B g room v s d x fl W) : ∀ y ∈ fl, y.v.ownBlock ≠ some g := fun y hy => own_ne (h.raw y hy).2 h.c (by decide)
/-- All but g lies as it lay. -/
theorem NetAt.recell {s' d' x' : Int} (h : NetAt B g room v s d x fl W) (hc : NetC g room v s' d' x' W') (hk : ∀ k, k ≠ g → k < W.heap.size → W'.heap[k]? = W.heap[k]?) : NetAt B g room v s' d' x' fl W' :=
  ⟨hc, own_of_block h.row fun k hk2 => hk k (fun e => h.rowNe (by rw [hk2, e])) (h.row.lt k hk2).2, fun y hy => ⟨(h.raw y hy).1, own_of_block (h.raw y hy).2 fun k hk2 => hk k (fun e => h.rawNe y hy (by rw [hk2, e])) ((h.raw y hy).2.lt k hk2).2⟩, h.apart, h.hB⟩
theorem NetAt.kept {ex : Nat → Prop} (h : NetAt B g room v s d x fl W) (hk : Kept ex W W') (hx : ∀ k, ex k → k < B) : NetAt B g room v s d x fl W' :=
  ⟨(hk.block g (lt_get h.c) fun e => by have := hx g e; have := h.hB; omega).trans h.c, own_of_block h.row fun k hk2 => hk.block k (h.row.lt k hk2).2 fun e => by have := hx k e; have := (h.row.lt k hk2).1; omega,
    fun y hy => ⟨(h.raw y hy).1, own_of_block (h.raw y hy).2 fun k hk2 => hk.block k ((h.raw y hy).2.lt k hk2).2 fun e => by have := hx k e; have := ((h.raw y hy).2.lt k hk2).1; omega⟩, h.apart, h.hB⟩
theorem NetAt.below (h : NetAt B g room v s d x fl W) (hb : Below W.heap.size W W') : NetAt B g room v s d x fl W' := h.kept (Kept.of_below (ex := fun _ => False) hb) fun _ e => e.elim
theorem NetAt.rows (h : NetAt B g room v s d x fl W) : ∃ A c, v = .slice A fl.length c ∧ fl.length ≤ c ∧ c ≤ maxLen ∧ RdC W A (flC fl) ∧ (A = none → fl.length = 0) := by
  obtain ⟨A, c, e, h1, h2, h3, _⟩ := RdC.of_own h.row
  refine ⟨A, c, e, h1, h2, h3, fun hA => ?_⟩
  subst hA
  cases fl with
  | nil => rfl
  | cons y L =>
    obtain ⟨_, e2, _⟩ := h3 0 (.int .i64 y.f) (by simp [flC, Fl.cs])
    cases e2
end
theorem NetC.set2 {g : Nat} {room : Int} {v : Value} {s d x : Int} {W : World} (h : NetC g room v s d x W) (s' : Int) : NetC g room v s' d x (W.setCell ⟨g, 2, none⟩ (.int .i64 s')) := heap_setCell_same W g 2 _ _ _ h
theorem NetC.set3 {g : Nat} {room : Int} {v : Value} {s d x : Int} {W : World} (h : NetC g room v s d x W) (s' : Int) : NetC g room v s s' x (W.setCell ⟨g, 3, none⟩ (.int .i64 s')) := heap_setCell_same W g 3 _ _ _ h
theorem NetC.set4 {g : Nat} {room : Int} {v : Value} {s d x : Int} {W : World} (h : NetC g room v s d x W) (s' : Int) : NetC g room v s d s' (W.setCell ⟨g, 4, none⟩ (.int .i64 s')) := heap_setCell_same W g 4 _ _ _ h
theorem NetC.set1 {g : Nat} {room : Int} {v : Value} {s d x : Int} {W : World} (h : NetC g room v s d x W) (v' : Value) : NetC g room v' s d x (W.setCell ⟨g, 1, none⟩ v') := heap_setCell_same W g 1 _ _ _ h
theorem NetC.drew {g : Nat} {room : Int} {v : Value} {s d x : Int} {W : World} (h : NetC g room v s d x W) : NetC g room v s d x W.drew := h
set_option maxRecDepth 100000 in
set_option maxHeartbeats 4000000 in
theorem send_ok (B g : Nat) (room : Int) (v : Value) (s d x : Int) (fl : List Fl) (w : World) (hN : NetAt B g room v s d x fl w) (hBw : B ≤ w.heap.size) (hs1 : 0 ≤ s) (hs2 : s ≤ 1000000) (hr1 : 1 ≤ room) (hr2 : room ≤ 4096) (hlt : (fl.length : Int) < room)
    (ff tt : Int) (RA : Option Addr) (rn rc : Nat) (rl : List UInt8) (hrn : rn ≤ 100000000) (hrl : rl.length = rn) (hraw : RdC w RA (u8v rl)) (hRg : ∀ ad, RA = some ad → rl ≠ [] → ad.block ≠ g) :
    Calls Try.prog 13 #[.pointer (some ⟨g, 0, none⟩), .agg #[.int .i64 ff, .int .i64 tt, .slice RA rn rc]] w fun e w' => e = .returned (.int .i64 0) ∧ ∃ A2 c2 A' c', NetAt B g room (.slice A2 (fl.length + 1) c2) (s + 1) d x (fl ++ [⟨ff, tt, A', rn, c', rl, false⟩]) w' ∧ (∀ b, (Value.slice A' rn c').ownBlock = some b → w.heap.size ≤ b) ∧ Kept (fun k => k = g) w w' := by
  obtain ⟨A, c, rfl, hnc, hcm, hrd, hA0⟩ := hN.rows
  obtain ⟨w1, hw1⟩ : ∃ w1, w1 = w.alloc (.cells #[.int .i64 ff, .int .i64 tt, .slice RA rn rc] 38) := ⟨_, rfl⟩
  have hb1 : Below w.heap.size w w1 := by rw [hw1]; exact (Below.refl _ _).alloc (Nat.le_refl _) _
  have hN1 := hN.below hb1
  have hbox : w1.heap[w.heap.size]? = some (.cells #[.int .i64 ff, .int .i64 tt, .slice RA rn rc] 38 (0, 0)) := by rw [hw1]; exact heap_alloc_new _ _
  have hno := none_any g room _ s d x w1 hN1.c hr1
  have c2 := hN1.c.c2
  have f2 := hN1.c.fr 2
  have c0 := hN1.c.c0
  have c1 := hN1.c.c1
  have hgl := lt_get hN.c
  have hlti : ¬ room ≤ (fl.length : Int) := by omega
  have hcmi : (c : Int) ≤ 9223372036854775807 := by unfold maxLen at hcm; omega
  have hmx : Try.prog.follows .mixedOrders = true := by kernel_rfl
  have HBX := Lib.hid hbox
  clear hbox
  go_enter Try.func13, Try.ntmps13
  go_wp2_with fail
  rw [← hw1]
  clear hw1
  refine hno.mono ?_
  rintro e w' ⟨rfl, hw'⟩
  rw [hw']
  clear hw' hno
  go_wp2_with fail
  go_region
  all_goals go_wp2_with fail
  have hc3 : NetC g room (.slice A fl.length c) (s + 1) d x (w1.setCell ⟨g, 2, none⟩ (.int .i64 (s + 1))).drew := (hN1.c.set2 (s + 1)).drew
  have hN3 := hN1.recell hc3 (fun k hk _ => heap_setCell_other _ _ _ _ hk)
  have hk3 : Kept (fun k => k = g) w (w1.setCell ⟨g, 2, none⟩ (.int .i64 (s + 1))).drew := by
    have := (Kept.of_below (ex := fun k => k = g) hb1).set (g := g) (k := 2) (v := .int .i64 (s + 1)) (.inl rfl)
    exact ⟨this.os, this.tape, this.output, this.size, this.block⟩
  have hbx3 : (w1.setCell ⟨g, 2, none⟩ (.int .i64 (s + 1))).drew.heap[w.heap.size]? = some (.cells #[.int .i64 ff, .int .i64 tt, .slice RA rn rc] 38 (0, 0)) := (heap_setCell_other _ _ _ _ (show w.heap.size ≠ g by omega)).trans HBX.out
  have hs3 : w.heap.size + 1 ≤ (w1.setCell ⟨g, 2, none⟩ (.int .i64 (s + 1))).drew.heap.size := lt_get hbx3
  generalize (w1.setCell ⟨g, 2, none⟩ (.int .i64 (s + 1))).drew = w3 at *
  clear hN1 c2 f2 c0 c1 hb1
  have c0 := hc3.c0
  have c1 := hc3.c1
  have HB3 := Lib.hid hbx3
  clear hbx3
  go_quiet (fail)
  go_upto_region 7 with fail
  have hb4 : Below w3.heap.size w3 (w3.drewN nq) := below_drewN _ _
  have hN4 := hN3.below hb4
  have hk4 := hk3.below hb4
  have hz4 : w.heap.size + 1 ≤ (w3.drewN nq).heap.size := Nat.le_trans hs3 hb4.size
  generalize w3.drewN nq = w4 at *
  have hRw : RdC w4 RA (u8v rl) := fun j u hj => by
    obtain ⟨ad, e, hc⟩ := hraw j u hj
    have hlt2 := World.block_lt_of_cell? w _ hc
    rw [addr_add_block] at hlt2
    exact ⟨ad, e, (World.cell?_of_block (w := w) (w' := w4) (by rw [addr_add_block]; exact hk4.block _ hlt2 (hRg ad e (fun e2 => by subst e2; simp [u8v] at hj)))).trans hc⟩
  have hbx4 : w4.heap[w.heap.size]? = some (.cells #[.int .i64 ff, .int .i64 tt, .slice RA rn rc] 38 (0, 0)) := (hb4.block _ hs3).trans HB3.out
  refine nsend7 g w.heap.size fl.length c rn rc w4.heap.size A RA (flC fl) rl ff tt w4 (Nat.le_refl _) (flC_length fl) (by omega) hnc hcm hA0 hrn hrl (fun W hb => ?_) (fun W hb => hRw.below hb) (fun W hb => (hb.block _ (by omega)).trans hbx4) (fun W hb => (hN4.below hb).c.c1) (fun W hb => (hN4.below hb).c.fr 1) fun w5 r43 r44 A2 c2 hb5 hf => ?_
  · obtain ⟨_, _, e, _, _, hr, _⟩ := (hN4.below hb).rows
    cases e
    exact hr
  obtain ⟨A', c', ho1, ho2⟩ := hf
  have hN5 := hN4.below hb5
  go_wp2_with fail
  go_ret
  have hlen : (fl ++ [(⟨ff, tt, A', rn, c', rl, false⟩ : Fl)]).length = fl.length + 1 := by simp
  have hcs : flC (fl ++ [(⟨ff, tt, A', rn, c', rl, false⟩ : Fl)]) = flC fl ++ [.int .i64 ff, .int .i64 tt, .slice A' rn c', .bool false] := by rw [flC_append]; rfl
  have hoth : ∀ k, k ≠ g → (w5.setCell ⟨g, 1, none⟩ (.slice A2 (fl.length + 1) c2)).heap[k]? = w5.heap[k]? := fun k hk => heap_setCell_other _ _ _ _ hk
  have hg4 : g < w4.heap.size := lt_get hN4.c
  refine ⟨rfl, A2, c2, A', c', ⟨hN5.c.set1 _, ?_, fun y hy => ?_, ?_, hN.hB⟩, fun b hb => ?_, (hk4.below hb5).set (.inl rfl)⟩
  · rw [hlen, hcs]
    exact own_mono (own_of_block ho1 fun k hk => hoth k fun e => by have := (ho1.lt k hk).1; omega) (by omega)
  · rcases List.mem_append.1 hy with hy | hy
    · exact ⟨(hN5.raw y hy).1, own_of_block (hN5.raw y hy).2 fun k hk => hoth k fun e => hN5.rawNe y hy (by rw [hk, e])⟩
    · obtain rfl := List.mem_singleton.1 hy
      exact ⟨hrl, own_mono (own_of_block ho2 fun k hk => hoth k fun e => by have := (ho2.lt k hk).1; omega) (by omega)⟩
  · rw [List.pairwise_append]
    refine ⟨hN.apart, List.pairwise_singleton _ _, fun y hy z hz b hb e => ?_⟩
    obtain rfl := List.mem_singleton.1 hz
    have h1 := ((hN4.raw y hy).2.lt b hb).2
    have h2 := (ho2.lt b e).1
    omega
  · have := (ho2.lt b hb).1
    omega
end Go.Proofs.Ytfojlmnlolnilaa
