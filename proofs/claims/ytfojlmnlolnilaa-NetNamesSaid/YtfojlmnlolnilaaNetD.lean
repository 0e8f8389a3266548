/- net: Delay, Deliver, Lose. -/
import Derived.Test.YtfojlmnlolnilaaNetC
import Derived.Test.YtfojlmnlolnilaaNetGb
namespace Go.Proofs.Ytfojlmnlolnilaa
open Go.RowKit
attribute [local go_sem] Oper.semAt_some

theorem apart_mv {fl : List Fl} {i : Nat} (hi : i < fl.length) (h : fl.Pairwise fun y z => ∀ b, y.v.ownBlock = some b → z.v.ownBlock ≠ some b) : (fl.eraseIdx i ++ [fl[i]]).Pairwise fun y z => ∀ b, y.v.ownBlock = some b → z.v.ownBlock ≠ some b := by
  have hp : (fl.eraseIdx i ++ [fl[i]]).Perm fl := by
    refine List.perm_append_comm.trans ?_
    rw [List.eraseIdx_eq_take_drop_succ]
    have h1 : fl = fl.take i ++ (fl[i] :: fl.drop (i + 1)) := by rw [List.getElem_cons_drop, List.take_append_drop]
    conv => rhs; rw [h1]
    exact (List.perm_middle (l₁ := fl.take i) (l₂ := fl.drop (i + 1)) (a := fl[i])).symm
  exact (hp.pairwise_iff (fun {y z} hyz b hb he => hyz b he hb)).2 h
set_option maxRecDepth 100000 in
set_option maxHeartbeats 4000000 in
theorem delay_ok (B g : Nat) (room : Int) (v : Value) (s d x : Int) (fl : List Fl) (w : World) (hN : NetAt B g room v s d x fl w) (hBw : B ≤ w.heap.size) (hfl : fl.length ≤ 5000) (hr1 : 1 ≤ room) (i : Nat) (hi : i < fl.length) :
    Calls Try.prog 14 #[.pointer (some ⟨g, 0, none⟩), .int .i64 (i : Int)] w fun e w' => e = .returned (.int .i64 0) ∧ ∃ A2 c2, NetAt B g room (.slice A2 fl.length c2) s d x (fl.eraseIdx i ++ [fl[i]]) w' ∧ Kept (fun k => k = g) w w' := by
  obtain ⟨A, c, rfl, hnc, hcm, hrd, hA0⟩ := hN.rows
  have hcmi : (c : Int) ≤ 9223372036854775807 := by unfold maxLen at hcm; omega
  have hrdy := ready_any g room A fl.length c s d x w hN.c hr1 i (by omega)
  have hrE : readyE fl.length (i : Int) = 0 := by unfold readyE; rw [if_neg (by omega)]
  rw [hrE] at hrdy
  have hcut := cut_any B g room _ s d x fl w hN hBw hfl i hi
  have hgl := lt_get hN.c
  have hap := apart_mv hi hN.apart
  have hsub : ∀ z ∈ fl.eraseIdx i ++ [fl[i]], z ∈ fl := fun z hz => by
    rcases List.mem_append.1 hz with h | h
    · exact (List.eraseIdx_sublist fl i).subset h
    · rw [List.mem_singleton.1 h]; exact List.getElem_mem hi
  generalize fl[i] = y at *
  obtain ⟨yf, yt, yA, yn, yc, yl, yb⟩ := y
  go_enter Try.func14, Try.ntmps14
  go_wp2_with (go_at_call 34; refine hrdy.mono ?_; rintro e w' ⟨rfl, hw'⟩; rw [hw']; clear hw')
  refine hcut.mono ?_
  rintro e w1 ⟨rfl, ad, hN1, hk1⟩
  have hlen1 : (fl.eraseIdx i).length = fl.length - 1 := List.length_eraseIdx_of_lt hi
  have hraw1 : ∀ y ∈ fl, y.l.length = y.n ∧ w1.ownsRow B 5 1 y.v y.n (u8v y.l) := fun y hy => ⟨(hN.raw y hy).1, own_of_block (hN.raw y hy).2 fun k hk => hk1.block k ((hN.raw y hy).2.lt k hk).2 fun e => hN.rawNe y hy (by rw [hk]; exact congrArg some e)⟩
  have hrawg : ∀ y ∈ fl, y.v.ownBlock ≠ some g := hN.rawNe
  obtain ⟨w2, hw2⟩ : ∃ w2, w2 = w1.alloc (.cells #[.int .i64 yf, .int .i64 yt, .slice yA yn yc, .bool yb] 74) := ⟨_, rfl⟩
  have hb2 : Below w1.heap.size w1 w2 := by rw [hw2]; exact (Below.refl _ _).alloc (Nat.le_refl _) _
  have h5 : w2.heap[w1.heap.size]? = some (.cells #[.int .i64 yf, .int .i64 yt, .slice yA yn yc, .bool yb] 74 (0, 0)) := by rw [hw2]; exact heap_alloc_new _ _
  have hN2 := hN1.below hb2
  have hk2 := hk1.below hb2
  simp only [Fl.cs]
  go_upto_region 5 with fail
  rw [← hw2]
  clear hw2 hcut hrdy hrE
  have hz1 := hk1.size
  have hz2 := hb2.size
  have hrow2 : ∀ W, Below w2.heap.size w2 W → RdC W (some ad) (flC (fl.eraseIdx i)) := fun W hb => by
    obtain ⟨A', c', e, _, _, hr, _⟩ := (hN2.below hb).rows
    have e1 : some ad = A' := by injection e
    rw [e1]
    exact hr
  have hnm : fl.length - 1 + 1 = fl.length := by omega
  refine ndelay5 g w1.heap.size (fl.length - 1) (fl.length - 1) yn yc w2.heap.size ad yA (flC (fl.eraseIdx i)) yf yt yb w2 (Nat.le_refl _) (by rw [flC_length, hlen1]) (by omega) rfl hrow2 (fun W hb => (hb.block _ (lt_get h5)).trans h5) (fun W hb => (hN2.below hb).c.c1) (fun W hb => (hN2.below hb).c.fr 1) fun w5 r22 A2 c2 hb5 ho1 => ?_
  have hN5 := hN2.below hb5
  rw [hnm] at ho1 ⊢
  go_wp2_with fail
  go_ret
  have hlen : (fl.eraseIdx i ++ [(⟨yf, yt, yA, yn, yc, yl, yb⟩ : Fl)]).length = fl.length := by simp [hlen1]; omega
  have hcs : flC (fl.eraseIdx i ++ [(⟨yf, yt, yA, yn, yc, yl, yb⟩ : Fl)]) = flC (fl.eraseIdx i) ++ [.int .i64 yf, .int .i64 yt, .slice yA yn yc, .bool yb] := by rw [flC_append]; rfl
  have hoth : ∀ k, k ≠ g → (w5.setCell ⟨g, 1, none⟩ (.slice A2 fl.length c2)).heap[k]? = w5.heap[k]? := fun k hk => heap_setCell_other _ _ _ _ hk
  refine ⟨rfl, A2, c2, ⟨hN5.c.set1 _, ?_, fun z hz => ?_, hap, hN.hB⟩, (hk2.below hb5).set (.inl rfl)⟩
  · rw [hlen, hcs]
    exact own_mono (own_of_block ho1 fun k hk => hoth k fun e => by have := (ho1.lt k hk).1; omega) (by omega)
  · have hz2 := hsub z hz
    refine ⟨(hraw1 z hz2).1, own_of_block (hraw1 z hz2).2 fun k hk => ?_⟩
    have h1 := ((hraw1 z hz2).2.lt k hk).2
    rw [hoth k fun e => hrawg z hz2 (by rw [hk, e])]
    exact (hb5.block k (by omega)).trans (hb2.block k h1)
theorem delay_bad (g : Nat) (room : Int) (A : Option Addr) (n c : Nat) (s d x : Int) (w : World) (h : NetC g room (.slice A n c) s d x w) (hr : 1 ≤ room) (i : Int) (hn : (n : Int) ≤ 9223372036854775807) (hbad : i < 0 ∨ (n : Int) ≤ i) :
    Calls Try.prog 14 #[.pointer (some ⟨g, 0, none⟩), .int .i64 i] w fun e w' => e = .returned (.int .i64 280) ∧ w' = w := by
  have hrdy := ready_any g room A n c s d x w h hr i hn
  rw [show readyE n i = 280 from if_pos hbad] at hrdy
  go_enter Try.func14, Try.ntmps14
  go_wp2_with (go_at_call 34; refine hrdy.mono ?_; rintro e w' ⟨rfl, hw'⟩; rw [hw']; clear hw')
  go_ret
  exact ⟨rfl, rfl⟩
theorem lose_bad (g : Nat) (room : Int) (A : Option Addr) (n c : Nat) (s d x : Int) (w : World) (h : NetC g room (.slice A n c) s d x w) (hr : 1 ≤ room) (i : Int) (hn : (n : Int) ≤ 9223372036854775807) (hbad : i < 0 ∨ (n : Int) ≤ i) :
    Calls Try.prog 21 #[.pointer (some ⟨g, 0, none⟩), .int .i64 i] w fun e w' => e = .returned (.int .i64 280) ∧ w' = w := by
  have hrdy := ready_any g room A n c s d x w h hr i hn
  rw [show readyE n i = 280 from if_pos hbad] at hrdy
  go_enter Try.func21, Try.ntmps21
  go_wp2_with (go_at_call 34; refine hrdy.mono ?_; rintro e w' ⟨rfl, hw'⟩; rw [hw']; clear hw')
  go_ret
  exact ⟨rfl, rfl⟩
theorem deliver_bad (g : Nat) (room : Int) (A : Option Addr) (n c : Nat) (s d x : Int) (w : World) (h : NetC g room (.slice A n c) s d x w) (hr : 1 ≤ room) (i : Int) (hn : (n : Int) ≤ 9223372036854775807) (hbad : i < 0 ∨ (n : Int) ≤ i) :
    Calls Try.prog 17 #[.pointer (some ⟨g, 0, none⟩), .int .i64 i] w fun e w' => e = .returned (.tuple #[.agg #[.int .i64 0, .int .i64 0, .slice none 0 0], .int .i64 280]) ∧ Below w.heap.size w w' := by
  obtain ⟨w1, hw1⟩ : ∃ w1, w1 = w.alloc (.cells #[.int .i64 0, .int .i64 0, .slice none 0 0] 38) := ⟨_, rfl⟩
  have hb1 : Below w.heap.size w w1 := by rw [hw1]; exact (Below.refl _ _).alloc (Nat.le_refl _) _
  have hc1 : NetC g room (.slice A n c) s d x w1 := (hb1.block g (lt_get h)).trans h
  have h1 : w1.heap[w.heap.size]? = some (.cells #[.int .i64 0, .int .i64 0, .slice none 0 0] 38 (0, 0)) := by rw [hw1]; exact heap_alloc_new _ _
  have b0 : w1.cell? ⟨w.heap.size, 0, none⟩ = some (.int .i64 0) := by rw [cell_of_row _ _ _ _ _ _ h1]; rfl
  have b1 : w1.cell? ⟨w.heap.size, 1, none⟩ = some (.int .i64 0) := by rw [cell_of_row _ _ _ _ _ _ h1]; rfl
  have b2 : w1.cell? ⟨w.heap.size, 2, none⟩ = some (.slice none 0 0) := by rw [cell_of_row _ _ _ _ _ _ h1]; rfl
  have f0 := frozen_of_row _ _ 0 _ _ h1
  have f1 := frozen_of_row _ _ 1 _ _ h1
  have f2 := frozen_of_row _ _ 2 _ _ h1
  have hrdy := ready_any g room A n c s d x w1 hc1 hr i hn
  rw [show readyE n i = 280 from if_pos hbad] at hrdy
  go_enter Try.func17, Try.ntmps17
  go_wp2_with fail
  rw [← hw1]
  refine hrdy.mono ?_
  rintro e w' ⟨rfl, hw'⟩
  rw [hw']
  clear hw' hw1
  go_wp2_with fail
  refine bodyPost_ret (v := .tuple #[.agg #[.int .i64 0, .int .i64 0, .slice none 0 0], .int .i64 280]) (by simp [results, Try.results17, go_sem, b0, b1, b2]) rfl ?_
  exact ⟨rfl, ((hb1.setCell (Nat.le_refl _) _).setCell (Nat.le_refl _) _).setCell (Nat.le_refl _) _⟩
end Go.Proofs.Ytfojlmnlolnilaa
