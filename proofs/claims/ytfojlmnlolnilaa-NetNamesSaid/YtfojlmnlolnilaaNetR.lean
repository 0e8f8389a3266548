/- net's law: alive. -/
import Derived.Test.YtfojlmnlolnilaaNetQ
import Derived.Lib.SlBytesConst
namespace Go.Proofs.Ytfojlmnlolnilaa
open Go.RowKit
attribute [local go_sem] Oper.semAt_some

theorem RdC.kept_off {ex : Nat → Prop} {w w' : World} {A : Option Addr} {cs : List Value} (h : RdC w A cs) (hk : Kept ex w w') (hx : ∀ ad, A = some ad → ¬ ex ad.block) : RdC w' A cs := fun j u hj => by
  obtain ⟨ad, e, hc⟩ := h j u hj
  have hlt2 := World.block_lt_of_cell? w _ hc
  rw [addr_add_block] at hlt2
  exact ⟨ad, e, (World.cell?_of_block (w := w) (w' := w') (by rw [addr_add_block]; exact hk.block _ hlt2 (hx ad e))).trans hc⟩
theorem rd_lit {W : World} {b : Nat} {cs : Array Value} {t : TypeId} {fr : Nat × Nat} {l : List UInt8} (h : W.heap[b]? = some (.cells cs t fr)) (hl : cs.toList = u8v l) : RdC W (some ⟨b, 0, none⟩) (u8v l) := fun j u hj => by
  refine ⟨_, rfl, ?_⟩
  rw [addr_add_plain, Nat.zero_add, cell_of_row _ _ j _ _ _ h, ← Array.getElem?_toList, hl]
  exact hj
theorem str_own {B : Nat} {W : World} {A : Option Addr} {n c : Nat} {l : List UInt8} (h : W.ownsRow B 5 1 (.slice A n c) n (u8v l)) (hl : l.length = n) : (convert 22 9 (.slice A n c)).run Try.prog W = .ok (.string (bstr l)) W := by
  subst hl
  obtain ⟨_, _, e, _, _, hr, _⟩ := RdC.of_own h
  cases e
  exact run_string_of (P := Try.prog) W 22 9 5 Try.underlying22 Try.underlying5 Try.underlying9 A l c hr
theorem sp1 : spoilL [97, 98, 99, 100] true 6 0 = [97, 98] := by decide
theorem sp2 : spoilL [97, 98, 99, 100] false (-1) 1 = [97, 98, 99, 101] := by decide
theorem spoilt_n (A : Option Addr) (n c : Nat) (l : List UInt8) (hl : l.length = n) (hn : n ≤ 100000) (cut : Bool) (x : Int) (m : Nat) (hx1 : -9223372036854775808 ≤ x) (hx2 : x ≤ 9223372036854775807) (hm : m < 4294967296) (w : World) (hr : RdC w A (u8v l)) (L : List UInt8) (k : Nat) (hL : spoilL l cut x m = L) (hk : L.length = k) :
    Calls Try.prog 10 #[.slice A n c, .agg #[.bool cut, .int .i64 x, .int .u32 m]] w fun e w' => ∃ A2 c2, e = .returned (.slice A2 k c2) ∧ w'.ownsRow w.heap.size 5 1 (.slice A2 k c2) k (u8v L) ∧ Below w.heap.size w w' := by
  subst hL hk
  refine (spoilt_any A n c l hl hn cut x m hx1 hx2 hm w hr).mono ?_
  rintro e w' ⟨v, rfl, ho, hb⟩
  obtain ⟨A2, c2, rfl, _⟩ := RdC.of_own ho
  exact ⟨A2, c2, rfl, ho, hb⟩
set_option maxRecDepth 100000 in
set_option maxHeartbeats 8000000 in
theorem alive_any (w : World) : Calls Try.prog 9 #[] w fun e w' => e = .returned (.bool true) ∧ Below w.heap.size w w' := by
  obtain ⟨w0, hw0⟩ : ∃ w0, w0 = w.alloc (.cells #[.int .i64 2, .slice none 0 0, .int .i64 0, .int .i64 0, .int .i64 0] 70) := ⟨_, rfl⟩
  have hb0 : Below w.heap.size w w0 := by rw [hw0]; exact (Below.refl _ _).alloc (Nat.le_refl _) _
  have hc0 : NetC w.heap.size 2 (.slice none 0 0) 0 0 0 w0 := by rw [hw0]; exact heap_alloc_new _ _
  have hN0 := NetAt.fresh w.heap.size w.heap.size 2 w0 (Nat.le_refl _) hc0
  have hz0 := lt_get hc0
  have hnew := new_ok 2 (by omega) (by omega) w
  rw [← hw0] at hnew
  clear hw0 hc0
  go_enter Try.func9, Try.ntmps9
  go_wp2_with (go_at_call 11; refine hnew.mono ?_; rintro e w' ⟨rfl, hw'⟩; rw [hw']; clear hw')
  refine (of_any [97] w0).mono ?_
  rintro e w1 ⟨b1, k1, rfl, hr1, hb1, hg1⟩
  have hN1 := hN0.below hb1
  have hz1 := hb1.size
  clear hnew
  go_wp2_with fail
  refine (send_ok w.heap.size w.heap.size 2 _ 0 0 0 [] w1 hN1 (by omega) (by omega) (by omega) (by omega) (by omega) (by decide) 0 1 (some ⟨b1, 0, none⟩) _ k1 [97] (by simp) rfl hr1 (fun ad e _ => by cases e; show b1 ≠ _; omega)).mono ?_
  rintro e w2 ⟨rfl, A2, c2, A2', c2', hN2, _, hk2⟩
  replace hN2 : NetAt w.heap.size w.heap.size 2 (.slice A2 1 c2) 1 0 0 [⟨0, 1, A2', 1, c2', [97], false⟩] w2 := hN2
  have hb2 : Below w.heap.size w w2 := below_kept (below_then hb0 hb1 (by omega)) hk2 (fun k e => by omega)
  clear hk2 hN1 hr1 hg1 hb1 hb0 hN0
  have hz2 := hb2.size
  go_wp2_with fail
  refine (of_any [98] w2).mono ?_
  rintro e w3 ⟨b3, k3, rfl, hr3, hb3, hg3⟩
  have hN3 := hN2.below hb3
  have hz3 := hb3.size
  have hl2 := lt_get hN2.c
  go_wp2_with fail
  refine (send_ok w.heap.size w.heap.size 2 _ 1 0 0 [⟨0, 1, A2', 1, c2', [97], false⟩] w3 hN3 (by omega) (by omega) (by omega) (by omega) (by omega) (by simp) 0 1 (some ⟨b3, 0, none⟩) _ k3 [98] (by simp) rfl hr3 (fun ad e _ => by cases e; show b3 ≠ _; omega)).mono ?_
  rintro e w4 ⟨rfl, A4, c4, A4', c4', hN4, _, hk4⟩
  replace hN4 : NetAt w.heap.size w.heap.size 2 (.slice A4 2 c4) 2 0 0 [⟨0, 1, A2', 1, c2', [97], false⟩, ⟨0, 1, A4', 1, c4', [98], false⟩] w4 := hN4
  have hb4 : Below w.heap.size w w4 := below_kept (below_then hb2 hb3 (by omega)) hk4 (fun k e => by omega)
  clear hk4 hN3 hr3 hg3 hb3 hb2 hN2
  have hz4 := hb4.size
  go_wp2_with fail
  refine (of_any [99] w4).mono ?_
  rintro e w5 ⟨b5, k5, rfl, hr5, hb5, hg5⟩
  have hN5 := hN4.below hb5
  have hz5 := hb5.size
  have hl4 := lt_get hN4.c
  go_wp2_with fail
  refine (send_full w.heap.size w.heap.size 2 _ 2 0 0 _ w5 hN5 (by omega) (by omega) (by omega) (by omega) (by omega) (by omega) (by omega) (by simp) 0 1 (some ⟨b5, 0, none⟩) _ k5).mono ?_
  rintro e w6 ⟨rfl, hN6, hk6⟩
  replace hN6 : NetAt w.heap.size w.heap.size 2 (.slice A4 2 c4) 3 0 1 [⟨0, 1, A2', 1, c2', [97], false⟩, ⟨0, 1, A4', 1, c4', [98], false⟩] w6 := hN6
  have hb6 : Below w.heap.size w w6 := below_kept (below_then hb4 hb5 (by omega)) hk6 (fun k e => by omega)
  clear hk6 hN5 hr5 hg5 hb5 hb4 hN4
  have hz6 := hb6.size
  go_wp2_with fail
  refine (delay_ok w.heap.size w.heap.size 2 _ 3 0 1 _ w6 hN6 (by omega) (by simp) (by omega) 0 (by simp)).mono ?_
  rintro e w7 ⟨rfl, A7, c7, hN7, hk7⟩
  replace hN7 : NetAt w.heap.size w.heap.size 2 (.slice A7 2 c7) 3 0 1 [⟨0, 1, A4', 1, c4', [98], false⟩, ⟨0, 1, A2', 1, c2', [97], false⟩] w7 := hN7
  have hb7 : Below w.heap.size w w7 := below_kept hb6 hk7 (fun k e => by omega)
  clear hk7 hb6 hN6
  have hz7 := hb7.size
  go_wp2_with fail
  have hdel : Calls Try.prog 17 #[.pointer (some ⟨w.heap.size, 0, none⟩), .int .i64 0] w7 fun e w' => e = .returned (.tuple #[.agg #[.int .i64 0, .int .i64 1, .slice A4' 1 c4'], .int .i64 0]) ∧ ∃ A2 c2, NetAt w.heap.size w.heap.size 2 (.slice A2 1 c2) 3 1 1 [⟨0, 1, A2', 1, c2', [97], false⟩] w' ∧ Kept (fun k => k = w.heap.size) w7 w' := deliver_ok w.heap.size w.heap.size 2 _ 3 0 1 _ w7 hN7 (by omega) (by simp) (by omega) (by omega) (by omega) 0 (by simp)
  refine hdel.mono ?_
  clear hdel
  rintro e w8 ⟨rfl, A8, c8, hN8, hk8⟩
  have hraw8 := (own_of_block (hN7.raw _ (List.mem_cons_self ..)).2 (w' := w8) fun k hk => hk8.block k ((hN7.raw _ (List.mem_cons_self ..)).2.lt k hk).2 fun e => hN7.rawNe _ (List.mem_cons_self ..) (by rw [hk]; exact congrArg some e))
  replace hraw8 : w8.ownsRow w.heap.size 5 1 (.slice A4' 1 c4') 1 (u8v [98]) := hraw8
  have hb8 : Below w.heap.size w w8 := below_kept hb7 hk8 (fun k e => by omega)
  clear hk8 hb7 hN7
  have hz8 := hb8.size
  obtain ⟨w9, hw9⟩ : ∃ w9, w9 = w8.alloc (.cells #[.int .i64 0, .int .i64 1, .slice A4' 1 c4'] 38) := ⟨_, rfl⟩
  have hb89 : Below w8.heap.size w8 w9 := by rw [hw9]; exact (Below.refl _ _).alloc (Nat.le_refl _) _
  have h9 : w9.heap[w8.heap.size]? = some (.cells #[.int .i64 0, .int .i64 1, .slice A4' 1 c4'] 38 (0, 0)) := by rw [hw9]; exact heap_alloc_new _ _
  have hN9 := hN8.below hb89
  have hraw9 := own_below hraw8 hb89
  clear hN8 hraw8
  go_upto_region 5 with fail
  rw [← hw9]
  clear hw9
  go_upto_region 6 with (go_at_call 18; refine (count_any w.heap.size 2 _ 3 1 1 w9 hN9.c (by omega)).mono ?_; rintro e w10 ⟨rfl, nn, hw10⟩; rw [hw10]; clear hw10)
  have hb910 : Below w9.heap.size w9 (w9.drewN nn) := below_drewN _ _
  have hb10 := below_then (below_then hb8 hb89 (Nat.le_refl _)) hb910 (Nat.le_refl _)
  have h10 := (hb910.block _ (lt_get h9)).trans h9
  have hraw10 := own_below hraw9 hb910
  generalize w9.drewN nn = w10 at *
  have x2 : w10.cell? ⟨w8.heap.size, 2, none⟩ = some (.slice A4' 1 c4') := by rw [cell_of_row _ _ _ _ _ _ h10]; rfl
  have s1 : (convert 22 9 (.slice A4' 1 c4')).run Try.prog w10 = .ok (.string ⟨#[98]⟩) w10 := str_own hraw10 rfl
  have kc := fun (w : World) (C : Array Value) (n c : Nat) => Lib.run_convert_bytes_const (P := Try.prog) w 22 5 C n c Try.underlying22 Try.underlying5
  clear hN9 hraw9 h9 hb89 hb8 h10 hb910 hraw10
  go_wp2_with fail
  refine (spoilt_n (some ⟨w10.heap.size, 0, none⟩) 4 4 [97, 98, 99, 100] rfl (by omega) true 6 0 (by omega) (by omega) (by omega) _ (rd_lit (heap_alloc_new _ _) rfl) [97, 98] 2 sp1 rfl).mono ?_
  rintro e w11 ⟨A11, c11, rfl, ho11, hb11⟩
  have s2 : (convert 22 9 (.slice A11 2 c11)).run Try.prog w11 = .ok (.string ⟨#[97, 98]⟩) w11 := str_own ho11 rfl
  have hb11' := below_then (below_then hb10 ((Below.refl _ _).alloc (Nat.le_refl _) _) (Nat.le_refl _)) hb11 (Nat.le_refl _)
  clear ho11 hb11 hb10 s1 x2
  go_wp2_with fail
  refine (spoilt_n (some ⟨w11.heap.size, 0, none⟩) 4 4 [97, 98, 99, 100] rfl (by omega) false (-1) 1 (by omega) (by omega) (by omega) _ (rd_lit (heap_alloc_new _ _) rfl) [97, 98, 99, 101] 4 sp2 rfl).mono ?_
  rintro e w12 ⟨A12, c12, rfl, ho12, hb12⟩
  have s3 : (convert 22 9 (.slice A12 4 c12)).run Try.prog w12 = .ok (.string ⟨#[97, 98, 99, 101]⟩) w12 := str_own ho12 rfl
  have hb12' := below_then (below_then hb11' ((Below.refl _ _).alloc (Nat.le_refl _) _) (Nat.le_refl _)) hb12 (Nat.le_refl _)
  clear ho12 hb12 s2 hb11'
  go_wp2_with fail
  go_ret
  exact ⟨rfl, hb12'⟩
end Go.Proofs.Ytfojlmnlolnilaa
