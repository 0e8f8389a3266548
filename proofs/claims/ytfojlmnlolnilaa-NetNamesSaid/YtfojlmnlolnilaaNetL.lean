/- net: Spoil. -/
import Derived.Test.YtfojlmnlolnilaaNetGf
import Derived.Test.YtfojlmnlolnilaaNetOr
namespace Go.Proofs.Ytfojlmnlolnilaa
open Go.RowKit
attribute [local go_sem] Oper.semAt_some

theorem flC_set (fl : List Fl) (i : Nat) (hi : i < fl.length) (y : Fl) : flC (fl.set i y) = (flC fl).take (i * 4) ++ y.cs ++ (flC fl).drop (i * 4 + 4) := by
  have h1 : fl.set i y = fl.take i ++ [y] ++ fl.drop (i + 1) := by
    rw [List.set_eq_take_append_cons_drop, if_pos hi]; simp
  rw [h1, flC_append, flC_append, flC_take, flC_drop, show (i + 1) * 4 = i * 4 + 4 by omega]
  simp [flC]
theorem take_row {α : Type} (cur F vs : List α) (m off : Nat) (h : cur.take m = F) (hm : m ≤ cur.length) (ho : off + vs.length ≤ m) : (cur.take off ++ vs ++ cur.drop (off + vs.length)).take m = F.take off ++ vs ++ F.drop (off + vs.length) := by
  obtain ⟨R, hR⟩ : ∃ R, cur = F ++ R := ⟨cur.drop m, by rw [← h, List.take_append_drop]⟩
  have hF : F.length = m := by rw [← h, List.length_take]; omega
  subst hR
  have h1 : (F ++ R).take off = F.take off := List.take_append_of_le_length (by omega)
  have h2 : (F ++ R).drop (off + vs.length) = F.drop (off + vs.length) ++ R := List.drop_append_of_le_length (by omega)
  rw [h1, h2, ← List.append_assoc]
  exact List.take_left' (by simp; omega)
theorem apart_set {fl : List Fl} {i : Nat} {y : Fl} (h : fl.Pairwise fun y z => ∀ b, y.v.ownBlock = some b → z.v.ownBlock ≠ some b) (hy : ∀ z ∈ fl, ∀ b, z.v.ownBlock = some b → y.v.ownBlock ≠ some b) : (fl.set i y).Pairwise fun y z => ∀ b, y.v.ownBlock = some b → z.v.ownBlock ≠ some b := by
  induction fl generalizing i with
  | nil => simp
  | cons x L ih =>
    have hL := List.pairwise_cons.1 h
    have hyL := fun z hz => hy z (List.mem_cons_of_mem _ hz)
    cases i with
    | zero =>
      rw [List.set_cons_zero]
      refine List.pairwise_cons.2 ⟨fun z hz b hb e => hyL z hz b e hb, hL.2⟩
    | succ i =>
      rw [List.set_cons_succ]
      refine List.pairwise_cons.2 ⟨fun z hz b hb e => ?_, ih hL.2 hyL⟩
      rcases List.mem_or_eq_of_mem_set hz with hz | rfl
      · exact hL.1 z hz b hb e
      · exact hy x (List.mem_cons_self ..) b hb e
set_option maxRecDepth 100000 in
set_option maxHeartbeats 8000000 in
theorem spoil_ok (B g : Nat) (room : Int) (v : Value) (s d x : Int) (fl : List Fl) (w : World) (hN : NetAt B g room v s d x fl w) (hBw : B ≤ w.heap.size) (hfl : fl.length ≤ 5000) (hr1 : 1 ≤ room) (i : Nat) (hi : i < fl.length) (cut : Bool) (sx : Int) (sm : Nat) (hx1 : -9223372036854775808 ≤ sx) (hx2 : sx ≤ 9223372036854775807) (hm : sm < 4294967296)
    (hbad : (fl[i]).bad = false) (hyn : (fl[i]).n ≤ 100000) (L : List UInt8) (k : Nat) (hL : spoilL (fl[i]).l cut sx sm = L) (hk : L.length = k) :
    Calls Try.prog 23 #[.pointer (some ⟨g, 0, none⟩), .int .i64 (i : Int), .agg #[.bool cut, .int .i64 sx, .int .u32 sm]] w fun e w' => e = .returned (.int .i64 0) ∧ ∃ A' c', NetAt B g room v s d x (fl.set i ⟨(fl[i]).f, (fl[i]).t, A', k, c', L, true⟩) w' ∧ Kept (fun b => v.ownBlock = some b) w w' := by
  rcases hN.row.2 with ⟨_, h0⟩ | ⟨rb, c, cur, rfl, hBr, hrb, hnc, hcm, hcz, hct⟩
  · omega
  have hrl := lt_get hrb
  have hcmi : (c : Int) ≤ 9223372036854775807 := by unfold maxLen at hcm; omega
  have hgl := lt_get hN.c
  have hrg : rb ≠ g := fun e => hN.rowNe (by rw [e]; rfl)
  obtain ⟨w1, hw1⟩ : ∃ w1, w1 = w.alloc (.cells #[.bool cut, .int .i64 sx, .int .u32 sm] 25) := ⟨_, rfl⟩
  have hb1 : Below w.heap.size w w1 := by rw [hw1]; exact (Below.refl _ _).alloc (Nat.le_refl _) _
  have h1 : w1.heap[w.heap.size]? = some (.cells #[.bool cut, .int .i64 sx, .int .u32 sm] 25 (0, 0)) := by rw [hw1]; exact heap_alloc_new _ _
  have hN1 := hN.below hb1
  have hrdy := ready_any g room (some ⟨rb, 0, none⟩) fl.length c s d x w1 hN1.c hr1 i (by omega)
  have hrE : readyE fl.length (i : Int) = 0 := by unfold readyE; rw [if_neg (by omega)]
  rw [hrE] at hrdy
  have hrb1 : w1.heap[rb]? = some (.cells cur 74 (0, 0)) := (hb1.block _ hrl).trans hrb
  have hlen := flC_length fl
  have hcell : ∀ W : World, W.heap[rb]? = some (.cells cur 74 (0, 0)) → ∀ j u, (flC fl)[j]? = some u → W.cell? ⟨rb, j, none⟩ = some u := fun W hW j u hj => by
    rw [cell_of_row _ _ j _ _ _ hW, ← Array.getElem?_toList]
    rw [← hct, List.getElem?_take] at hj
    split at hj
    · exact hj
    · cases hj
  have e0 := flC_get fl i hi 0 (by omega)
  have e1 := flC_get fl i hi 1 (by omega)
  have e2 := flC_get fl i hi 2 (by omega)
  have e3 := flC_get fl i hi 3 (by omega)
  have hraw := hN.raw _ (List.getElem_mem hi)
  have hset := fun y => flC_set fl i hi y
  generalize hyy : fl[i] = y at *
  obtain ⟨yf, yt, yA, yn, yc, yl, yb⟩ := y
  simp only [Fl.cs, List.getElem?_cons_zero, List.getElem?_cons_succ] at e0 e1 e2 e3
  rw [Nat.add_zero] at e0
  simp only [Fl.v] at hraw hbad hyn hL
  subst hbad
  have q3 := hcell w1 hrb1 _ _ e3
  have c1 := hN1.c.c1
  have hii : (i : Int) < (fl.length : Int) := by omega
  have hsp := fun W hrW => spoilt_n yA yn yc yl hraw.1 (by omega) cut sx sm hx1 hx2 hm W hrW L k hL hk
  have hrr : RdC w yA (u8v yl) := rd_of_own hraw.2 rfl
  have hfit : i * 4 + 4 ≤ cur.size := by rw [hcz]; omega
  have hcurl : cur.toList.length = c * 4 := by rw [Array.length_toList, hcz]
  have HS := Lib.hid hset
  have HC := Lib.hid hcell
  have HE := Lib.hid (And.intro e0 (And.intro e1 e2))
  clear hset hcell e0 e1 e2 e3
  go_enter Try.func23, Try.ntmps23
  go_wp2_with fail
  rw [← hw1]
  clear hw1
  refine hrdy.mono ?_
  rintro e w' ⟨rfl, hw'⟩
  rw [hw']
  clear hw' hrdy
  go_upto_region 6 with fail
  have hz1 := lt_get h1
  refine nspoil6 g w.heap.size rb i fl.length c yn yc w1.heap.size k sm cut sx yA cur L yf yt w1 (Nat.le_refl _) (by omega) (fun W hb => hsp W (hrr.below (below_then hb1 hb (Nat.le_refl _)))) hfit (fun W hb => (hb.block _ hz1).trans h1) (fun W hb => (hb.block _ (lt_get hrb1)).trans hrb1) (fun W hb => (hN1.below hb).c.c1) (fun W hb => HC.out W ((hb.block _ (lt_get hrb1)).trans hrb1) _ _ HE.out.1) (fun W hb => HC.out W ((hb.block _ (lt_get hrb1)).trans hrb1) _ _ HE.out.2.1) (fun W hb => HC.out W ((hb.block _ (lt_get hrb1)).trans hrb1) _ _ HE.out.2.2) fun w5 r55 r56 A2 c2 hb5 ho5 => ?_
  have hb05 := below_then hb1 hb5 (Nat.le_refl _)
  have hN5 := hN.below hb05
  have hr5 : w5.heap[rb]? = some (.cells cur 74 (0, 0)) := (hb05.block _ hrl).trans hrb
  go_wp2_with fail
  go_ret
  have hoth : ∀ b, b ≠ rb → (w5.setRow rb (cur.toList.take (i * 4) ++ [Value.int IntKind.i64 yf, Value.int IntKind.i64 yt, Value.slice A2 k c2, Value.bool true] ++ cur.toList.drop (i * 4 + 4)).toArray).heap[b]? = w5.heap[b]? := fun b hb => setRow_other w5 rb b _ hb
  have hnew := setRow_heap w5 rb cur (cur.toList.take (i * 4) ++ [Value.int IntKind.i64 yf, Value.int IntKind.i64 yt, Value.slice A2 k c2, Value.bool true] ++ cur.toList.drop (i * 4 + 4)).toArray 74 (0, 0) hr5
  have hsz : (w5.setRow rb (cur.toList.take (i * 4) ++ [Value.int IntKind.i64 yf, Value.int IntKind.i64 yt, Value.slice A2 k c2, Value.bool true] ++ cur.toList.drop (i * 4 + 4)).toArray).heap.size = w5.heap.size := by simp [World.setRow]
  generalize hw6 : w5.setRow rb (cur.toList.take (i * 4) ++ [Value.int IntKind.i64 yf, Value.int IntKind.i64 yt, Value.slice A2 k c2, Value.bool true] ++ cur.toList.drop (i * 4 + 4)).toArray = w6 at *
  refine ⟨rfl, A2, c2, ⟨(hoth g (Ne.symm hrg)).trans hN5.c, ?_, fun z hz => ?_, ?_, hN.hB⟩, ?_⟩
  · rw [List.length_set, HS.out]
    refine ⟨?_, .inr ⟨rb, c, _, rfl, hBr, hnew, hnc, hcm, ?_, ?_⟩⟩
    · simp [hlen, Fl.cs]; omega
    · rw [List.size_toArray, List.length_append, List.length_append, List.length_take, List.length_drop, hcurl]; simp; omega
    · exact take_row cur.toList (flC fl) [Value.int IntKind.i64 yf, Value.int IntKind.i64 yt, Value.slice A2 k c2, Value.bool true] (fl.length * 4) (i * 4) hct (by rw [hcurl]; omega) (by simp; omega)
  · have hne : ∀ (v' : Value) (n' : Nat) (l' : List UInt8) (B' : Nat), w5.ownsRow B' 5 1 v' n' (u8v l') → w6.ownsRow B' 5 1 v' n' (u8v l') := fun v' n' l' B' h => own_of_block h fun b hb => hoth b fun e => own_ne h hr5 (by decide) (by rw [hb, e])
    rcases List.mem_or_eq_of_mem_set hz with hz | rfl
    · exact ⟨(hN5.raw z hz).1, hne _ _ _ _ (hN5.raw z hz).2⟩
    · exact ⟨hk, own_mono (hne _ _ _ _ ho5) (Nat.le_trans hBw hb1.size)⟩
  · refine apart_set hN.apart fun z hz b hb e => ?_
    have h2 := ((hN.raw z hz).2.lt b hb).2
    have h3 := (ho5.lt b e).1
    have := hb1.size
    omega
  · have hos : w6.os = w5.os ∧ w6.tape = w5.tape ∧ w6.output = w5.output := by rw [← hw6]; exact ⟨rfl, rfl, rfl⟩
    exact ⟨hos.1.trans hb05.os, hos.2.1.trans hb05.tape, hos.2.2.trans hb05.output, by rw [hsz]; exact hb05.size, fun b hb he => (hoth b fun e => he (by rw [e]; rfl)).trans (hb05.block b hb)⟩
set_option maxRecDepth 100000 in
set_option maxHeartbeats 4000000 in
theorem spoil_bad (g : Nat) (room : Int) (A : Option Addr) (n c : Nat) (s d x : Int) (w : World) (h : NetC g room (.slice A n c) s d x w) (hr : 1 ≤ room) (i : Int) (hn : (n : Int) ≤ 9223372036854775807) (hbad : i < 0 ∨ (n : Int) ≤ i) (cut : Bool) (sx : Int) (sm : Nat) :
    Calls Try.prog 23 #[.pointer (some ⟨g, 0, none⟩), .int .i64 i, .agg #[.bool cut, .int .i64 sx, .int .u32 sm]] w fun e w' => e = .returned (.int .i64 280) ∧ Below w.heap.size w w' := by
  obtain ⟨w1, hw1⟩ : ∃ w1, w1 = w.alloc (.cells #[.bool cut, .int .i64 sx, .int .u32 sm] 25) := ⟨_, rfl⟩
  have hb1 : Below w.heap.size w w1 := by rw [hw1]; exact (Below.refl _ _).alloc (Nat.le_refl _) _
  have h1 : NetC g room (.slice A n c) s d x w1 := (hb1.block g (lt_get h)).trans h
  have hrdy := ready_any g room A n c s d x w1 h1 hr i hn
  have hrE : readyE n i = 280 := by unfold readyE; rw [if_pos hbad]
  rw [hrE] at hrdy
  go_enter Try.func23, Try.ntmps23
  go_wp2_with fail
  rw [← hw1]
  clear hw1
  refine hrdy.mono ?_
  rintro e w' ⟨rfl, hw'⟩
  rw [hw']
  clear hw' hrdy
  go_wp2_with fail
  go_ret
  exact ⟨rfl, hb1⟩
set_option maxRecDepth 100000 in
set_option maxHeartbeats 4000000 in
theorem spoil_twice (B g : Nat) (room : Int) (v : Value) (s d x : Int) (fl : List Fl) (w : World) (hN : NetAt B g room v s d x fl w) (hfl : fl.length ≤ 5000) (hr1 : 1 ≤ room) (i : Nat) (hi : i < fl.length) (cut : Bool) (sx : Int) (sm : Nat) (hbad : (fl[i]).bad = true) :
    Calls Try.prog 23 #[.pointer (some ⟨g, 0, none⟩), .int .i64 (i : Int), .agg #[.bool cut, .int .i64 sx, .int .u32 sm]] w fun e w' => e = .returned (.int .i64 280) ∧ Below w.heap.size w w' := by
  obtain ⟨rb, c, rfl, hnc, hcm, hBr, hrl, hrd⟩ := hN.rowAt (by omega)
  have hcmi : (c : Int) ≤ 9223372036854775807 := by unfold maxLen at hcm; omega
  obtain ⟨w1, hw1⟩ : ∃ w1, w1 = w.alloc (.cells #[.bool cut, .int .i64 sx, .int .u32 sm] 25) := ⟨_, rfl⟩
  have hb1 : Below w.heap.size w w1 := by rw [hw1]; exact (Below.refl _ _).alloc (Nat.le_refl _) _
  have hN1 := hN.below hb1
  have hrdy := ready_any g room (some ⟨rb, 0, none⟩) fl.length c s d x w1 hN1.c hr1 i (by omega)
  have hrE : readyE fl.length (i : Int) = 0 := by unfold readyE; rw [if_neg (by omega)]
  rw [hrE] at hrdy
  have e3 := flC_get fl i hi 3 (by omega)
  have q3 := (hb1.cell (World.block_lt_of_cell? w _ (hrd _ _ e3))).trans (hrd _ _ e3)
  generalize fl[i] = y at *
  obtain ⟨yf, yt, yA, yn, yc, yl, yb⟩ := y
  simp only at hbad
  subst hbad
  have c1 := hN1.c.c1
  have hii : (i : Int) < (fl.length : Int) := by omega
  clear e3 hrd
  go_enter Try.func23, Try.ntmps23
  go_wp2_with fail
  rw [← hw1]
  clear hw1
  refine hrdy.mono ?_
  rintro e w' ⟨rfl, hw'⟩
  rw [hw']
  clear hw' hrdy
  go_wp2_with fail
  go_ret
  exact ⟨rfl, hb1⟩
end Go.Proofs.Ytfojlmnlolnilaa
