/- The law SumNames, walked (closed). -/
import Derived.Test.YtnpdbnphoifjlaaSumLaw4
namespace Go.Proofs.Ytnpdbnphoifjlaa
open Go.RowKit

theorem mk_any (n : Nat) (h : n ≤ 4194305) : ∃ O : Obj, O = .cells (madeCells #[.int .u8 0] n) 5 ∧ ∀ W : World, (Instr.makeSlice 22 (.int .i64 (n : Int)) (.int .i64 (n : Int))).run Try.prog W = .ok (.slice (some ⟨W.heap.size, 0, none⟩) n n) (W.alloc O) := by
  obtain ⟨i0, hi, hz0, hz1, hz2⟩ := info_parts elt8.hi
  refine ⟨_, rfl, fun W => ?_⟩
  have := run_make (P := Try.prog) W 22 5 i0 (.int .u8 0) Try.underlying22 hi hz0 .i64 .i64 n n (by omega) (Int.le_refl _) (by rw [hz2]; omega) (by omega)
  simp only [Int.toNat_natCast] at this
  rw [this, hz1, Nat.mul_one]
  rfl
theorem i64_xor_small (a b : Nat) (ha : a < 256) (hb : b < 256) : bits .xor .i64 (a : Int) (b : Int) = ((a ^^^ b : Nat) : Int) := by
  have hx : a ^^^ b < 2 ^ 8 := Nat.xor_lt_two_pow (by omega) (by omega)
  show IntKind.i64.wrap ((BitVec.ofInt 64 (a : Int) ^^^ BitVec.ofInt 64 (b : Int)).toNat : Int) = _
  rw [BitVec.toNat_xor, ofInt_u64 a (by omega), ofInt_u64 b (by omega), IntKind.wrap_i64]
  omega
theorem rows_xor (i k : Nat) (hi : i < 256) (hk : k < 256) : bits .xor .u32 (rowN i : Int) (rowN k : Int) = ((rowN (i ^^^ k) : Nat) : Int) := by
  rw [u32_xor_nat _ _ (rowN_lt i (by omega)) (rowN_lt k (by omega))]
  unfold rowN
  rw [iterN_xor]
theorem un_zero8 : unwrapB (List.replicate 8 0) = none := by decide +kernel
theorem un_great : unwrapB [255, 255, 255, 255, 0, 0, 0, 0] = none := by decide +kernel
theorem un_turned : unwrapB ((wrapB [97, 98]).set 0 1) = none := by decide +kernel
theorem rows_three : rowN 0 = 0 ∧ rowN 128 = 3988292384 ∧ rowN 255 = 755167117 := by decide +kernel

theorem first_yes' (A : Option Addr) (n c : Nat) (b x r : List UInt8) (hx : firstB b = some (x, r)) (hn0 : b.length = n) (w : World) (hr : RdC w A (u8v b)) (hl2 : n ≤ 140737488355328) (hc : n ≤ c) :
    Calls Try.prog 17 #[.slice A n c] w fun e w' => (∃ A c A2 c2, e = .returned (.tuple #[.slice A x.length c, .slice A2 r.length c2, .int .i64 0]) ∧ RdC w' A (u8v x) ∧ RdC w' A2 (u8v r) ∧ r.length ≤ c2) ∧ Below w.heap.size w w' :=
  (first_any A n c b hn0 w hr hl2 hc).mono fun e w' h => by
    rcases h with ⟨x', r', v1, v2, hx', rfl, ⟨A1, c1, rfl, _, _, h1, _⟩, ⟨A2, c2, rfl, h2c, _, h2, _⟩, hb⟩ | ⟨h, _⟩
    · rw [hx] at hx'
      simp only [Option.some.injEq, Prod.mk.injEq] at hx'
      obtain ⟨rfl, rfl⟩ := hx'
      exact ⟨⟨_, _, _, _, rfl, h1, h2, h2c⟩, hb⟩
    · rw [hx] at h; cases h
theorem wrap_at (A : Option Addr) (n c : Nat) (l : List UInt8) (hn0 : l.length = n) (w : World) (hr : RdC w A (u8v l)) (hl : n ≤ 4194304) :
    Calls Try.prog 16 #[.slice A n c] w fun e w' => (∃ A c, e = .returned (.tuple #[.slice A (n + 8) c, .int .i64 0]) ∧ RdC w' A (u8v (wrapB l)) ∧ n + 8 ≤ c) ∧ Below w.heap.size w w' := by
  subst hn0
  refine (wrap_any A c l w hr hl).mono fun e w' ⟨⟨v, he, A1, c1, hv, h1, h2, h3, _⟩, hb⟩ => ?_
  subst hv
  rw [wrapB_length] at he h1
  exact ⟨⟨_, _, he, h3, h1⟩, hb⟩
theorem unwrap_at (A : Option Addr) (n c : Nat) (b x : List UInt8) (m : Nat) (hx : unwrapB b = some x) (hm : x.length = m) (hn0 : b.length = n) (w : World) (hr : RdC w A (u8v b)) (hl2 : n ≤ 140737488355328) (hc : n ≤ c) :
    Calls Try.prog 19 #[.slice A n c] w fun e w' => (∃ A c, e = .returned (.tuple #[.slice A m c, .int .i64 0]) ∧ RdC w' A (u8v x)) ∧ Below w.heap.size w w' :=
  (unwrap_any A n c b hn0 w hr hl2 hc).mono fun e w' h => by
    subst hm
    rcases h with ⟨y, v, hy, rfl, ⟨A', c', rfl, _, _, h, _⟩, hb⟩ | ⟨h, _⟩
    · rw [hx] at hy
      simp only [Option.some.injEq] at hy
      subst hy
      exact ⟨⟨_, _, rfl, h⟩, hb⟩
    · rw [hx] at h; cases h
theorem first_at (A : Option Addr) (n c : Nat) (b x r : List UInt8) (m k : Nat) (hx : firstB b = some (x, r)) (hm : x.length = m) (hk : r.length = k) (hn0 : b.length = n) (w : World) (hr : RdC w A (u8v b)) (hl2 : n ≤ 140737488355328) (hc : n ≤ c) :
    Calls Try.prog 17 #[.slice A n c] w fun e w' => (∃ A c A2 c2, e = .returned (.tuple #[.slice A m c, .slice A2 k c2, .int .i64 0]) ∧ RdC w' A (u8v x) ∧ RdC w' A2 (u8v r) ∧ k ≤ c2) ∧ Below w.heap.size w w' := by
  subst hm hk
  exact first_yes' A n c b x r hx hn0 w hr hl2 hc
theorem str_at {w : World} {A : Option Addr} {n c : Nat} {l : List UInt8} (hl : l.length = n) (hr : RdC w A (u8v l)) : (convert 22 9 (.slice A n c)).run Try.prog w = .ok (.string (bstr l)) w := by
  rw [← hl]
  exact run_string_of (P := Try.prog) w 22 9 5 Try.underlying22 Try.underlying5 Try.underlying9 A l c hr
theorem own_empty (w : World) : (w.alloc (Obj.cells #[] 5)).ownsRow w.heap.size 5 1 (.slice (some ⟨w.heap.size, 0, none⟩) 0 0) 0 [] := World.ownsRow_lit w #[] 0 (Nat.le_refl _) (by unfold maxLen; omega) rfl
theorem rd_lit2 {w : World} {g : Nat} {t : TypeId} {fr : Nat × Nat} (h : w.heap[g]? = some (.cells #[.int .u8 97, .int .u8 98] t fr)) : RdC w (some ⟨g, 0, none⟩) (u8v [97, 98]) := fun j u hj => by
  refine ⟨_, rfl, ?_⟩
  rw [addr_add_plain, Nat.zero_add, cell_of_row _ _ j _ _ _ h, ← hj, ← Array.getElem?_toList]
  rfl
theorem rd_lit1 {w : World} {g : Nat} {t : TypeId} (h : w.heap[g]? = some (.cells #[.int .u8 0] t (0, 0))) : RdC w (some ⟨g, 0, none⟩) (u8v [0]) := fun j u hj => by
  refine ⟨_, rfl, ?_⟩
  rw [addr_add_plain, Nat.zero_add, cell_of_row _ _ j _ _ _ h, ← hj, ← Array.getElem?_toList]
  rfl
theorem rd_lit8 {w : World} {g : Nat} {t : TypeId} (h : w.heap[g]? = some (.cells #[.int .u8 255, .int .u8 255, .int .u8 255, .int .u8 255, .int .u8 0, .int .u8 0, .int .u8 0, .int .u8 0] t (0, 0))) : RdC w (some ⟨g, 0, none⟩) (u8v [255, 255, 255, 255, 0, 0, 0, 0]) := fun j u hj => by
  refine ⟨_, rfl, ?_⟩
  rw [addr_add_plain, Nat.zero_add, cell_of_row _ _ j _ _ _ h, ← hj, ← Array.getElem?_toList]
  rfl
theorem rd_zeros {w : World} {g : Nat} {n : Nat} {t : TypeId} (h : w.heap[g]? = some (.cells (madeCells #[.int .u8 0] n) t (0, 0))) : RdC w (some ⟨g, 0, none⟩) (u8v (List.replicate n 0)) := fun j u hj => by
  refine ⟨_, rfl, ?_⟩
  rw [addr_add_plain, Nat.zero_add, cell_of_row _ _ j _ _ _ h, ← hj, ← Array.getElem?_toList, toList_madeCells_one]
  simp [u8v]
theorem first_two : firstB (wrapB [97, 98] ++ wrapB []) = some ([97, 98], wrapB []) := firstB_wrap _ _ (by decide)
theorem first_nil : firstB (wrapB []) = some ([], []) := by
  have := firstB_wrap [] [] (by decide)
  rwa [List.append_nil] at this

set_option maxRecDepth 20000 in
set_option maxHeartbeats 4000000 in
theorem sumNames_walk (w : World) :
    Calls Try.prog 8 #[] w fun e w' => e = .returned (.bool true) ∧ Below w.heap.size w w' := by
  have kc := fun (w : World) (C : Array Value) (n c : Nat) => Lib.run_convert_bytes_const (P := Try.prog) w 22 5 C n c Try.underlying22 Try.underlying5
  obtain ⟨Z8, hZ8, mk8⟩ := mk_any 8 (by omega)
  obtain ⟨ZG, hZG, mkG⟩ := mk_any 4194305 (by omega)
  have HZ8 := Lib.hid hZ8
  clear hZ8 hZG
  have mk8' : ∀ W : World, (Instr.makeSlice 22 (.int .i64 8) (.int .i64 8)).run Try.prog W = .ok (.slice (some ⟨W.heap.size, 0, none⟩) 8 8) (W.alloc Z8) := mk8
  have mkG' : ∀ W : World, (Instr.makeSlice 22 (.int .i64 4194305) (.int .i64 4194305)).run Try.prog W = .ok (.slice (some ⟨W.heap.size, 0, none⟩) 4194305 4194305) (W.alloc ZG) := mkG
  clear mk8 mkG
  go_enter Try.func8, Try.ntmps8
  go_wp2_with fail
  refine (wrap_at (some ⟨w.heap.size, 0, none⟩) 2 2 [97, 98] rfl (w.alloc (.cells #[.int .u8 97, .int .u8 98] 5 (2, 3))) (rd_lit2 (heap_alloc_new w _)) (by omega)).mono ?_
  rintro e w1 ⟨⟨A1, c1, rfl, hr1, hc1⟩, hb1⟩
  replace hb1 := below_then ((Below.refl _ w).alloc (Nat.le_refl _) (.cells #[.int .u8 97, .int .u8 98] 5 (2, 3))) hb1 (Nat.le_refl _)
  clear kc
  go_wp2_with fail
  refine (wrap_at none 0 0 [] rfl w1 (RdC.nil _ _) (by omega)).mono ?_
  rintro e w2 ⟨⟨A2, c2, rfl, hr2, hc2⟩, hb2⟩
  replace hr1 := hr1.below hb2
  have hB := below_then hb1 hb2 (Nat.le_refl _)
  clear hb1 hb2
  go_wp2_with fail
  refine (unwrap_at A1 10 c1 (wrapB [97, 98]) [97, 98] 2 (unwrapB_wrap _ (by decide)) rfl rfl w2 hr1 (by omega) hc1).mono ?_
  rintro e w3 ⟨⟨A3, c3, rfl, hr3⟩, hb3⟩
  replace hr1 := hr1.below hb3
  replace hr2 := hr2.below hb3
  replace hB := below_then hB hb3 (Nat.le_refl _)
  clear hb3
  -- e2: with a byte more
  have o0 := own_empty w3
  go_wp2_with (at_builtin; refine wpList_app elt8 rfl (.tmp 56) (.tmp 57) rfl w3.heap.size (.slice (some ⟨w3.heap.size, 0, none⟩) 0 0) 0 [] rfl o0 A1 10 c1 (u8v (wrapB [97, 98])) rfl rfl (hr1.alloc _) (u8v_one _) ?_ ?_ (by simp) ?_)
  case refine_1 => unfold maxLen; omega
  case refine_2 => omega
  intro v4 w4 o4 g4
  have b4 := below_grown ((Below.refl _ w3).alloc (Nat.le_refl _) (Obj.cells #[] 5)) o0 g4 (by simp) (Nat.le_refl _)
  clear o0 g4
  go_wp2_with (at_builtin; refine wpList_app elt8 rfl (.tmp 58) (.tmp 59) rfl w3.heap.size v4 10 _ rfl (own_below o4 ((Below.refl _ w4).alloc (Nat.le_refl _) _)) (some ⟨w4.heap.size, 0, none⟩) 1 1 (u8v [0]) rfl rfl (rd_lit1 (heap_alloc_new w4 _)) (u8v_one _) ?_ ?_ ?_ ?_)
  case refine_1 => unfold maxLen; omega
  case refine_2 => omega
  case refine_3 => have := b4.size; simp; omega
  intro v5 w5 o5 g5
  have b5 := below_grown (b4.alloc b4.size (Obj.cells #[.int .u8 0] 5)) (own_below o4 ((Below.refl _ w4).alloc (Nat.le_refl _) _)) g5 (by have := b4.size; simp; omega) (Nat.le_refl _)
  obtain ⟨A5, c5, rfl, hc5, _, hr5, _⟩ := RdC.of_own o5
  clear o4 o5 g5 b4
  rw [← u8v_append] at hr5
  replace hr1 := hr1.below b5
  replace hr2 := hr2.below b5
  replace hr3 := hr3.below b5
  replace hB := below_then hB b5 (Nat.le_refl _)
  clear b5
  go_wp2_with fail
  refine (unwrap_no A5 11 c5 (wrapB [97, 98] ++ [0]) (unwrapB_more _ _ (by decide) (by decide)) rfl w5 hr5 (by omega) hc5).mono ?_
  rintro e w6 ⟨⟨_, _, _, rfl⟩, b6⟩
  clear hr5
  replace hr1 := hr1.below b6
  replace hr2 := hr2.below b6
  replace hr3 := hr3.below b6
  replace hB := below_then hB b6 (Nat.le_refl _)
  clear b6
  -- e3: cut
  have s1 := run_sub_h (P := Try.prog) w6 22 A1 10 c1 1 Try.underlying22 (Try.sizeOf5 w6) 9 9 rfl (by omega)
  go_wp2_with fail
  refine (unwrap_no A1 9 c1 ((wrapB [97, 98]).take 9) (unwrapB_cut _ (by decide) 9 (by decide)) rfl w6 (by rw [← u8v_take]; exact hr1.take _) (by omega) (by omega)).mono ?_
  rintro e w7 ⟨⟨_, _, _, rfl⟩, b7⟩
  clear s1
  replace hr1 := hr1.below b7
  replace hr2 := hr2.below b7
  replace hr3 := hr3.below b7
  replace hB := below_then hB b7 (Nat.le_refl _)
  clear b7
  -- e4: none
  go_wp2_with fail
  refine (unwrap_no none 0 0 [] (by decide +kernel) rfl w7 (RdC.nil _ _) (by omega) (by omega)).mono ?_
  rintro e w8 ⟨⟨_, _, _, rfl⟩, b8⟩
  replace hr1 := hr1.below b8
  replace hr2 := hr2.below b8
  replace hr3 := hr3.below b8
  replace hB := below_then hB b8 (Nat.le_refl _)
  clear b8
  -- e5: noughts
  go_wp2_with fail
  refine (unwrap_no (some ⟨w8.heap.size, 0, none⟩) 8 8 (List.replicate 8 0) un_zero8 rfl (w8.alloc Z8) (rd_zeros (by rw [HZ8.out]; exact heap_alloc_new w8 _)) (by omega) (by omega)).mono ?_
  rintro e w9 ⟨⟨_, _, _, rfl⟩, b9⟩
  replace b9 := below_then ((Below.refl _ w8).alloc (Nat.le_refl _) Z8) b9 (Nat.le_refl _)
  replace hr1 := hr1.below b9
  replace hr2 := hr2.below b9
  replace hr3 := hr3.below b9
  replace hB := below_then hB b9 (Nat.le_refl _)
  clear b9
  -- e6: two of them
  have o0 := own_empty w9
  go_wp2_with (at_builtin; refine wpList_app elt8 rfl (.tmp 80) (.tmp 81) rfl w9.heap.size (.slice (some ⟨w9.heap.size, 0, none⟩) 0 0) 0 [] rfl o0 A1 10 c1 (u8v (wrapB [97, 98])) rfl rfl (hr1.alloc _) (u8v_one _) ?_ ?_ (by simp) ?_)
  case refine_1 => unfold maxLen; omega
  case refine_2 => omega
  intro v4 wa o4 g4
  have b4 := below_grown ((Below.refl _ w9).alloc (Nat.le_refl _) (Obj.cells #[] 5)) o0 g4 (by simp) (Nat.le_refl _)
  clear o0 g4
  go_wp2_with (at_builtin; refine wpList_app elt8 rfl (.tmp 82) (.tmp 83) rfl w9.heap.size v4 10 _ rfl o4 A2 8 c2 (u8v (wrapB [])) rfl rfl (hr2.below b4) (u8v_one _) ?_ ?_ b4.size ?_)
  case refine_1 => unfold maxLen; omega
  case refine_2 => omega
  intro v5 wb o5 g5
  have b5 := below_grown b4 o4 g5 b4.size (Nat.le_refl _)
  obtain ⟨A5, c5, rfl, hc5, _, hr5, _⟩ := RdC.of_own o5
  clear o4 o5 g5 b4
  rw [← u8v_append] at hr5
  replace hr1 := hr1.below b5
  replace hr2 := hr2.below b5
  replace hr3 := hr3.below b5
  replace hB := below_then hB b5 (Nat.le_refl _)
  clear b5
  go_wp2_with fail
  refine (first_at A5 18 c5 (wrapB [97, 98] ++ wrapB []) [97, 98] (wrapB []) 2 8 first_two rfl rfl rfl wb hr5 (by omega) hc5).mono ?_
  rintro e wc ⟨⟨A6, c6, A7, c7, rfl, hr6, hr7, hc7⟩, b6⟩
  clear hr5
  replace hr1 := hr1.below b6
  replace hr3 := hr3.below b6
  replace hB := below_then hB b6 (Nat.le_refl _)
  clear b6 hr2
  go_wp2_with fail
  refine (first_at A7 8 c7 (wrapB []) [] [] 0 0 first_nil rfl rfl rfl wc hr7 (by omega) hc7).mono ?_
  rintro e wd ⟨⟨A8, c8, A9, c9, rfl, _, _, _⟩, b7⟩
  replace hr1 := hr1.below b7
  replace hr3 := hr3.below b7
  replace hr6 := hr6.below b7
  replace hB := below_then hB b7 (Nat.le_refl _)
  clear b7 hr7
  -- e8: too much
  go_wp2_with fail
  refine (wrap_most (some ⟨wd.heap.size, 0, none⟩) 4194305 4194305 (wd.alloc ZG) (by omega)).mono ?_
  rintro e we ⟨rfl, rfl⟩
  have be := (Below.refl _ wd).alloc (Nat.le_refl _) ZG
  replace hr1 := hr1.below be
  replace hr3 := hr3.below be
  replace hr6 := hr6.below be
  replace hB := below_then hB be (Nat.le_refl _)
  clear be
  obtain ⟨wf, hwf⟩ : ∃ wf, wf = wd.alloc ZG := ⟨_, rfl⟩
  rw [← hwf] at hr1 hr3 hr6 hB ⊢
  clear hwf
  -- e9: a great length
  go_wp2_with fail
  refine (unwrap_no (some ⟨wf.heap.size, 0, none⟩) 8 8 [255, 255, 255, 255, 0, 0, 0, 0] un_great rfl _ (rd_lit8 (heap_alloc_new wf _)) (by omega) (by omega)).mono ?_
  rintro e wg ⟨⟨_, _, _, rfl⟩, b9⟩
  replace b9 := below_then ((Below.refl _ wf).alloc (Nat.le_refl _) _) b9 (Nat.le_refl _)
  replace hr1 := hr1.below b9
  replace hr3 := hr3.below b9
  replace hr6 := hr6.below b9
  replace hB := below_then hB b9 (Nat.le_refl _)
  clear b9
  -- turned
  have o0 := own_empty wg
  go_wp2_with (at_builtin; refine wpList_app elt8 rfl (.tmp 105) (.tmp 106) rfl wg.heap.size (.slice (some ⟨wg.heap.size, 0, none⟩) 0 0) 0 [] rfl o0 A1 10 c1 (u8v (wrapB [97, 98])) rfl rfl (hr1.alloc _) (u8v_one _) ?_ ?_ (by simp) ?_)
  case refine_1 => unfold maxLen; omega
  case refine_2 => omega
  intro v4 wh o4 g4
  have b4 := below_grown ((Below.refl _ wg).alloc (Nat.le_refl _) (Obj.cells #[] 5)) o0 g4 (by simp) (Nat.le_refl _)
  obtain ⟨gt, ct, rfl⟩ := Joins.ownsRow_form o4 (by omega)
  have hcell := o4.cells (g := gt) rfl 0 _ (u8v_get (wrapB [97, 98]) 0 (by decide))
  rw [addr_add_plain, Nat.zero_add] at hcell
  have hfro := o4.frozenAt 0
  have hst := o4.stored 0 (.int .u8 1)
  have b5 := below_grown b4 o4 hst.2 b4.size (Nat.le_refl _)
  have o5 : (wh.setCell ⟨gt, 0, none⟩ (.int .u8 1)).ownsRow wg.heap.size 5 1 (.slice (some ⟨gt, 0, none⟩) 10 ct) 10 (u8v ((wrapB [97, 98]).set 0 1)) := hst.1
  have ho5 := fun j u hj => o5.cells (g := gt) rfl j u hj
  have hct : 10 ≤ ct := by obtain ⟨_, _, he, h, _⟩ := RdC.of_own o5; cases he; exact h
  clear o0 g4 hst o4 o5 b4
  obtain ⟨wi, hwi⟩ : ∃ wi, wi = wh.setCell ⟨gt, 0, none⟩ (.int .u8 1) := ⟨_, rfl⟩
  go_wp2_with fail
  rw [← hwi] at ho5 b5 ⊢
  clear hwi hcell hfro
  replace hr3 := hr3.below b5
  replace hr6 := hr6.below b5
  replace hB := below_then hB b5 (Nat.le_refl _)
  clear b5 hr1
  refine (unwrap_no (some ⟨gt, 0, none⟩) 10 ct ((wrapB [97, 98]).set 0 1) un_turned rfl wi (fun j u hj => ⟨_, rfl, ho5 j u hj⟩) (by omega) hct).mono ?_
  rintro e wj ⟨⟨_, _, _, rfl⟩, b9⟩
  replace hr3 := hr3.below b9
  replace hr6 := hr6.below b9
  replace hB := below_then hB b9 (Nat.le_refl _)
  clear b9 ho5
  -- the table
  go_wp2_with fail
  refine (table_any wj).mono ?_
  rintro e wk ⟨rfl, b1⟩
  replace hr3 := hr3.below b1
  replace hr6 := hr6.below b1
  replace hB := below_then hB b1 (Nat.le_refl _)
  clear b1
  obtain ⟨Z, hZ, hZs⟩ : ∃ Z : Array Value, (Try.prog.info? 28).bind (fun i => i.zero.map Value.cells) = some Z ∧ Z.size = 256 := ⟨_, zero256, by simp⟩
  have hg0 : (wk.alloc (.cells Z 28)).heap[wk.heap.size]? = some (.cells Z 28 (0, 0)) := heap_alloc_new _ _
  have hg1 := setRow_heap (wk.alloc (.cells Z 28)) wk.heap.size Z tabV _ _ hg0
  have hB1 := below_setRow (hB.alloc hB.size (.cells Z 28)) hB.size tabV
  have hbk := below_setRow ((Below.refl _ wk).alloc (Nat.le_refl _) (.cells Z 28)) (Nat.le_refl _) tabV
  replace hr3 := hr3.below hbk
  replace hr6 := hr6.below hbk
  clear hbk
  have hcT : ∀ (W : World) (g i : Nat), W.heap[g]? = some (.cells tabV 28 (0, 0)) → i < 256 → W.cell? ⟨g, i, none⟩ = some (.int .u32 (rowN i : Int)) := fun W g i h hi => by
    rw [cell_of_row _ _ i _ _ _ h]
    exact tabV_get i hi
  have hT0 := hcT _ _ 0 hg1 (by omega)
  have hT1 := hcT _ _ 128 hg1 (by omega)
  have hT2 := hcT _ _ 255 hg1 (by omega)
  rw [rows_three.1] at hT0
  rw [rows_three.2.1] at hT1
  rw [rows_three.2.2] at hT2
  go_wp2_with (first
    | (with_reducible refine wpList_alloc_z rfl 28 rfl Z hZ ?_)
    | (with_reducible refine wpList_store_z rfl 28 (.tmp 28) (.tmp 115) rfl _ rfl tabV rfl Z _ hg0 (by rw [tabV_size, hZs]) (by kernel_rfl) tabV_one ?_)
    | fail)
  clear hT0 hT1 hT2
  obtain ⟨wl, hwl⟩ : ∃ wl, wl = (wk.alloc (.cells Z 28)).setRow wk.heap.size tabV := ⟨_, rfl⟩
  rw [← hwl] at hg1 hB1 hr3 hr6 ⊢
  clear hwl hg0 hB hZ hZs
  go_loopw [29, 30] (fun r i wr => r = .bool true ∧ ∃ k : Nat, k ≤ 256 ∧ i = .int .i64 k ∧ Below wl.heap.size wl wr) (fun _ i _ => 256 - (intOf i).toNat)
  case atStart => exact ⟨rfl, 0, by omega, rfl, Below.refl _ _⟩
  case round =>
    obtain ⟨rfl, k, hk, rfl, hbr⟩ := hrel
    by_cases hlt : k < 256
    · go_wp2_with fail
      go_loopw [29, 31] (fun r i wr => r = .bool true ∧ ∃ m : Nat, 1 ≤ m ∧ m ≤ 512 ∧ i = .int .i64 m ∧ Below wl.heap.size wl wr) (fun _ i _ => 512 - (intOf i).toNat)
      case atStart => exact ⟨rfl, 1, by omega, by omega, rfl, hbr⟩
      case round =>
        obtain ⟨rfl, m, hm1, hm2, rfl, hbr2⟩ := hrel
        by_cases hlt2 : m < 256
        · have hgk : wr.heap[wk.heap.size]? = some (.cells tabV 28 (0, 0)) := by
            rw [hbr2.block wk.heap.size (by
              rcases Nat.lt_or_ge wk.heap.size wl.heap.size with h | h
              · exact h
              · rw [Array.getElem?_eq_none h] at hg1; cases hg1)]
            exact hg1
          have hxk := i64_xor_small k m hlt hlt2
          have hx8 : k ^^^ m < 256 := Nat.xor_lt_two_pow (n := 8) hlt hlt2
          have t0 := hcT wr _ k hgk hlt
          have t1 := hcT wr _ m hgk hlt2
          have t2 := hcT wr _ (k ^^^ m) hgk hx8
          have hrx := rows_xor k m hlt hlt2
          generalize k ^^^ m = y at *
          go_wp2_with fail
          go_quiet (fail)
          go_wp2_with fail
          go_roundw
          case rel => exact ⟨by simp, 2 * m, by omega, by omega, by go_num, below_drewN hbr2 _⟩
          case measure => simp [intOf]; omega
        · go_wp2_with fail
          go_roundw
          case rel => exact ⟨rfl, k + 1, by omega, by go_num, hbr2⟩
          case measure => simp [intOf]; omega
    · obtain rfl : k = 256 := by omega
      replace hr3 := hr3.below hbr
      replace hr6 := hr6.below hbr
      replace hB1 := below_then hB1 hbr (Nat.le_refl _)
      go_wp2_with fail
      refine (alive_any wr).mono ?_
      rintro e wm ⟨rfl, bm⟩
      replace hr3 := hr3.below bm
      replace hr6 := hr6.below bm
      replace hB1 := below_then hB1 bm (Nat.le_refl _)
      have k1 := str_at (c := c3) (n := 2) rfl hr3
      have k2 := str_at (c := c6) (n := 2) rfl hr6
      have b1 : (bstr [97, 98]).toList = [97, 98] := bstr_toList _
      have kc := fun (w : World) (C : Array Value) (n c : Nat) => Lib.run_convert_bytes_const (P := Try.prog) w 22 5 C n c Try.underlying22 Try.underlying5
      go_wp2_with fail
      have q := on_any 0 (by omega) (some ⟨wm.heap.size, 0, none⟩) 9 9 [49, 50, 51, 52, 53, 54, 55, 56, 57] rfl (wm.alloc (Obj.cells #[.int .u8 49, .int .u8 50, .int .u8 51, .int .u8 52, .int .u8 53, .int .u8 54, .int .u8 55, .int .u8 56, .int .u8 57] 5 (9, 10))) (rd_lit9 (heap_alloc_new wm _)) (by omega)
      have ho : onN 0 [49, 50, 51, 52, 53, 54, 55, 56, 57] = 3421780262 := ofN_123
      rw [ho] at q
      refine q.mono ?_
      rintro e w' ⟨rfl, rfl⟩
      go_wp2_with fail
      go_ret
      exact ⟨by simp, hB1.alloc hB1.size _⟩
end Go.Proofs.Ytnpdbnphoifjlaa
