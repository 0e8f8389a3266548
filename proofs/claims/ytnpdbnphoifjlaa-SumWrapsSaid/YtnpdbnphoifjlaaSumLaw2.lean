/- The law SumWraps, walked. -/
import Derived.Test.YtnpdbnphoifjlaaSumV
namespace Go.Proofs.Ytnpdbnphoifjlaa
open Go.RowKit

theorem rd_sev {w : World} {g : Nat} {t : TypeId} (h : w.heap[g]? = some (.cells #[.int .u8 7] t (0, 0))) : RdC w (some ⟨g, 0, none⟩) (u8v [7]) := fun j u hj => by
  refine ⟨_, rfl, ?_⟩
  rw [addr_add_plain, Nat.zero_add, cell_of_row _ _ j _ _ _ h, ← hj, ← Array.getElem?_toList]
  rfl
theorem rd_four {w : World} {g : Nat} {t : TypeId} {a b c d : Value} (h : w.heap[g]? = some (.cells #[a, b, c, d] t (0, 0))) : ∀ j, w.cell? ⟨g, j, none⟩ = [a, b, c, d][j]? := fun j => by
  rw [cell_of_row _ _ j _ _ _ h, ← Array.getElem?_toList]
theorem beq_bytes (l : List UInt8) : (l == l) = true := by simp
/-- The string of a slice that reads as l. -/
theorem str_of {w : World} {A : Option Addr} {n c : Nat} {l : List UInt8} (hl : l.length = n) (hr : RdC w A (u8v l)) : (convert 22 9 (.slice A n c)).run Try.prog w = .ok (.string (bstr l)) w := by
  rw [← hl]
  exact run_string_of (P := Try.prog) w 22 9 5 Try.underlying22 Try.underlying5 Try.underlying9 A l c hr

theorem str_cat (l : List UInt8) (z : UInt8) : (bstr l ++ (⟨#[z]⟩ : ByteArray)).toList = l ++ [z] := by
  have : bstr l ++ (⟨#[z]⟩ : ByteArray) = bstr (l ++ [z]) := by
    apply ByteArray.ext
    simp [bstr]
  rw [this, bstr_toList]
theorem firstB_len {b x r : List UInt8} (h : firstB b = some (x, r)) : x.length ≤ b.length ∧ r.length ≤ b.length := by
  have h1 := firstB_rest h
  have h2 := congrArg List.length h1.1
  simp at h2
  omega
theorem flB_len (b : List UInt8) : (flB b).length ≤ b.length ∧ (frB b).length ≤ b.length ∧ (ulB b).length ≤ b.length := by
  unfold flB frB ulB unwrapB
  cases h : firstB b with
  | none => simp
  | some p =>
    obtain ⟨x, r⟩ := p
    have := firstB_len h
    cases r with
    | nil => simpa using this
    | cons a r => simpa using this
/-- What stays so while bytes of the call's own are written over. -/
def WrapI (w2 : World) (g : Nat) (L : List (Option Addr × Nat × Nat)) (wr : World) : Prop :=
  Below w2.heap.size w2 wr ∧ (∀ j, wr.cell? ⟨g, j, none⟩ = (L.map fun o => Value.slice o.1 o.2.1 o.2.2)[j]?) ∧ ∀ o ∈ L, Own8 w2.heap.size wr o.1 o.2.1
theorem WrapI.store {w2 : World} {g : Nat} {L : List (Option Addr × Nat × Nat)} {wr : World} (h : WrapI w2 g L wr) (b o : Nat) (hb : w2.heap.size ≤ b) {y : UInt8} (hy : wr.cell? ⟨b, o, none⟩ = some (.int .u8 (y.toNat : Int))) (z : UInt8) :
    WrapI w2 g L (wr.setCell ⟨b, o, none⟩ (.int .u8 (z.toNat : Int))) := by
  obtain ⟨h1, h2, h3⟩ := h
  refine ⟨h1.setCell hb _, fun j => ?_, fun x hx => (h3 x hx).store _ z⟩
  rw [World.cell?_setCell_other _ _ _ _ (fun e => ?_), h2]
  rw [e, h2, List.getElem?_map] at hy
  cases hL : L[j]? with
  | none => rw [hL] at hy; cases hy
  | some x => rw [hL] at hy; cases hy
theorem inc8 (z : UInt8) : ((z.toNat : Int) + 1) % 256 = ((z + 1).toNat : Int) := by
  rw [UInt8.toNat_add]
  have := z.toNat_lt
  simp

set_option maxRecDepth 20000 in
set_option maxHeartbeats 4000000 in
theorem sumWraps_walk (A : Option Addr) (n c : Nat) (l : List UInt8) (w : World) (h0 : ByteRow w A n c l) :
    Calls Try.prog 6 #[.slice A n c] w fun e w' => e = .returned (.bool true) ∧ Below w.heap.size w w' := by
  obtain ⟨hl, hc, hm, hr⟩ := h0
  by_cases hlen : 5000 < n
  · go_enter Try.func6, Try.ntmps6
    go_wp2_with fail
    go_ret
    exact ⟨rfl, Below.refl _ _⟩
  have HL := Lib.hid hl
  clear hl
  go_enter Try.func6, Try.ntmps6
  have ho0 : (w.alloc (Obj.cells #[] 5)).ownsRow w.heap.size 5 1 (.slice (some ⟨w.heap.size, 0, none⟩) 0 0) 0 [] := World.ownsRow_lit w #[] 0 (Nat.le_refl _) (by unfold maxLen; omega) rfl
  go_wp2_with (at_builtin; refine wpList_app elt8 rfl (.tmp 26) (.tmp 27) rfl w.heap.size (.slice (some ⟨w.heap.size, 0, none⟩) 0 0) 0 [] rfl ho0 A n c (u8v l) rfl ?_ (hr.alloc _) (u8v_one _) ?_ ?_ (by simp) ?_)
  case refine_1 => rw [u8v_length, HL.out]; simp
  case refine_2 => unfold maxLen; omega
  case refine_3 => omega
  intro v1 w1 ho1 hg1
  have hb1 := below_grown ((Below.refl _ w).alloc (Nat.le_refl _) (Obj.cells #[] 5)) ho0 hg1 (by simp) (Nat.le_refl _)
  clear ho0 hg1
  go_wp2_with (at_builtin; refine wpList_app elt8 rfl (.tmp 28) (.tmp 29) rfl w.heap.size v1 n _ rfl (own_below ho1 ((Below.refl _ w1).alloc (Nat.le_refl _) _)) (some ⟨w1.heap.size, 0, none⟩) 1 1 (u8v [7]) rfl rfl (rd_sev (heap_alloc_new w1 _)) (u8v_one _) ?_ ?_ ?_ ?_)
  case refine_1 => unfold maxLen; omega
  case refine_2 => omega
  case refine_3 => have := hb1.size; simp; omega
  intro v2 w2 ho2 hg2
  have hb2 := below_grown (hb1.alloc hb1.size (Obj.cells #[.int .u8 7] 5)) (own_below ho1 ((Below.refl _ w1).alloc (Nat.le_refl _) _)) hg2 (by have := hb1.size; simp; omega) (Nat.le_refl _)
  clear ho1 hg2 hb1
  obtain ⟨Ao, co, rfl, hco, hmo, hro, hBo⟩ := RdC.of_own ho2
  clear hBo ho2
  rw [← u8v_append] at hro
  replace hr := hr.below hb2
  have hz2 := hb2.size
  have hrn : RdC w2 Ao (u8v l) := by
    have := hro.take n
    rw [u8v_take] at this
    rwa [List.take_left' HL.out] at this
  have s1 := fun W => run_sub_h (P := Try.prog) W 22 Ao (n + 1) co 1 Try.underlying22 (Try.sizeOf5 W) (n : Int) n rfl (by omega)
  go_wp2_with fail
  have q1 := wrap_any Ao co l w2 hrn (by have := HL.out; omega)
  rw [HL.out] at q1
  refine q1.mono ?_
  rintro e w3 ⟨⟨v, rfl, hf⟩, hb3⟩
  obtain ⟨A3, n3, c3, rfl, hf3⟩ := FreshS.of hf
  clear hf q1
  go_wp2_with fail
  refine (rwrap_any A n c l HL.out w3 (hr.below hb3) (by omega)).mono ?_
  rintro e w4 ⟨⟨v, rfl, ho⟩, hb4⟩
  obtain ⟨A4, c4, rfl, hc4, hm4, hr4, hB4⟩ := RdC.of_own ho
  clear hB4 ho
  have hbw4 := below_then hb3 hb4 (Nat.le_refl _)
  go_wp2_with fail
  refine (unwrap_uni Ao n co l HL.out w4 (hrn.below hbw4) (by omega) (by omega)).mono ?_
  rintro e w5 ⟨⟨A5, n5, c5, rfl, hf5⟩, hb5⟩
  have hbw5 := below_then hbw4 hb5 (Nat.le_refl _)
  go_wp2_with fail
  refine (runwrap_uni A n c l HL.out w5 (hr.below hbw5) (by omega) (by omega)).mono ?_
  rintro e w6 ⟨⟨A6, n6, c6, rfl, hn6, hr6⟩, hb6⟩
  have hbw6 := below_then hbw5 hb6 (Nat.le_refl _)
  go_wp2_with fail
  refine (first_uni Ao n co l HL.out w6 (hrn.below hbw6) (by omega) (by omega)).mono ?_
  rintro e w7 ⟨⟨A7, n7, c7, A8, n8, c8, rfl, hf7, hf8⟩, hb7⟩
  have hbw7 := below_then hbw6 hb7 (Nat.le_refl _)
  go_wp2_with fail
  refine (rfirst_uni A n c l HL.out w7 (hr.below hbw7) (by omega) (by omega)).mono ?_
  rintro e w8 ⟨⟨A9, n9, c9, to9, rfl, hn9, hr9, hcase⟩, hb8⟩
  have hbw8 := below_then hbw7 hb8 (Nat.le_refl _)
  have h78 := hb8
  have h68 := below_then hb7 h78 (Nat.le_refl _)
  have h58 := below_then hb6 h68 (Nat.le_refl _)
  have h48 := below_then hb5 h58 (Nat.le_refl _)
  have h38 := below_then hb4 h48 (Nat.le_refl _)
  have z2 := hb3.size
  have z3 := hb4.size
  have z4 := hb5.size
  have z5 := hb6.size
  have hW0 : WrapI w2 w8.heap.size [(A3, n3, c3), (A5, n5, c5), (A7, n7, c7), (A8, n8, c8)] (w8.alloc (.cells #[.slice A3 n3 c3, .slice A5 n5 c5, .slice A7 n7 c7, .slice A8 n8 c8] 22)) := by
    refine ⟨hbw8.alloc hbw8.size _, rd_four (heap_alloc_new w8 _), fun o ho => ?_⟩
    simp only [List.mem_cons, List.not_mem_nil, or_false] at ho
    rcases ho with rfl | rfl | rfl | rfl
    · exact ((hf3.own (Nat.le_refl _)).below h38).below ((Below.refl _ w8).alloc (Nat.le_refl _) _)
    · exact ((hf5.own (by omega)).below h58).below ((Below.refl _ w8).alloc (Nat.le_refl _) _)
    · exact ((hf7.own (by omega)).below h78).below ((Below.refl _ w8).alloc (Nat.le_refl _) _)
    · exact ((hf8.own (by omega)).below h78).below ((Below.refl _ w8).alloc (Nat.le_refl _) _)
  have e3 := str_of (c := c3) hf3.1 (hf3.2.1.below h38)
  have e4 := str_of (c := c4) (n := n + 8) (by rw [wrapB_length, HL.out]) (hr4.below h48)
  have e5 := str_of (c := c5) hf5.1 (hf5.2.1.below h58)
  have e6 := str_of (c := c6) hn6 (hr6.below h68)
  have e7 := str_of (c := c7) hf7.1 (hf7.2.1.below h78)
  have e8 := str_of (c := c8) hf8.1 (hf8.2.1.below h78)
  have e9 := str_of (c := c9) hn9 hr9
  have hr8 := hr.below hbw8
  clear hr4 hr6 hr9 hn6 hn9 h78 h68 h58 h48 h38 hb3 hb4 hb5 hb6 hb7 hb8 hbw4 hbw5 hbw6 hbw7
  have hnb : ∀ o ∈ ([(A3, n3, c3), (A5, n5, c5), (A7, n7, c7), (A8, n8, c8)] : List (Option Addr × Nat × Nat)), o.2.1 ≤ 6000 := fun o ho => by
    simp only [List.mem_cons, List.not_mem_nil, or_false] at ho
    obtain ⟨t1, t2, t3⟩ := flB_len l
    have t0 := HL.out
    have t4 := hf3.1
    have t5 := hf5.1
    have t6 := hf7.1
    have t7 := hf8.1
    rw [wrapB_length] at t4
    rcases ho with rfl | rfl | rfl | rfl
    · show n3 ≤ 6000; omega
    · show n5 ≤ 6000; omega
    · show n7 ≤ 6000; omega
    · show n8 ≤ 6000; omega
  obtain ⟨ll, hll⟩ : ∃ ll, ll = ([(A3, n3, c3), (A5, n5, c5), (A7, n7, c7), (A8, n8, c8)] : List (Option Addr × Nat × Nat)) := ⟨_, rfl⟩
  have HLL := Lib.hid hll
  rw [← hll] at hW0 hnb
  clear hll hf3 hf5 hf7 hf8
  have hz8 := hbw8.size
  rcases hcase with ⟨h1, h2, h3⟩ | ⟨h1, h2⟩
  · have s2 := run_sub_l (P := Try.prog) w8 22 A n c 1 Try.underlying22 (Try.sizeOf5 w8) (to9 : Int) to9 rfl h3
    have e10 := str_of (c := c - to9) (A := subA A c to9 1) (n := n - to9) (l := l.drop to9) (by rw [List.length_drop, HL.out]) (by
      have := hr8.drop c to9 1 (by rw [u8v_length, HL.out]; omega)
      rwa [Nat.mul_one, u8v_drop] at this)
    rw [h2] at e10
    rw [h1]
    clear h1 h2
    go_wp2_with fail
    clear e3 e4 e5 e6 e7 e8 e9 s1
    go_loopw [124] (fun i wr => ∃ k : Nat, k ≤ 4 ∧ i = .int .i64 k ∧ WrapI w2 w8.heap.size ll wr) (fun i _ => 4 - (intOf i).toNat)
    case atStart => exact ⟨0, by omega, rfl, hW0⟩
    case round =>
      obtain ⟨k, hk, rfl, hI⟩ := hrel
      by_cases hlt : k < 4
      · obtain ⟨Ak, nk, ck, hkk, hmem⟩ : ∃ Ak nk ck, wr.cell? ⟨w8.heap.size, k, none⟩ = some (.slice Ak nk ck) ∧ (Ak, nk, ck) ∈ ll := by
          rw [hI.2.1, HLL.out]
          match k, hlt with
          | 0, _ => exact ⟨_, _, _, rfl, by simp⟩
          | 1, _ => exact ⟨_, _, _, rfl, by simp⟩
          | 2, _ => exact ⟨_, _, _, rfl, by simp⟩
          | 3, _ => exact ⟨_, _, _, rfl, by simp⟩
        have hnk : nk ≤ 6000 := hnb _ hmem
        go_wp2_with fail
        go_loopw [130] (fun i wr => ∃ m : Nat, m ≤ nk ∧ i = .int .i64 m ∧ WrapI w2 w8.heap.size ll wr) (fun i _ => nk - (intOf i).toNat)
        case atStart => exact ⟨0, by omega, rfl, hI⟩
        case round =>
          obtain ⟨m, hm2, rfl, hI2⟩ := hrel
          by_cases hlt2 : m < nk
          · obtain ⟨g, o, rfl, hg, ⟨z, hz⟩, hfro⟩ := hI2.2.2 _ hmem m hlt2
            have hz' : wr.cell? ⟨g, o + m, none⟩ = some (.int .u8 (z.toNat : Int)) := hz
            have hfro' : wr.frozen? ⟨g, o + m, none⟩ = false := hfro
            have hz8 := z.toNat_lt
            clear hz hfro
            have hst := hI2.store g (o + m) hg hz' (z + 1)
            rw [← inc8] at hst
            go_wp2_with fail
            go_roundw
            case rel => exact ⟨m + 1, by omega, by go_num, hst⟩
            case measure => simp [intOf]; omega
          · obtain rfl : m = nk := by omega
            go_wp2_with fail
            go_roundw
            case rel => exact ⟨k + 1, by omega, by go_num, hI2⟩
            case measure => simp [intOf]; omega
      · obtain rfl : k = 4 := by omega
        have f1 := str_of (c := co) (n := n + 1) (by rw [List.length_append, HL.out]; rfl) (hro.below hI.1)
        have f2 := str_of (c := c) HL.out (hr.below hI.1)
        have hend := below_then hb2 hI.1 (Nat.le_refl _)
        have hsz : (bstr l).size ≤ 5000 := by have := HL.out; rw [bstr_size]; omega
        have hcat := str_cat l 7
        go_wp2_with fail
        go_ret
        exact ⟨by simp [hcat, bstr_toList], hend⟩
  · rw [h1]
    rw [h2] at e8
    have b0 := bstr_toList []
    clear h1 h2
    go_wp2_with fail
    clear e3 e4 e5 e6 e7 e8 e9 s1
    go_loopw [124] (fun i wr => ∃ k : Nat, k ≤ 4 ∧ i = .int .i64 k ∧ WrapI w2 w8.heap.size ll wr) (fun i _ => 4 - (intOf i).toNat)
    case atStart => exact ⟨0, by omega, rfl, hW0⟩
    case round =>
      obtain ⟨k, hk, rfl, hI⟩ := hrel
      by_cases hlt : k < 4
      · obtain ⟨Ak, nk, ck, hkk, hmem⟩ : ∃ Ak nk ck, wr.cell? ⟨w8.heap.size, k, none⟩ = some (.slice Ak nk ck) ∧ (Ak, nk, ck) ∈ ll := by
          rw [hI.2.1, HLL.out]
          match k, hlt with
          | 0, _ => exact ⟨_, _, _, rfl, by simp⟩
          | 1, _ => exact ⟨_, _, _, rfl, by simp⟩
          | 2, _ => exact ⟨_, _, _, rfl, by simp⟩
          | 3, _ => exact ⟨_, _, _, rfl, by simp⟩
        have hnk : nk ≤ 6000 := hnb _ hmem
        go_wp2_with fail
        go_loopw [130] (fun i wr => ∃ m : Nat, m ≤ nk ∧ i = .int .i64 m ∧ WrapI w2 w8.heap.size ll wr) (fun i _ => nk - (intOf i).toNat)
        case atStart => exact ⟨0, by omega, rfl, hI⟩
        case round =>
          obtain ⟨m, hm2, rfl, hI2⟩ := hrel
          by_cases hlt2 : m < nk
          · obtain ⟨g, o, rfl, hg, ⟨z, hz⟩, hfro⟩ := hI2.2.2 _ hmem m hlt2
            have hz' : wr.cell? ⟨g, o + m, none⟩ = some (.int .u8 (z.toNat : Int)) := hz
            have hfro' : wr.frozen? ⟨g, o + m, none⟩ = false := hfro
            have hz8 := z.toNat_lt
            clear hz hfro
            have hst := hI2.store g (o + m) hg hz' (z + 1)
            rw [← inc8] at hst
            go_wp2_with fail
            go_roundw
            case rel => exact ⟨m + 1, by omega, by go_num, hst⟩
            case measure => simp [intOf]; omega
          · obtain rfl : m = nk := by omega
            go_wp2_with fail
            go_roundw
            case rel => exact ⟨k + 1, by omega, by go_num, hI2⟩
            case measure => simp [intOf]; omega
      · obtain rfl : k = 4 := by omega
        have f1 := str_of (c := co) (n := n + 1) (by rw [List.length_append, HL.out]; rfl) (hro.below hI.1)
        have f2 := str_of (c := c) HL.out (hr.below hI.1)
        have hend := below_then hb2 hI.1 (Nat.le_refl _)
        have hsz : (bstr l).size ≤ 5000 := by have := HL.out; rw [bstr_size]; omega
        have hcat := str_cat l 7
        go_wp2_with fail
        go_ret
        exact ⟨by simp [hcat, bstr_toList], hend⟩
end Go.Proofs.Ytnpdbnphoifjlaa
