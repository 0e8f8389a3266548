/- slices.BinarySearchFunc among rising ids, by hash.Compare. -/
import Derived.Test.YtcdnbidenaljlaaSetGa
import Derived.Deep.DeepCutAuto
namespace Go.Proofs.Ytcdnbidenaljlaa
open Go.RowKit

/-- A list of ids, as it is read. -/
def RdIds (w : World) (A : Option Addr) (L : List (List UInt8)) : Prop := ∀ k (hk : k < L.length), ∃ g o, A = some ⟨g, o, none⟩ ∧ w.rangeAt g (o + k * 32) (u8v L[k])
theorem range_below {w W : World} {b o : Nat} {cs : List Value} (h : w.rangeAt b o cs) (hb : Below w.heap.size w W) : W.rangeAt b o cs := fun j v hj => by
  have := h j v hj
  exact (hb.cell (World.block_lt_of_cell? w _ this)).trans this
theorem RdIds.below {w W : World} {A : Option Addr} {L : List (List UInt8)} (h : RdIds w A L) (hb : Below w.heap.size w W) : RdIds W A L := fun k hk => by
  obtain ⟨g, o, e, hr⟩ := h k hk
  exact ⟨g, o, e, range_below hr hb⟩
theorem Rise.found {L : List (List UInt8)} (h32 : ∀ x ∈ L, x.length = 32) (h : Rise L) {t : List UInt8} (ht : t.length = 32) {i : Nat} (hi : i < L.length) (hlo : ∀ p (hp : p < L.length), p < i → Lib.compareBytes L[p] t < 0) (hhi : ¬ Lib.compareBytes L[i] t < 0) : (Lib.compareBytes L[i] t == 0) = decide (t ∈ L) := by
  by_cases e : L[i] = t
  · have : t ∈ L := e ▸ List.getElem_mem hi
    rw [e, cmp_same]
    simp [this]
  · have hn : ¬ t ∈ L := fun hm => by
      obtain ⟨q, hq, rfl⟩ := List.getElem_of_mem hm
      rcases Nat.lt_trichotomy q i with h1 | h1 | h1
      · have := hlo q hq h1; rw [cmp_same] at this; omega
      · subst h1; exact e rfl
      · exact hhi (h i q hi hq h1)
    have : Lib.compareBytes L[i] t ≠ 0 := fun hz => e (cmp_eq0 _ _ (by rw [h32 _ (List.getElem_mem hi), ht]) hz)
    simp [hn, this]
theorem Rise.none {L : List (List UInt8)} {t : List UInt8} (hlo : ∀ p (hp : p < L.length), Lib.compareBytes L[p] t < 0) : decide (t ∈ L) = false := by
  refine decide_eq_false fun hm => ?_
  obtain ⟨q, hq, rfl⟩ := List.getElem_of_mem hm
  have := hlo q hq
  rw [cmp_same] at this
  omega
set_option maxRecDepth 100000 in
set_option maxHeartbeats 1000000 in
theorem bs_any (A : Option Addr) (n c : Nat) (L : List (List UInt8)) (hL : L.length = n) (hn : n ≤ 1000000) (h32 : ∀ x ∈ L, x.length = 32) (hR : Rise L) (w : World) (hr : RdIds w A L) (t : List UInt8) (ht : t.length = 32) :
    Calls Try.prog 24 #[.slice A n c, .agg (idC t), .func (.func 9) #[] #[]] w fun e w' => (∃ i : Int, e = .returned (.tuple #[.int .i64 i, .bool (decide (t ∈ L))])) ∧ Below w.heap.size w w' := by
  obtain ⟨T, hT, hTs⟩ : ∃ T : Array Value, Hid (T = idC t) ∧ T.size = 32 := ⟨_, rfl, by rw [idC_size, ht]⟩
  have hTi : (Try.prog.info? 23).map (·.size) = some T.size := by rw [hTs]; exact size_id
  rw [← hT.out]
  obtain ⟨w1, hw1⟩ : ∃ w1, w1 = w.alloc (.cells T 23) := ⟨_, rfl⟩
  have hb1 : Below w.heap.size w w1 := by rw [hw1]; exact (Below.refl _ w).alloc (Nat.le_refl _) _
  have q1 : w1.heap[w.heap.size]? = some (.cells T 23 (0, 0)) := by rw [hw1]; exact heap_alloc_new _ _
  have HW1 := Lib.hid hw1
  have hni : (n : Int) ≤ 1000000 := by omega
  clear hw1
  go_enter Try.func24, Try.ntmps24
  go_wp2_with fail
  rw [← HW1.out]
  go_loopw [9, 10] (fun i j wr => ∃ x y : Nat, x ≤ y ∧ y ≤ n ∧ i = .int .i64 (x : Int) ∧ j = .int .i64 (y : Int) ∧ (∀ p (hp : p < L.length), p < x → Lib.compareBytes L[p] t < 0) ∧ (∀ p (hp : p < L.length), y ≤ p → ¬ Lib.compareBytes L[p] t < 0) ∧ wr.heap[w.heap.size]? = some (.cells T 23 (0, 0)) ∧ Below w.heap.size w wr) (fun i j _ => (intOf j - intOf i).toNat)
  case atStart => exact ⟨0, n, by omega, by omega, rfl, rfl, fun p _ h => by omega, fun p hp h => by omega, q1, hb1⟩
  case round =>
    obtain ⟨x, y, hxy, hyn, rfl, rfl, hlo, hhi, g1, gb⟩ := hrel
    clear q1 hb1 HW1
    by_cases hlt : x < y
    · have hlti : (x : Int) < (y : Int) := by omega
      obtain ⟨h, hh⟩ : ∃ h, h = (x + y) / 2 := ⟨_, rfl⟩
      have hhL : h < L.length := by omega
      obtain ⟨g, o, hA, hrg⟩ := hr h hhL
      have hlh : L[h].length = 32 := h32 _ (List.getElem_mem hhL)
      have hSi : (Try.prog.info? 23).map (·.size) = some (u8v L[h]).length := by rw [u8v_length, hlh]; exact size_id
      have hag : (u8v L[h]).toArray = idC L[h] := rfl
      have hcmp : ∀ W, Calls Try.prog 9 #[.agg (u8v L[h]).toArray, .agg T] W fun e w' => e = .returned (.int .i64 (Lib.compareBytes L[h] t)) ∧ Below W.heap.size W w' := fun W => by rw [hag, hT.out]; exact compare_any _ _ hlh ht W
      have hlo2 := fun hc => hR.lo (t := t) hhL hc
      have hhi2 := fun hc => hR.hi (t := t) hhL hc
      have hrgW : ∀ W, Below wr.heap.size wr W → W.rangeAt g (o + h * 32) (u8v L[h]) := fun W hW => range_below (range_below hrg gb) hW
      have hhn : (h : Int) < (n : Int) := by omega
      have hsum : (x : Int) + (y : Int) < 9223372036854775808 := by omega
      have hdv : ((x : Int) + (y : Int)) / 2 = (h : Int) := by omega
      subst hA
      have HH := Lib.hid hh
      clear hag hh
      go_upto_region 5 with (fail)
      obtain ⟨xv, hxv⟩ : ∃ xv, xv = Lib.compareBytes L[h] t := ⟨_, rfl⟩
      rw [← hxv] at hcmp hlo2 hhi2
      refine bs5 g o n c h w.heap.size (u8v L[h]) T xv wr hhn hrgW hSi hTi (fun W _ => hcmp W) (fun W hW => (hW.block _ (lt_of_get g1)).trans g1) fun w2 hb2 => ?_
      have g2 := (hb2.block _ (lt_of_get g1)).trans g1
      have gb2 := below_then gb hb2 (Nat.le_refl _)
      clear hxv hcmp hrgW g1 gb hb2 hdv hsum
      by_cases hc : xv < 0
      · go_wp2_with fail
        refine ⟨⟨h + 1, y, by have := HH.out; omega, hyn, rfl, rfl, fun p hp hpl => hlo2 hc p hp (by omega), hhi, g2, gb2⟩, ?_⟩
        simp [intOf]
        have := HH.out
        omega
      · go_wp2_with fail
        refine ⟨⟨x, h, by have := HH.out; omega, by omega, rfl, rfl, hlo, fun p hp hpl => hhi2 hc p hp hpl, g2, gb2⟩, ?_⟩
        simp [intOf]
        have := HH.out
        omega
    · obtain rfl : x = y := by omega
      by_cases hn2 : x < n
      · have hhL : x < L.length := by omega
        obtain ⟨g, o, hA, hrg⟩ := hr x hhL
        have hlh : L[x].length = 32 := h32 _ (List.getElem_mem hhL)
        have hSi : (Try.prog.info? 23).map (·.size) = some (u8v L[x]).length := by rw [u8v_length, hlh]; exact size_id
        have hag : (u8v L[x]).toArray = idC L[x] := rfl
        have hcmp : ∀ W, Calls Try.prog 9 #[.agg (u8v L[x]).toArray, .agg T] W fun e w' => e = .returned (.int .i64 (Lib.compareBytes L[x] t)) ∧ Below W.heap.size W w' := fun W => by rw [hag, hT.out]; exact compare_any _ _ hlh ht W
        have hfd := hR.found h32 ht hhL hlo (hhi x hhL (Nat.le_refl _))
        have hrgW : ∀ W, Below wr.heap.size wr W → W.rangeAt g (o + x * 32) (u8v L[x]) := fun W hW => range_below (range_below hrg gb) hW
        have hhn : (x : Int) < (n : Int) := by omega
        subst hA
        go_upto_region 8 with (fail)
        refine bs8t g o n c x w.heap.size (u8v L[x]) T (Lib.compareBytes L[x] t) wr hhn hrgW hSi hTi (fun W _ => hcmp W) (fun W hW => (hW.block _ (lt_of_get g1)).trans g1) fun w2 hb2 => ?_
        rw [hfd]
        go_wp2_with fail
        exact bodyPost_ret (results_tmp2 rfl _ _ _) rfl ⟨⟨_, rfl⟩, below_then gb hb2 (Nat.le_refl _)⟩
      · obtain rfl : x = n := by omega
        have hfd := Rise.none (L := L) (t := t) fun p hp => hlo p hp (by omega)
        go_upto_region 8 with (fail)
        refine bs8f x _ _ wr fun w2 hb2 => ?_
        go_wp2_with fail
        refine bodyPost_ret (results_tmp2 rfl _ _ _) rfl ⟨⟨(x : Int), ?_⟩, below_then gb hb2 (Nat.le_refl _)⟩
        show Ending.returned (.tuple #[.int .i64 (x : Int), .bool false]) = _
        simp only [hfd]
end Go.Proofs.Ytcdnbidenaljlaa
