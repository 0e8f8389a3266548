/- net: Spoilt. -/
import Derived.Test.YtfojlmnlolnilaaNetF
import Derived.Laws.BitsAllLaws
namespace Go.Proofs.Ytfojlmnlolnilaa
open Go.RowKit
attribute [local go_sem] Oper.semAt_some

/-- The byte of a mask that stands at j. -/
def mkB (m j : Nat) : UInt8 := UInt8.ofNat (m / 2 ^ (8 * j))
/-- k bytes from p on, with the mask's over them. -/
def spK (l : List UInt8) (p m k : Nat) : List UInt8 := l.mapIdx fun i b => if p ≤ i ∧ i < p + k then b ^^^ mkB m (i - p) else b
def spP (n : Nat) (x : Int) : Nat := (x % (n : Int)).toNat
def spoilL (l : List UInt8) (cut : Bool) (x : Int) (m : Nat) : List UInt8 := if l = [] then [] else if cut then l.take (spP l.length x) else spK l (spP l.length x) m 4
theorem spK_length (l : List UInt8) (p m k : Nat) : (spK l p m k).length = l.length := by simp [spK]
theorem spK_zero (l : List UInt8) (p m : Nat) : spK l p m 0 = l := by
  apply List.ext_getElem (by simp [spK])
  intro i h1 h2
  simp [spK]
  omega
theorem spK_get (l : List UInt8) (p m k i : Nat) (h : i < l.length) : (spK l p m k)[i]'(by rw [spK_length]; exact h) = if p ≤ i ∧ i < p + k then l[i] ^^^ mkB m (i - p) else l[i] := by simp [spK]
theorem spK_succ (l : List UInt8) (p m k : Nat) (h : p + k < l.length) : spK l p m (k + 1) = (spK l p m k).set (p + k) (l[p + k] ^^^ mkB m k) := by
  apply List.ext_getElem (by simp [spK])
  intro i h1 h2
  rw [spK_length] at h1
  rw [List.getElem_set, spK_get _ _ _ _ _ h1, spK_get _ _ _ _ _ h1]
  by_cases he : p + k = i
  · subst he
    rw [if_pos (by omega), if_pos rfl, Nat.add_sub_cancel_left]
  · rw [if_neg he]
    by_cases h3 : p ≤ i ∧ i < p + k
    · rw [if_pos (by omega), if_pos h3]
    · rw [if_neg (by omega), if_neg h3]
theorem spK_stop (l : List UInt8) (p m k : Nat) (h : l.length ≤ p + k) (hk : k ≤ 4) : spK l p m 4 = spK l p m k := by
  apply List.ext_getElem (by simp [spK])
  intro i h1 h2
  rw [spK_length] at h1
  rw [spK_get _ _ _ _ _ h1, spK_get _ _ _ _ _ h1]
  by_cases h3 : p ≤ i ∧ i < p + k
  · rw [if_pos (by omega), if_pos h3]
  · rw [if_neg (by omega), if_neg h3]
theorem tmod_twice (x : Int) (n : Nat) (hn : 0 < n) : (Int.tmod (Int.tmod x n + n) n) = ((spP n x : Nat) : Int) := by
  have h1 : 0 ≤ x % (n : Int) := Int.emod_nonneg _ (by omega)
  have h2 : x % (n : Int) < n := Int.emod_lt_of_pos _ (by omega)
  have h3 : Int.tmod x n + n = (x - Int.tdiv x n * n) + n := by
    have := Int.mul_tdiv_add_tmod x n
    rw [Int.mul_comm] at this
    omega
  have h4 : 0 ≤ Int.tmod x n + n := by
    have := Int.lt_tmod_of_pos x (show (0 : Int) < n by omega)
    omega
  rw [Int.tmod_eq_emod_of_nonneg h4, h3]
  unfold spP
  rw [Int.toNat_of_nonneg h1, show x - Int.tdiv x n * n + n = x + (1 - Int.tdiv x n) * n by rw [Int.sub_mul]; omega, Int.add_mul_emod_self_right]
theorem spP_lt (x : Int) (n : Nat) (hn : 0 < n) : spP n x < n := by
  have h1 : 0 ≤ x % (n : Int) := Int.emod_nonneg _ (by omega)
  have h2 : x % (n : Int) < n := Int.emod_lt_of_pos _ (by omega)
  unfold spP
  omega
theorem own_take {W : World} {B n c p : Nat} {A : Option Addr} {l : List UInt8} (h : W.ownsRow B 5 1 (.slice A n c) n (u8v l)) (hp : p ≤ n) (hpl : (l.take p).length = p) (h0 : 0 < n) : W.ownsRow B 5 1 (.slice A p c) p (u8v (l.take p)) := by
  refine ⟨by rw [u8v_length, hpl, Nat.mul_one], ?_⟩
  rcases h.2 with ⟨_, e⟩ | ⟨g, cap, cur, e, hB, hg, h1, h2, h3, h4⟩
  · omega
  · cases e
    refine .inr ⟨g, c, cur, rfl, hB, hg, by omega, h2, h3, ?_⟩
    have : u8v (l.take p) = (u8v l).take p := by simp [u8v, List.map_take]
    rw [this, ← h4, List.take_take]
    congr 1
    omega
set_option maxRecDepth 100000 in
set_option maxHeartbeats 4000000 in
theorem spoilt_any (A : Option Addr) (n c : Nat) (l : List UInt8) (hl : l.length = n) (hn : n ≤ 100000) (cut : Bool) (x : Int) (m : Nat) (hx1 : -9223372036854775808 ≤ x) (hx2 : x ≤ 9223372036854775807) (hm : m < 4294967296) (w : World) (hr : RdC w A (u8v l)) :
    Calls Try.prog 10 #[.slice A n c, .agg #[.bool cut, .int .i64 x, .int .u32 m]] w fun e w' => ∃ v, e = .returned v ∧ NewRow w w' v (spoilL l cut x m) := by
  obtain ⟨w1, hw1⟩ : ∃ w1, w1 = w.alloc (.cells #[.bool cut, .int .i64 x, .int .u32 m] 25) := ⟨_, rfl⟩
  have hb1 : Below w.heap.size w w1 := by rw [hw1]; exact (Below.refl _ _).alloc (Nat.le_refl _) _
  have h1 : w1.heap[w.heap.size]? = some (.cells #[.bool cut, .int .i64 x, .int .u32 m] 25 (0, 0)) := by rw [hw1]; exact heap_alloc_new _ _
  have hcl := bclone_any A n c l hl (by omega) w1 (hr.below hb1)
  have hz1 := lt_get h1
  have hsp1 : n ≠ 0 → spoilL l cut x m = if cut then l.take (spP n x) else spK l (spP n x) m 4 := fun h => by
    unfold spoilL
    rw [if_neg (fun e => h (by rw [← hl, e]; rfl)), hl]
  have tm := tmod_twice x n
  have pl := spP_lt x n
  generalize spP n x = p at *
  by_cases h0 : n = 0
  · subst h0
    obtain rfl : l = [] := List.eq_nil_of_length_eq_zero hl
    go_enter Try.func10, Try.ntmps10
    go_upto_region 1 with fail
    rw [← hw1]
    clear hw1
    go_wp2_with (go_at_call 30; refine hcl.mono ?_; rintro e w2 ⟨v, rfl, ho, hb2⟩; obtain ⟨A2, c2, rfl, _⟩ := RdC.of_own ho)
    go_ret
    exact ⟨_, rfl, own_mono ho hb1.size, below_then hb1 hb2 (Nat.le_refl _)⟩
  · rw [hsp1 h0]
    clear hsp1
    have h00 : ((n : Int) == 0) = false := by rw [beq_eq_false_iff_ne]; omega
    have tm1 := tm (by omega)
    have pl1 := pl (by omega)
    go_enter Try.func10, Try.ntmps10
    go_upto_region 1 with fail
    rw [← hw1]
    clear hw1
    go_wp2_with fail
    refine hcl.mono ?_
    rintro e w2 ⟨v, rfl, ho, hb2⟩
    obtain ⟨A2, c2, rfl, hnc2, hcm2, hr2, _⟩ := RdC.of_own ho
    have h2 := (hb2.block _ hz1).trans h1
    have c0 : w2.cell? ⟨w.heap.size, 0, none⟩ = some (.bool cut) := by rw [cell_of_row _ _ _ _ _ _ h2]; rfl
    have c1 : w2.cell? ⟨w.heap.size, 1, none⟩ = some (.int .i64 x) := by rw [cell_of_row _ _ _ _ _ _ h2]; rfl
    have c3 : w2.cell? ⟨w.heap.size, 2, none⟩ = some (.int .u32 m) := by rw [cell_of_row _ _ _ _ _ _ h2]; rfl
    rw [hl] at ho hnc2 ⊢
    clear hcl
    go_upto_region 5 with fail
    have hw64 : wrap64 (x.tmod n + n) = x.tmod n + n := by
      have q1 := Int.lt_tmod_of_pos x (show (0 : Int) < n by omega)
      have q2 := Int.tmod_lt_of_pos x (show (0 : Int) < n by omega)
      have q3 : ∀ t : Int, -(n : Int) < t → t < n → wrap64 (t + n) = t + n := fun t h1 h2 => by unfold wrap64; omega
      exact q3 _ q1 q2
    rw [hw64, tm1]
    clear tm tm1 hw64 pl
    cases cut with
    | true =>
      go_wp2_with fail
      go_ret
      have hlt : (l.take p).length = p := by rw [List.length_take]; omega
      refine ⟨_, rfl, ?_, below_then hb1 hb2 (Nat.le_refl _)⟩
      rw [hlt]
      exact own_mono (own_take ho (by omega) hlt (by omega)) hb1.size
    | false =>
      go_wp2_with fail
      obtain ⟨g2, rfl⟩ : ∃ g2, A2 = some ⟨g2, 0, none⟩ := by
        rcases ho.2 with ⟨_, e⟩ | ⟨g, cap, cur, e, _⟩
        · omega
        · injection e with e1 e2 e3
          exact ⟨g, e1⟩
      have hs0 := spK_zero l p m
      rw [← hs0] at ho
      clear hs0 hr2
      go_loopw [7] (fun i wr => ∃ q : Nat, p ≤ q ∧ q ≤ n ∧ q ≤ p + 4 ∧ i = .int .i64 q ∧ wr.ownsRow w1.heap.size 5 1 (.slice (some ⟨g2, 0, none⟩) n c2) n (u8v (spK l p m (q - p))) ∧ Below w1.heap.size w1 wr) (fun i _ => p + 4 - (intOf i).toNat)
      case atStart => exact ⟨p, Nat.le_refl _, by omega, by omega, rfl, by rw [Nat.sub_self]; exact ho, hb2⟩
      case round =>
        obtain ⟨q, hq1, hq2, hq3, rfl, hown, hbr⟩ := hrel
        have ht : (spK l p m (q - p)).length = n := by rw [spK_length, hl]
        by_cases hlt : q < n ∧ q < p + 4
        · obtain ⟨hqn, hq4⟩ := hlt
          have hcell := hown.cells (g := g2) rfl q _ (u8v_get _ q (by omega))
          rw [addr_add_plain, Nat.zero_add] at hcell
          have hfro := hown.frozenAt q
          have hgb : w1.heap.size ≤ g2 := (hown.lt g2 rfl).1
          have hc2r : wr.heap[w.heap.size]? = some (.cells #[.bool false, .int .i64 x, .int .u32 m] 25 (0, 0)) := (hbr.block _ hz1).trans h1
          have c3 : wr.cell? ⟨w.heap.size, 2, none⟩ = some (.int .u32 m) := by rw [cell_of_row _ _ _ _ _ _ hc2r]; rfl
          have hget : (spK l p m (q - p))[q]'(by omega) = l[q] := by rw [spK_get _ _ _ _ _ (by omega), if_neg (by omega)]
          rw [hget] at hcell
          generalize hb : l[q] = b at *
          have HB := Lib.hid hb
          clear hb hget c0 c1 h1
          have hst := hown.stored q (.int .u8 ((b ^^^ mkB m (q - p)).toNat : Int))
          have hbs := below_grown hbr hown hst.2 hbr.size (Nat.le_refl _)
          have hj : (q : Int) - (p : Int) = ((q - p : Nat) : Int) := by omega
          have hmk : (m : Int) / 2 ^ (8 * (q - p)) % 256 = ((mkB m (q - p)).toNat : Int) := by
            unfold mkB
            rw [UInt8.toNat_ofNat']
            norm_cast
          have hxor : bits BinOp.xor IntKind.u8 (b.toNat : Int) ((m : Int) / 2 ^ (8 * (q - p)) % 256) = ((b ^^^ mkB m (q - p)).toNat : Int) := by
            rw [hmk, u8_xor_nat _ _ b.toNat_lt (mkB m (q - p)).toNat_lt, UInt8.toNat_xor]
          have hrow : (u8v (spK l p m (q - p))).set q (.int .u8 ((b ^^^ mkB m (q - p)).toNat : Int)) = u8v (spK l p m (q + 1 - p)) := by
            have hs := spK_succ l p m (q - p) (by omega)
            simp only [show p + (q - p) = q by omega, HB.out] at hs
            rw [show q + 1 - p = q - p + 1 by omega, hs]
            unfold u8v
            rw [List.map_set]
          rw [hrow] at hst
          clear hmk hrow
          go_wp2_with fail
          go_region
          all_goals go_wp2_with fail
          refine ⟨⟨q + 1, by omega, by omega, by omega, rfl, hst.1, hbs.drew⟩, by simp [intOf]; omega⟩
        · go_wp2_with fail
          go_ret
          have hk : spK l p m (q - p) = spK l p m 4 := by
            by_cases h4 : q = p + 4
            · rw [h4, Nat.add_sub_cancel_left]
            · exact (spK_stop l p m (q - p) (by omega) (by omega)).symm
          rw [hk] at hown
          refine ⟨_, rfl, ?_, below_then hb1 hbr (Nat.le_refl _)⟩
          rw [spK_length, hl]
          exact own_mono hown hb1.size
end Go.Proofs.Ytfojlmnlolnilaa
