/- Turned bits within 32 that follow one another are found by CRC-32: plain arithmetic; no program in sight. -/
import Derived.Test.YtnpdbnphoifjlaaSumL
import Derived.Test.YtnpdbnphoifjlaaSumS
namespace Go.Proofs.Ytnpdbnphoifjlaa
open Go.RowKit

/-- Bytes as one number, the lowest first. -/
def leN : List UInt8 → Nat
  | [] => 0
  | c :: l => c.toNat + 256 * leN l
theorem leN_lt (l : List UInt8) : leN l < 2 ^ (8 * l.length) := by
  induction l with
  | nil => simp [leN]
  | cons c l ih =>
    have := c.toNat_lt
    rw [leN, List.length_cons, show 2 ^ (8 * (l.length + 1)) = 256 * 2 ^ (8 * l.length) by rw [Nat.mul_add, Nat.pow_add, Nat.mul_comm]]
    omega
theorem leN_inj {l m : List UInt8} (hlen : l.length = m.length) (h : leN l = leN m) : l = m := by
  induction l generalizing m with
  | nil => cases m with
    | nil => rfl
    | cons => cases hlen
  | cons a l ih => cases m with
    | nil => cases hlen
    | cons b m =>
      have ha := a.toNat_lt
      have hb := b.toNat_lt
      rw [leN, leN] at h
      have h1 : a.toNat = b.toNat := by omega
      have h2 : leN l = leN m := by omega
      rw [ih (by simpa using hlen) h2, UInt8.toNat_inj.1 h1]
theorem mul_pow_xor (k a b : Nat) : 2 ^ k * (a ^^^ b) = 2 ^ k * a ^^^ 2 ^ k * b := by
  refine Nat.eq_of_testBit_eq fun i => ?_
  rw [Nat.testBit_xor, Nat.testBit_two_pow_mul, Nat.testBit_two_pow_mul, Nat.testBit_two_pow_mul, Nat.testBit_xor]
  by_cases h : k ≤ i <;> simp [h]
theorem add_xor8 (c n : Nat) (h : c < 256) : c + 256 * n = c ^^^ (2 ^ 8 * n) := by
  have := low_xor (c + 256 * n) 8
  rw [show (c + 256 * n) % 2 ^ 8 = c by omega, show (c + 256 * n) / 2 ^ 8 = n by omega] at this
  exact this
theorem iterN_add (a b n : Nat) : iterN (a + b) n = iterN a (iterN b n) := by
  induction a with
  | zero => rw [Nat.zero_add]; rfl
  | succ a ih => rw [Nat.succ_add, iterN, iterN, ih]
theorem overN_le (l : List UInt8) (s : Nat) : overN s l = iterN (8 * l.length) (s ^^^ leN l) := by
  induction l generalizing s with
  | nil => simp [overN, leN, iterN]
  | cons c l ih =>
    have h := c.toNat_lt
    have e : overN s (c :: l) = overN (byteN s c) l := rfl
    rw [e, ih, byteN_eq, List.length_cons, Nat.mul_add, iterN_add, leN, add_xor8 _ _ (by omega), ← Nat.xor_assoc, Nat.mul_one, iterN_xor 8 (s ^^^ c.toNat) (2 ^ 8 * leN l), iterN_pow]
theorem overN_app (s : Nat) (a b : List UInt8) : overN s (a ++ b) = overN (overN s a) b := List.foldl_append ..
theorem leN_four (l : List UInt8) (h : l.length = 4) : leN l = numB l := by
  match l, h with
  | [a, b, c, d], _ => simp [leN, numB]; omega
theorem stepN_zero {n : Nat} (h : n < 4294967296) (h0 : stepN n = 0) : n = 0 := by
  unfold stepN at h0
  split at h0
  · rename_i h1
    have h2 : n / 2 = poly := by
      have : (n / 2 ^^^ poly) ^^^ poly = 0 ^^^ poly := by rw [h0]
      simpa [Nat.xor_assoc] using this
    unfold poly at h2
    omega
  · simp at h0
    omega
theorem iterN_eq_zero (k : Nat) {n : Nat} (h : n < 4294967296) (h0 : iterN k n = 0) : n = 0 := by
  induction k with
  | zero => exact h0
  | succ k ih => exact ih (stepN_zero (iterN_lt k n h) h0)
theorem xor_eq_zero {a b : Nat} (h : a ^^^ b = 0) : a = b := by
  have : (a ^^^ b) ^^^ b = 0 ^^^ b := by rw [h]
  simpa [Nat.xor_assoc] using this
/-- A sum that fits its bytes: the register behind both is always the same. -/
theorem residue (a d : List UInt8) (hd : d.length = 4) (h : numB d = ofN [a]) : overN 4294967295 (a ++ d) = iterN 32 4294967295 := by
  rw [overN_app, overN_le d, hd, leN_four d hd, h]
  have e : ofN [a] = 4294967295 - overN 4294967295 a := by
    show onN 0 a = _
    unfold onN
    rfl
  have hl := overN_lt a 4294967295 (by omega)
  rw [e, ← not_nat32 _ hl, ← Nat.xor_assoc, Nat.xor_comm (overN 4294967295 a), Nat.xor_assoc, Nat.xor_self, Nat.xor_zero]
/-- What is unwrapped whole bears its length and its sum. -/
theorem unwrapB_some {t : List UInt8} (h : unwrapB t ≠ none) : 8 + numB t = t.length ∧ numB t ≤ 4194304 ∧ numB (t.drop (4 + numB t)) = ofN [t.take (4 + numB t)] := by
  unfold unwrapB firstB at h
  split at h
  · rename_i x hx
    split at hx
    · cases hx
    split at hx
    · cases hx
    split at hx
    · cases hx
    rename_i h1 h2 h3
    simp only [Option.some.injEq, Prod.mk.injEq] at hx
    have := congrArg List.length hx.2
    simp at this
    exact ⟨by omega, by omega, by simpa using h3⟩
  · exact absurd rfl h
theorem residue_of {t : List UInt8} (h : unwrapB t ≠ none) : overN 4294967295 t = iterN 32 4294967295 := by
  obtain ⟨h1, h2, h3⟩ := unwrapB_some h
  have := residue (t.take (4 + numB t)) (t.drop (4 + numB t)) (by simp; omega) h3
  rwa [List.take_append_drop] at this
/-- THE LAW: bits turned within 32 that follow one another are found. -/
theorem burst {x t : List UInt8} {from_ v : Nat} (hx : x.length ≤ 4194304) (hl : t.length = (wrapB x).length) (hf : from_ ≤ 8 * t.length) (hv : v < 4294967296) (ht : leN t = leN (wrapB x) ^^^ (2 ^ from_ * v)) (h : unwrapB t ≠ none) : t = wrapB x := by
  have r1 := residue_of h
  have r2 := residue_of (t := wrapB x) (by rw [unwrapB_wrap x hx]; simp)
  rw [overN_le] at r1 r2
  rw [← hl] at r2
  rw [ht, ← Nat.xor_assoc, iterN_xor, r2] at r1
  have h0 : iterN (8 * t.length) (2 ^ from_ * v) = 0 := by
    have : iterN 32 4294967295 ^^^ (iterN 32 4294967295 ^^^ iterN (8 * t.length) (2 ^ from_ * v)) = iterN 32 4294967295 ^^^ iterN 32 4294967295 := by rw [r1]
    rwa [← Nat.xor_assoc, Nat.xor_self, Nat.zero_xor] at this
  rw [show 8 * t.length = (8 * t.length - from_) + from_ by omega, iterN_add, iterN_pow] at h0
  have hv0 := iterN_eq_zero _ hv h0
  subst hv0
  rw [Nat.mul_zero, Nat.xor_zero] at ht
  exact leN_inj hl ht
theorem unwrapB_cut (x : List UInt8) (hx : x.length ≤ 4194304) (k : Nat) (hk : k < x.length + 8) : unwrapB ((wrapB x).take k) = none := by
  by_cases h : unwrapB ((wrapB x).take k) = none
  · exact h
  obtain ⟨h1, h2, h3⟩ := unwrapB_some h
  have hl : ((wrapB x).take k).length = k := by rw [List.length_take, wrapB_length]; omega
  have hn : numB ((wrapB x).take k) = x.length := by
    rw [← numB_take, List.take_take, Nat.min_eq_left (by omega)]
    have : wrapB x = fourB x.length ++ (x ++ fourB (ofN [fourB x.length, x])) := by simp [wrapB]
    rw [this, List.take_left' (fourB_length _), numB_fourB _ (by omega)]
  omega
theorem leN_set (l : List UInt8) (i : Nat) (m : UInt8) (h : i < l.length) : leN (l.set i (l[i] ^^^ m)) = leN l ^^^ (2 ^ (8 * i) * m.toNat) := by
  induction l generalizing i with
  | nil => cases h
  | cons c l ih =>
    have hc := c.toNat_lt
    cases i with
    | zero =>
      have hm := m.toNat_lt
      have hx : c.toNat ^^^ m.toNat < 256 := Nat.xor_lt_two_pow (n := 8) (by omega) (by omega)
      simp only [List.set_cons_zero, List.getElem_cons_zero, leN, UInt8.toNat_xor, Nat.mul_zero, Nat.pow_zero, Nat.one_mul]
      rw [add_xor8 _ _ hx, add_xor8 _ _ (by omega)]
      ac_rfl
    | succ i =>
      have hi : i < l.length := by simpa using h
      simp only [List.set_cons_succ, List.getElem_cons_succ, leN]
      rw [ih i hi, add_xor8 _ _ (by omega), mul_pow_xor, add_xor8 _ _ (by omega), ← Nat.mul_assoc, ← Nat.pow_add, show 8 + 8 * i = 8 * (i + 1) by omega, Nat.xor_assoc]
/-- One bit is turned. -/
theorem leN_flip (l : List UInt8) (k : Nat) (m : UInt8) (hm : m.toNat = 2 ^ (k % 8)) (h : k / 8 < l.length) : leN (l.set (k / 8) (l[k / 8] ^^^ m)) = leN l ^^^ 2 ^ k := by
  rw [leN_set _ _ _ h, hm, ← Nat.pow_add]
  congr 2
  omega
theorem turn_more {n v w from_ i : Nat} (h : n = w ^^^ (2 ^ from_ * v)) (hv : v < 2 ^ i) : n ^^^ 2 ^ (from_ + i) = w ^^^ (2 ^ from_ * (v ^^^ 2 ^ i)) ∧ (v ^^^ 2 ^ i) < 2 ^ (i + 1) := by
  refine ⟨?_, Nat.xor_lt_two_pow (n := i + 1) (by rw [Nat.pow_succ]; omega) (by rw [Nat.pow_succ]; have := Nat.two_pow_pos i; omega)⟩
  rw [h, mul_pow_xor, ← Nat.pow_add, Nat.xor_assoc]
end Go.Proofs.Ytnpdbnphoifjlaa
