/- The register of CRC-32 is linear: plain arithmetic; no program in sight. -/
import Derived.Test.YtnpdbnphoifjlaaSumP
namespace Go.Proofs.Ytnpdbnphoifjlaa

theorem xor_half (a b : Nat) : (a ^^^ b) / 2 = a / 2 ^^^ b / 2 := by
  refine Nat.eq_of_testBit_eq fun i => ?_
  rw [Nat.testBit_div_two, Nat.testBit_xor, Nat.testBit_xor, Nat.testBit_div_two, Nat.testBit_div_two]
theorem xor_par (a b : Nat) : (a ^^^ b) % 2 = (a % 2 + b % 2) % 2 := by
  have h := Nat.testBit_xor a b 0
  simp only [Nat.testBit_zero] at h
  have ha := Nat.mod_two_eq_zero_or_one a
  have hb := Nat.mod_two_eq_zero_or_one b
  have hc := Nat.mod_two_eq_zero_or_one (a ^^^ b)
  rcases ha with ha | ha <;> rcases hb with hb | hb <;> rcases hc with hc | hc <;> simp [ha, hb, hc] at h ⊢
def ifp (b : Nat) : Nat := if b = 1 then poly else 0
theorem ifp_add (a b : Nat) (ha : a = 0 ∨ a = 1) (hb : b = 0 ∨ b = 1) : ifp ((a + b) % 2) = ifp a ^^^ ifp b := by
  rcases ha with rfl | rfl <;> rcases hb with rfl | rfl <;> simp [ifp]
theorem stepN_xor (a b : Nat) : stepN (a ^^^ b) = stepN a ^^^ stepN b := by
  have e : ∀ n, stepN n = n / 2 ^^^ ifp (n % 2) := fun _ => rfl
  rw [e, e, e, xor_half, xor_par, ifp_add _ _ (Nat.mod_two_eq_zero_or_one a) (Nat.mod_two_eq_zero_or_one b)]
  ac_rfl
theorem iterN_xor (k a b : Nat) : iterN k (a ^^^ b) = iterN k a ^^^ iterN k b := by
  induction k with
  | zero => rfl
  | succ k ih => simp only [iterN]; rw [ih, stepN_xor]
theorem stepN_two (n : Nat) : stepN (2 * n) = n := by
  unfold stepN
  rw [if_neg (by omega)]
  simp
theorem iterN_succ' (k n : Nat) : iterN (k + 1) n = iterN k (stepN n) := by
  induction k with
  | zero => rfl
  | succ k ih => rw [iterN, ih]; rfl
theorem iterN_pow (k n : Nat) : iterN k (2 ^ k * n) = n := by
  induction k generalizing n with
  | zero => simp [iterN]
  | succ k ih => rw [iterN_succ', show 2 ^ (k + 1) * n = 2 * (2 ^ k * n) by rw [Nat.pow_succ]; ac_rfl, stepN_two, ih]
theorem iterN_zero (k : Nat) : iterN k 0 = 0 := by have := iterN_pow k 0; simpa using this
theorem low_xor (n k : Nat) : n = (n % 2 ^ k) ^^^ (2 ^ k * (n / 2 ^ k)) := by
  refine Nat.eq_of_testBit_eq fun i => ?_
  rw [Nat.testBit_xor, Nat.testBit_mod_two_pow, Nat.testBit_two_pow_mul, Nat.testBit_div_two_pow]
  by_cases h : i < k
  · simp [h, show ¬ k ≤ i by omega]
  · simp [h, show k ≤ i by omega, show i - k + k = i by omega]
/-- Byte by byte is bit by bit. -/
theorem byteN_eq (n : Nat) (c : UInt8) : byteN n c = iterN 8 (n ^^^ c.toNat) := by
  have h : n ^^^ c.toNat = (n % 256 ^^^ c.toNat) ^^^ (2 ^ 8 * (n / 256)) := by
    have := low_xor n 8
    calc n ^^^ c.toNat = ((n % 2 ^ 8) ^^^ (2 ^ 8 * (n / 2 ^ 8))) ^^^ c.toNat := by rw [← this]
      _ = _ := by simp only [show 2 ^ 8 = 256 from rfl]; ac_rfl
  rw [h, iterN_xor, iterN_pow]
  unfold byteN rowN
  ac_rfl
/-- One bit of a byte goes in. -/
def bitN (n c : Nat) : Nat := (n / 2) ^^^ (if n % 2 = c % 2 then 0 else poly)
theorem bitN_eq (n c : Nat) : bitN n c = stepN (n ^^^ (c % 2)) := by
  unfold bitN stepN
  rw [xor_half, xor_par, show c % 2 / 2 = 0 by omega, Nat.xor_zero]
  have ha := Nat.mod_two_eq_zero_or_one n
  have hb := Nat.mod_two_eq_zero_or_one c
  rcases ha with ha | ha <;> rcases hb with hb | hb <;> simp [ha, hb]
def bitsN : Nat → Nat → Nat → Nat | 0, n, _ => n | k + 1, n, c => bitN (bitsN k n c) (c / 2 ^ k)
theorem bitsN_eq (k n c : Nat) : bitsN k n c = iterN k (n ^^^ (c % 2 ^ k)) := by
  induction k with
  | zero => simp [bitsN, iterN, Nat.mod_one]
  | succ k ih =>
    have e : c % 2 ^ (k + 1) = (c % 2 ^ k) ^^^ (2 ^ k * (c / 2 ^ k % 2)) := by
      have h := low_xor (c % 2 ^ (k + 1)) k
      rw [Nat.mod_mod_of_dvd _ (Nat.pow_dvd_pow 2 (Nat.le_succ k))] at h
      have h2 : c % 2 ^ (k + 1) / 2 ^ k = c / 2 ^ k % 2 := by rw [Nat.pow_succ, Nat.mod_mul_right_div_self]
      rwa [h2] at h
    rw [bitsN, ih, bitN_eq, e, ← Nat.xor_assoc, iterN, iterN_xor k (n ^^^ c % 2 ^ k), iterN_pow]
theorem bits8 (n : Nat) (c : UInt8) : bitsN 8 n c.toNat = byteN n c := by
  rw [bitsN_eq, byteN_eq, Nat.mod_eq_of_lt (show c.toNat < 2 ^ 8 from c.toNat_lt)]
end Go.Proofs.Ytnpdbnphoifjlaa
