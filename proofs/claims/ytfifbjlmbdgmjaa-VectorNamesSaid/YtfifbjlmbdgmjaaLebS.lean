/- leb: how a number is read: byte by byte, and by its definition. Plain. -/
import Derived.Test.YtfifbjlmbdgmjaaLebI
namespace Go.Proofs.Ytfifbjlmbdgmjaa
set_option linter.unusedVariables false

/-- The number whose bytes these are. -/
def valB : List UInt8 → Nat
  | [] => 0
  | c :: r => c.toNat % 128 + 128 * valB r
/-- How many bytes the first number has; 0: there is no last one. -/
def whereB : List UInt8 → Nat
  | [] => 0
  | c :: r => if c.toNat < 128 then 1 else if whereB r = 0 then 0 else whereB r + 1
/-- The number read, by its definition: the number, the error, how many bytes were taken. -/
def readN (l : List UInt8) (most : Nat) : Nat × Nat × Nat :=
  if whereB l = 0 ∧ l.length < 10 then (0, 10, 0)
  else if whereB l = 0 ∨ 10 < whereB l then (0, 11, 0)
  else if numB (valB (l.take (whereB l)) % 18446744073709551616) ≠ l.take (whereB l) then (0, 11, 0)
  else if most < valB (l.take (whereB l)) % 18446744073709551616 then (0, 12, 0)
  else (valB (l.take (whereB l)) % 18446744073709551616, 0, whereB l)
/-- Byte by byte: 10: short; 11: form; 0: the number and how many bytes it has. -/
def scanB : List UInt8 → Nat → Nat → Nat × Nat × Nat
  | [], many, n => (n, 10, many)
  | c :: r, many, n =>
    if (many = 9 ∧ (1 < c.toNat % 128 ∨ ¬ c.toNat < 128)) ∨ (c.toNat < 128 ∧ c.toNat % 128 = 0 ∧ 0 < many) then (n, 11, many)
    else if c.toNat < 128 then (n + c.toNat % 128 * 128 ^ many, 0, many + 1)
    else scanB r (many + 1) (n + c.toNat % 128 * 128 ^ many)

theorem whereB_le (l : List UInt8) : whereB l ≤ l.length := by
  induction l with
  | nil => exact Nat.le_refl _
  | cons c r ih =>
    unfold whereB
    rw [List.length_cons]
    split
    · omega
    · split <;> omega
theorem valB_append (a b : List UInt8) : valB (a ++ b) = valB a + 128 ^ a.length * valB b := by
  induction a with
  | nil => simp [valB]
  | cons c r ih =>
    rw [List.cons_append, valB, valB, ih, List.length_cons, Nat.pow_succ, Nat.mul_add, ← Nat.mul_assoc, Nat.mul_comm 128 (128 ^ r.length)]
    omega
theorem valB_lt (l : List UInt8) : valB l < 128 ^ l.length := by
  induction l with
  | nil => simp [valB]
  | cons c r ih =>
    rw [valB, List.length_cons, Nat.pow_succ]
    have : c.toNat % 128 < 128 := Nat.mod_lt _ (by omega)
    omega
theorem valB_numB (n : Nat) : valB (numB n) = n := by
  induction n using Nat.strongRecOn with
  | ind n ih =>
    by_cases h : n < 128
    · rw [numB_small h, valB, valB, UInt8.toNat_ofNat', Nat.mod_eq_of_lt (by omega : n < 2 ^ 8)]
      omega
    · rw [numB_big h, valB, ih (n / 128) (by omega), UInt8.toNat_ofNat', Nat.mod_eq_of_lt (by omega : n % 128 + 128 < 2 ^ 8)]
      omega
/-- Bytes of which all but the last are great, the last is small, and no nought but alone. -/
def canonB : List UInt8 → Prop
  | [] => False
  | [c] => c.toNat < 128
  | c :: d :: r => 128 ≤ c.toNat ∧ canonB (d :: r) ∧ 0 < valB (d :: r)
theorem canonB_numB (n : Nat) : canonB (numB n) := by
  induction n using Nat.strongRecOn with
  | ind n ih =>
    by_cases h : n < 128
    · rw [numB_small h]
      show (UInt8.ofNat n).toNat < 128
      rw [UInt8.toNat_ofNat', Nat.mod_eq_of_lt (by omega)]
      exact h
    · have h1 := ih (n / 128) (by omega)
      have h2 := valB_numB (n / 128)
      rw [numB_big h]
      cases hq : numB (n / 128) with
      | nil => rw [hq] at h1; exact h1.elim
      | cons d r =>
        rw [hq] at h1 h2
        refine ⟨?_, h1, by rw [h2]; omega⟩
        rw [UInt8.toNat_ofNat', Nat.mod_eq_of_lt (by omega)]
        omega
theorem numB_of_canonB (l : List UInt8) (h : canonB l) : numB (valB l) = l := by
  induction l with
  | nil => exact h.elim
  | cons c r ih =>
    cases r with
    | nil =>
      have hc : c.toNat < 128 := h
      rw [valB, valB, Nat.mod_eq_of_lt hc, Nat.mul_zero, Nat.add_zero, numB_small hc]
      simp
    | cons d r =>
      obtain ⟨h1, h2, h3⟩ := h
      have h4 := c.toNat_lt
      have e1 : c.toNat % 128 = c.toNat - 128 := by omega
      have h5 : ¬ valB (c :: d :: r) < 128 := by rw [valB]; omega
      have h6 : valB (c :: d :: r) / 128 = valB (d :: r) := by rw [valB]; omega
      have h7 : valB (c :: d :: r) % 128 + 128 = c.toNat := by rw [valB]; omega
      rw [numB_big h5, h6, h7, ih h2]
      simp
theorem whereB_take (l : List UInt8) (h : whereB l ≠ 0) : ∃ a c r, l = a ++ c :: r ∧ (∀ x ∈ a, 128 ≤ x.toNat) ∧ c.toNat < 128 ∧ whereB l = a.length + 1 := by
  induction l with
  | nil => exact absurd rfl h
  | cons c r ih =>
    unfold whereB at h ⊢
    by_cases hc : c.toNat < 128
    · rw [if_pos hc]; exact ⟨[], c, r, rfl, (fun x hx => by cases hx), hc, rfl⟩
    · rw [if_neg hc] at h ⊢
      by_cases hr : whereB r = 0
      · rw [if_pos hr] at h; exact absurd rfl h
      · rw [if_neg hr]
        obtain ⟨a, c', r', e, h1, h2, h3⟩ := ih hr
        refine ⟨c :: a, c', r', by rw [e]; rfl, fun x hx => ?_, h2, by rw [h3]; rfl⟩
        rcases List.mem_cons.1 hx with rfl | hx
        · omega
        · exact h1 x hx
theorem whereB_zero (l : List UInt8) (h : whereB l = 0) : ∀ x ∈ l, 128 ≤ x.toNat := by
  induction l with
  | nil => exact fun x hx => by cases hx
  | cons c r ih =>
    unfold whereB at h
    by_cases hc : c.toNat < 128
    · rw [if_pos hc] at h; cases h
    · rw [if_neg hc] at h
      by_cases hr : whereB r = 0
      · intro x hx
        rcases List.mem_cons.1 hx with rfl | hx
        · omega
        · exact ih hr x hx
      · rw [if_neg hr] at h; cases h
/-- Great bytes are gone over, up to the tenth. -/
theorem scanB_great (a r : List UInt8) (ha : ∀ x ∈ a, 128 ≤ x.toNat) (many n : Nat) (hm : many + a.length ≤ 9) : scanB (a ++ r) many n = scanB r (many + a.length) (n + valB a * 128 ^ many) := by
  induction a generalizing many n with
  | nil => simp [valB]
  | cons c a ih =>
    have hc := ha c (by simp)
    rw [List.length_cons] at hm
    rw [List.cons_append, scanB, if_neg (by omega), if_neg (by omega), ih (fun x hx => ha x (by simp [hx])) (many + 1) _ (by omega), List.length_cons, valB]
    rw [show many + 1 + a.length = many + (a.length + 1) by omega, Nat.pow_succ, Nat.add_mul]
    congr 1
    rw [Nat.mul_assoc 128, Nat.mul_comm (128 ^ many) 128, Nat.mul_left_comm, Nat.add_assoc]
theorem canonB_app (a : List UInt8) (c : UInt8) (ha : ∀ x ∈ a, 128 ≤ x.toNat) (hc : c.toNat < 128) (h0 : a = [] ∨ c.toNat ≠ 0) : canonB (a ++ [c]) := by
  have hv : ∀ b : List UInt8, c.toNat ≠ 0 → 0 < valB (b ++ [c]) := fun b h => by
    rw [valB_append, valB, valB]
    have : 0 < 128 ^ b.length := Nat.pow_pos (by omega)
    have : 0 < 128 ^ b.length * (c.toNat % 128 + 128 * 0) := Nat.mul_pos this (by omega)
    omega
  induction a with
  | nil => exact hc
  | cons d a ih =>
    have h1 : c.toNat ≠ 0 := h0.resolve_left (by simp)
    have h2 := ih (fun x hx => ha x (by simp [hx])) (.inr h1)
    have h3 := hv a h1
    cases hq : a ++ [c] with
    | nil => simp at hq
    | cons e r =>
      rw [hq] at h2 h3
      rw [List.cons_append, hq]
      exact ⟨ha d (by simp), h2, h3⟩
theorem canonB_not (a : List UInt8) (c : UInt8) (ha : a ≠ []) (h : canonB (a ++ [c])) : c.toNat % 128 ≠ 0 := by
  induction a with
  | nil => exact absurd rfl ha
  | cons d a ih =>
    cases a with
    | nil =>
      obtain ⟨_, _, h3⟩ := h
      simp only [valB] at h3
      omega
    | cons e a => exact ih (by simp) h.2.1
/-- What is scanned is what is read by definition. -/
theorem readN_scan (l : List UInt8) (most : Nat) : readN l most =
    (if (scanB l 0 0).2.1 = 10 then (0, 10, 0) else if (scanB l 0 0).2.1 = 11 then (0, 11, 0) else if most < (scanB l 0 0).1 then (0, 12, 0) else ((scanB l 0 0).1, 0, (scanB l 0 0).2.2)) := by
  unfold readN
  by_cases h0 : whereB l = 0
  · have hg := whereB_zero l h0
    by_cases h10 : l.length < 10
    · rw [if_pos ⟨h0, h10⟩]
      have := scanB_great l [] hg 0 0 (by omega)
      rw [List.append_nil] at this
      rw [this, scanB]
      simp
    · rw [if_neg (by omega), if_pos (.inl h0)]
      obtain ⟨c, r, hr⟩ : ∃ c r, l.drop 9 = c :: r := by
        cases hd : l.drop 9 with
        | nil => have := congrArg List.length hd; simp at this; omega
        | cons c r => exact ⟨c, r, rfl⟩
      have hl : l = l.take 9 ++ c :: r := by rw [← hr, List.take_append_drop]
      have ht : (l.take 9).length = 9 := by rw [List.length_take]; omega
      have hs := scanB_great (l.take 9) (c :: r) (fun x hx => hg x (List.mem_of_mem_take hx)) 0 0 (by omega)
      rw [← hl, ht, scanB, if_pos (.inl ⟨by omega, .inr (by have := hg c (by rw [hl]; simp); omega)⟩)] at hs
      rw [hs]
      simp
  · obtain ⟨a, c, r, rfl, ha, hc, hw⟩ := whereB_take l h0
    by_cases h11 : 10 < whereB (a ++ c :: r)
    · rw [if_neg (by omega), if_pos (.inr h11)]
      obtain ⟨d, a2, hr⟩ : ∃ d a2, a.drop 9 = d :: a2 := by
        cases hd : a.drop 9 with
        | nil => have := congrArg List.length hd; simp at this; omega
        | cons c r => exact ⟨c, r, rfl⟩
      have hl : a = a.take 9 ++ d :: a2 := by rw [← hr, List.take_append_drop]
      have ht : (a.take 9).length = 9 := by rw [List.length_take]; omega
      have hs := scanB_great (a.take 9) (d :: a2 ++ c :: r) (fun x hx => ha x (List.mem_of_mem_take hx)) 0 0 (by omega)
      rw [← List.append_assoc, ← hl, ht, List.cons_append, scanB, if_pos (.inl ⟨by omega, .inr (by have := ha d (by rw [hl]; simp); omega)⟩)] at hs
      rw [hs]
      simp
    · rw [if_neg (by omega), if_neg (by omega), hw]
      have htk : (a ++ c :: r).take (a.length + 1) = a ++ [c] := by
        rw [List.take_append, List.take_of_length_le (by omega)]
        simp
      rw [htk]
      have hal : a.length ≤ 9 := by omega
      have hs := scanB_great a (c :: r) ha 0 0 (by omega)
      rw [hs, Nat.zero_add, Nat.zero_add, Nat.pow_zero, Nat.mul_one, scanB]
      have hva := valB_lt a
      have hv : valB (a ++ [c]) = valB a + c.toNat % 128 * 128 ^ a.length := by rw [valB_append, valB, valB, Nat.mul_comm]; simp
      by_cases hf : (a.length = 9 ∧ (1 < c.toNat % 128 ∨ ¬ c.toNat < 128)) ∨ (c.toNat < 128 ∧ c.toNat % 128 = 0 ∧ 0 < a.length)
      · rw [if_pos hf]
        have hne : numB (valB (a ++ [c]) % 18446744073709551616) ≠ a ++ [c] := fun he => by
          have hcn := canonB_numB (valB (a ++ [c]) % 18446744073709551616)
          rw [he] at hcn
          rcases hf with ⟨h9, h1⟩ | ⟨_, h1, h2⟩
          · have hval := valB_numB (valB (a ++ [c]) % 18446744073709551616)
            rw [he] at hval
            have h2 : 2 ≤ c.toNat % 128 := by omega
            have h3 : 2 * 128 ^ a.length ≤ c.toNat % 128 * 128 ^ a.length := Nat.mul_le_mul_right _ h2
            rw [h9] at h3
            have h4 : valB (a ++ [c]) % 18446744073709551616 < 18446744073709551616 := Nat.mod_lt _ (by omega)
            rw [← hval, hv, h9] at h4
            omega
          · exact canonB_not a c (fun e => by rw [e] at h2; simp at h2) hcn h1
        rw [if_pos hne]
        simp
      · rw [if_neg hf, if_pos hc]
        have h19 : valB (a ++ [c]) < 18446744073709551616 := by
          rw [hv]
          rcases Nat.lt_or_ge a.length 9 with h | h
          · have h1 : c.toNat % 128 * 128 ^ a.length ≤ 127 * 128 ^ a.length := Nat.mul_le_mul_right _ (by omega)
            have h2 : 128 ^ a.length ≤ 128 ^ 8 := Nat.pow_le_pow_right (by omega) (by omega)
            omega
          · have h9 : a.length = 9 := by omega
            have h1 : c.toNat % 128 ≤ 1 := by omega
            have h2 : c.toNat % 128 * 128 ^ a.length ≤ 1 * 128 ^ a.length := Nat.mul_le_mul_right _ h1
            rw [h9] at h2 hva ⊢
            omega
        have hcan : numB (valB (a ++ [c])) = a ++ [c] := numB_of_canonB _ (canonB_app a c ha hc (by
          by_cases e : a = []
          · exact .inl e
          · have : 0 < a.length := List.length_pos_iff.2 e
            exact .inr (by omega)))
        rw [Nat.mod_eq_of_lt h19, hcan]
        rw [if_neg (fun h => h rfl), ← hv]
        simp
theorem readN_ok {l : List UInt8} {most n k : Nat} (h : readN l most = (n, 0, k)) : numB n = l.take k ∧ n ≤ most ∧ 0 < k ∧ k ≤ l.length ∧ k ≤ 10 ∧ n < 18446744073709551616 := by
  unfold readN at h
  split at h
  · cases h
  split at h
  · cases h
  split at h
  · cases h
  split at h
  · cases h
  simp only [Prod.mk.injEq, true_and] at h
  obtain ⟨rfl, rfl⟩ := h
  have := whereB_le l
  exact ⟨by simp_all, by omega, by omega, by omega, by omega, Nat.mod_lt _ (by omega)⟩
end Go.Proofs.Ytfifbjlmbdgmjaa
