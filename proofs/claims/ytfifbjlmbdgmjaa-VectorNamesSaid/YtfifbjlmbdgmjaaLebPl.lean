/- leb: what was written is read. Plain. -/
import Derived.Test.YtfifbjlmbdgmjaaLebY
import Derived.Test.YtfifbjlmbdgmjaaLebO
namespace Go.Proofs.Ytfifbjlmbdgmjaa
set_option linter.unusedVariables false

theorem whereB_numB (n : Nat) (r : List UInt8) : whereB (numB n ++ r) = (numB n).length := by
  induction n using Nat.strongRecOn with
  | ind n ih =>
    by_cases h : n < 128
    · rw [numB_small h, List.singleton_append, whereB, if_pos (by rw [UInt8.toNat_ofNat', Nat.mod_eq_of_lt (by omega)]; exact h)]
      rfl
    · have h1 := ih (n / 128) (by omega)
      have h2 := numB_pos (n / 128)
      rw [numB_big h, List.cons_append, whereB, if_neg (by rw [UInt8.toNat_ofNat', Nat.mod_eq_of_lt (by omega)]; omega), h1, if_neg (by omega)]
      rfl
theorem readN_numB (n most : Nat) (hn : n < 18446744073709551616) (r : List UInt8) : readN (numB n ++ r) most = if most < n then (0, 12, 0) else (n, 0, (numB n).length) := by
  have h1 := numB_pos n
  have h2 := numB_ten n hn
  unfold readN
  rw [whereB_numB, List.take_left, valB_numB, Nat.mod_eq_of_lt hn, if_neg (by omega), if_neg (by omega), if_neg (fun h => h rfl)]
theorem rawR_app (o r : List UInt8) : rawR (o ++ r) (o.length : Int) = (0, o, r) := by
  unfold rawR
  rw [if_neg (by omega), if_neg (by rw [List.length_append]; omega), Int.toNat_natCast, List.take_left, List.drop_left]
theorem bytesR_app (o r : List UInt8) (ho : o.length < 18446744073709551616) : bytesR (numB o.length ++ o ++ r) (o.length : Int) = (0, o, r) := by
  unfold bytesR
  rw [show (max 0 (o.length : Int)).toNat = o.length by omega, List.append_assoc, readN_numB _ _ ho, if_neg (Nat.lt_irrefl _)]
  simp only [List.drop_left, rawR_app]
  simp
theorem numB_great (n : Nat) (p : List UInt8) (h : p <+: numB n) (hl : p.length < (numB n).length) : ∀ x ∈ p, 128 ≤ x.toNat := by
  induction n using Nat.strongRecOn generalizing p with
  | ind n ih =>
    by_cases hs : n < 128
    · rw [numB_small hs, List.length_singleton] at hl
      have : p = [] := List.length_eq_zero_iff.1 (by omega)
      subst this
      exact fun x hx => by cases hx
    · rw [numB_big hs] at h hl
      cases p with
      | nil => exact fun x hx => by cases hx
      | cons c q =>
        rw [List.cons_prefix_cons] at h
        obtain ⟨rfl, h⟩ := h
        have := ih (n / 128) (by omega) q h (by simp at hl; omega)
        intro x hx
        rcases List.mem_cons.1 hx with rfl | hx
        · rw [UInt8.toNat_ofNat', Nat.mod_eq_of_lt (by omega)]
          omega
        · exact this x hx
theorem whereB_great (l : List UInt8) (h : ∀ x ∈ l, 128 ≤ x.toNat) : whereB l = 0 := by
  induction l with
  | nil => rfl
  | cons c r ih =>
    rw [whereB, if_neg (by have := h c (by simp); omega), ih (fun x hx => h x (by simp [hx])), if_pos rfl]
theorem readN_cut (n most : Nat) (hn : n < 18446744073709551616) (p : List UInt8) (h : p <+: numB n) (hl : p.length < (numB n).length) : readN p most = (0, 10, 0) := by
  have := numB_ten n hn
  unfold readN
  rw [whereB_great p (numB_great n p h hl), if_pos ⟨rfl, by omega⟩]
theorem numB_mono (a b : Nat) (h : a ≤ b) : (numB a).length ≤ (numB b).length := by
  induction a using Nat.strongRecOn generalizing b with
  | ind a ih =>
    by_cases hs : a < 128
    · rw [numB_small hs]
      exact numB_pos b
    · rw [numB_big hs, numB_big (by omega : ¬ b < 128), List.length_cons, List.length_cons]
      exact Nat.succ_le_succ (ih (a / 128) (by omega) (b / 128) (Nat.div_le_div_right h))
theorem numB_prefix (a b : Nat) (ha : a < 18446744073709551616) (hb : b < 18446744073709551616) (h : numB a <+: numB b) : a = b := by
  obtain ⟨r, hr⟩ := h
  have h1 := readN_numB a 18446744073709551615 ha r
  have h2 := readN_numB b 18446744073709551615 hb []
  rw [List.append_nil, ← hr, h1, if_neg (by omega), if_neg (by omega)] at h2
  exact (Prod.mk.inj h2).1
/-- What is read without a bound tells what is read with one. -/
theorem readN_top (l : List UInt8) (most : Nat) (hm : most ≤ 18446744073709551615) :
    ((readN l 18446744073709551615).2.1 = 0 ∧ readN l most = if most < (readN l 18446744073709551615).1 then (0, 12, 0) else readN l 18446744073709551615) ∨
    ((readN l 18446744073709551615).2.1 ≠ 0 ∧ (readN l 18446744073709551615).2.1 ≠ 12 ∧ readN l most = readN l 18446744073709551615) := by
  unfold readN
  by_cases h1 : whereB l = 0 ∧ l.length < 10
  · right; simp [h1]
  · by_cases h2 : whereB l = 0 ∨ 10 < whereB l
    · right; rw [if_neg h1, if_neg h1, if_pos h2, if_pos h2]; simp
    · by_cases h3 : numB (valB (l.take (whereB l)) % 18446744073709551616) ≠ l.take (whereB l)
      · right; rw [if_neg h1, if_neg h1, if_neg h2, if_neg h2, if_pos h3, if_pos h3]; simp
      · left
        have h4 : valB (l.take (whereB l)) % 18446744073709551616 < 18446744073709551616 := Nat.mod_lt _ (by omega)
        rw [if_neg h1, if_neg h1, if_neg h2, if_neg h2, if_neg h3, if_neg h3, if_neg (by omega : ¬ 18446744073709551615 < _)]
        exact ⟨rfl, rfl⟩
theorem readN_zero {l : List UInt8} {m : Nat} (he : (readN l m).2.1 ≠ 0) : (readN l m).2.2 = 0 := by
  unfold readN at he ⊢
  split
  · rfl
  split
  · rfl
  split
  · rfl
  split
  · rfl
  rename_i h1 h2 h3 h4
  rw [if_neg h1, if_neg h2, if_neg h3, if_neg h4] at he
  exact absurd rfl he
/-- What a call writes. -/
def encOp (o : OpV) : List UInt8 := if o.k = 0 then numB o.n else if o.k = 1 then numB o.l.length ++ o.l else if o.k = 2 then o.l else []
def encL (L : List OpV) : List UInt8 := (L.map encOp).flatten
theorem encL_take (L : List OpV) (k : Nat) (h : k < L.length) : encL (L.take (k + 1)) = encL (L.take k) ++ encOp L[k] := by
  unfold encL
  rw [List.take_succ_eq_append_getElem h, List.map_append, List.flatten_append, List.map_singleton, List.flatten_singleton]
theorem encL_drop (L : List OpV) (k : Nat) (h : k < L.length) : encL (L.drop k) = encOp L[k] ++ encL (L.drop (k + 1)) := by
  unfold encL
  rw [List.drop_eq_getElem_cons h, List.map_cons, List.flatten_cons]
theorem encL_all (L : List OpV) (k : Nat) : encL L = encL (L.take k) ++ encL (L.drop k) := by
  unfold encL
  rw [← List.flatten_append, ← List.map_append, List.take_append_drop]
/-- What is read of a call's bytes: the error, and what is left. -/
def readOp (o : OpV) (p : List UInt8) : Int × List UInt8 :=
  if o.k = 0 then (((readN p o.n).2.1 : Int), p.drop (readN p o.n).2.2) else if o.k = 1 then ((bytesR p o.l.length).1, (bytesR p o.l.length).2.2) else if o.k = 2 then ((rawR p o.l.length).1, (rawR p o.l.length).2.2) else (0, p)
theorem rawR_cut (p : List UInt8) (n : Nat) (h : p.length < n) : rawR p (n : Int) = (10, [], p) := by
  unfold rawR
  rw [if_neg (by omega), if_pos (by omega)]
/-- A beginning of what was written: the next call's bytes are there, or too few. -/
theorem cut_op (o : OpV) (hn : o.n < 18446744073709551616) (hl : o.l.length < 18446744073709551616) (r p : List UInt8) (h : p <+: encOp o ++ r) :
    (∃ q, p = encOp o ++ q ∧ q <+: r ∧ readOp o p = (0, q)) ∨ (p.length < (encOp o).length ∧ (readOp o p).1 = 10) := by
  rcases Nat.lt_or_ge p.length (encOp o).length with hlt | hge
  · refine .inr ⟨hlt, ?_⟩
    have hp : p <+: encOp o := List.prefix_of_prefix_length_le h (List.prefix_append _ _) (Nat.le_of_lt hlt)
    unfold readOp
    unfold encOp at hlt hp
    by_cases h0 : o.k = 0
    · rw [if_pos h0] at hlt hp ⊢
      rw [readN_cut o.n o.n hn p hp hlt]
      rfl
    · rw [if_neg h0] at hlt hp ⊢
      by_cases h1 : o.k = 1
      · rw [if_pos h1] at hlt hp ⊢
        rcases Nat.lt_or_ge p.length (numB o.l.length).length with h2 | h2
        · have hq : p <+: numB o.l.length := List.prefix_of_prefix_length_le hp (List.prefix_append _ _) (Nat.le_of_lt h2)
          have := readN_cut o.l.length o.l.length hl p hq h2
          unfold bytesR
          rw [show (max 0 (o.l.length : Int)).toNat = o.l.length by omega, this]
          simp
        · have hq : numB o.l.length <+: p := List.prefix_of_prefix_length_le (List.prefix_append _ _) hp h2
          obtain ⟨q, rfl⟩ := hq
          have h3 : q.length < o.l.length := by rw [List.length_append, List.length_append] at hlt; omega
          unfold bytesR
          rw [show (max 0 (o.l.length : Int)).toNat = o.l.length by omega, readN_numB _ _ hl, if_neg (Nat.lt_irrefl _)]
          simp only [List.drop_left]
          rw [rawR_cut q o.l.length h3]
          simp
      · rw [if_neg h1] at hlt hp ⊢
        by_cases h2 : o.k = 2
        · rw [if_pos h2] at hlt ⊢
          rw [rawR_cut p o.l.length hlt]
        · rw [if_neg h2] at hlt
          simp at hlt
  · have hp : encOp o <+: p := List.prefix_of_prefix_length_le (List.prefix_append _ _) h hge
    obtain ⟨q, rfl⟩ := hp
    refine .inl ⟨q, rfl, (List.prefix_append_right_inj _).1 h, ?_⟩
    unfold readOp encOp
    by_cases h0 : o.k = 0
    · rw [if_pos h0, if_pos h0, readN_numB _ _ hn, if_neg (Nat.lt_irrefl _)]
      simp
    · rw [if_neg h0, if_neg h0]
      by_cases h1 : o.k = 1
      · rw [if_pos h1, if_pos h1, bytesR_app _ _ hl]
      · rw [if_neg h1, if_neg h1]
        by_cases h2 : o.k = 2
        · rw [if_pos h2, if_pos h2, rawR_app]
        · rw [if_neg h2, if_neg h2]
          rfl
end Go.Proofs.Ytfifbjlmbdgmjaa
