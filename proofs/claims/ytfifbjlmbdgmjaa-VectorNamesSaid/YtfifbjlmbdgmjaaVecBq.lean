/- Vectors: what is written is read; what is read was written. No program in sight. -/
import Derived.Test.YtfifbjlmbdgmjaaVecFo
import Derived.Test.YtfifbjlmbdgmjaaLebPl
namespace Go.Proofs.Ytfifbjlmbdgmjaa
open Go.RowKit

theorem decI_flat (xs : List Nat) (hs : small xs) (r : List UInt8) (k : Nat) (hk : k ≤ xs.length) : decI ((xs.map numB).flatten ++ r) k = (xs.take k, 0, ((xs.drop k).map numB).flatten ++ r) := by
  induction k with
  | zero => simp [decI]
  | succ k ih =>
    have hk' : k < xs.length := hk
    have h1 := hs xs[k] (List.getElem_mem hk')
    have hd : ((xs.drop k).map numB).flatten ++ r = numB xs[k] ++ (((xs.drop (k + 1)).map numB).flatten ++ r) := by
      rw [List.drop_eq_getElem_cons hk', List.map_cons, List.flatten_cons, List.append_assoc]
    have hr := readN_numB xs[k] 4294967295 (by omega) (((xs.drop (k + 1)).map numB).flatten ++ r)
    rw [if_neg (by omega)] at hr
    rw [decI, ih (by omega)]
    simp only [hd, hr]
    rw [if_neg (by simp), if_neg (by simp), List.drop_left, List.take_succ_eq_append_getElem hk']
theorem manyK_pos (v : List Nat) (k : Nat) (h : 0 < manyK v k) : 0 < v.getD (manyK v k - 1) 0 := by
  induction k with
  | zero => simp [manyK] at h
  | succ k ih =>
    rw [manyK] at h ⊢
    split
    · rename_i h1
      simpa using h1
    · rename_i h1
      rw [if_neg h1] at h
      exact ih h
theorem manyK_zero (v : List Nat) (k j : Nat) (h : manyK v k ≤ j) (hj : j < k) : v.getD j 0 = 0 := by
  induction k with
  | zero => omega
  | succ k ih =>
    rw [manyK] at h
    split at h
    · omega
    · rename_i h1
      rcases Nat.lt_succ_iff_lt_or_eq.1 hj with h2 | h2
      · exact ih h h2
      · subst h2; omega
theorem manyK_eq (v : List Nat) (N k : Nat) (hN : N ≤ k) (h1 : N = 0 ∨ 0 < v.getD (N - 1) 0) (h2 : ∀ j, N ≤ j → j < k → v.getD j 0 = 0) : manyK v k = N := by
  rcases Nat.lt_trichotomy (manyK v k) N with h | h | h
  · have := manyK_zero v k (N - 1) (by omega) (by omega)
    omega
  · exact h
  · have h3 := manyK_pos v k (by omega)
    have := h2 (manyK v k - 1) (by omega) (by have := manyK_le v k; omega)
    omega
theorem padV_take (v : List Nat) (hv : v.length = 16) (m : Nat) (hm : m ≤ 16) (h : ∀ j, m ≤ j → j < 16 → v.getD j 0 = 0) : padV (v.take m) = v := by
  apply List.ext_getElem?
  intro i
  unfold padV
  by_cases hi : i < m
  · rw [List.getElem?_append_left (by rw [List.length_take]; omega), List.getElem?_take, if_pos hi]
  · rw [List.getElem?_append_right (by rw [List.length_take]; omega), List.getElem?_replicate, List.length_take]
    by_cases h16 : i < 16
    · have h2 : i < v.length := by omega
      have := h i (by omega) h16
      rw [List.getD_eq_getElem?_getD, List.getElem?_eq_getElem h2] at this
      rw [if_pos (by omega), List.getElem?_eq_getElem h2]
      simp only [Option.getD_some] at this
      rw [this]
    · rw [if_neg (by omega), List.getElem?_eq_none (by omega)]
theorem decV_encV (v : List Nat) (hv : VecOK v) (b : List UInt8) : decV (encV v ++ b) = (v, 0, b) := by
  have hm := manyK_le v 16
  have hp := manyK_pos v 16
  have hz := manyK_zero v 16
  have henc : encV v = numB (manyK v 16) ++ ((v.take (manyK v 16)).map numB).flatten := rfl
  generalize manyK v 16 = m at *
  have hr := readN_numB m 16 (by omega) (((v.take m).map numB).flatten ++ b)
  rw [if_neg (by omega)] at hr
  have hlen : (v.take m).length = m := by rw [List.length_take, hv.1]; omega
  have hd := decI_flat (v.take m) (fun x hx => hv.2 x (List.mem_of_mem_take hx)) b m (by omega)
  have e1 : (v.take m).take m = v.take m := List.take_of_length_le (by omega)
  have e2 : (v.take m).drop m = [] := List.drop_of_length_le (by omega)
  rw [e1, e2] at hd
  simp only [List.map_nil, List.flatten_nil, List.nil_append] at hd
  rw [decV, henc, List.append_assoc]
  simp only [hr, List.drop_left]
  rw [hd]
  simp only
  have hpad := padV_take v hv.1 m hm (fun j h1 h2 => hz j h1 h2)
  rw [if_neg (by simp), if_neg (by simp), hpad, if_neg]
  rintro ⟨h0, h1⟩
  have := hp h0
  omega
theorem decI_bytes {l : List UInt8} {k : Nat} {xs : List Nat} {r : List UInt8} (h : decI l k = (xs, 0, r)) : l = (xs.map numB).flatten ++ r := by
  induction k generalizing xs r with
  | zero =>
    rw [decI] at h
    cases h
    rfl
  | succ k ih =>
    rw [decI] at h
    split at h
    · rename_i h1
      rw [h] at h1
      exact absurd rfl h1
    · rename_i h1
      split at h
      · rename_i h2
        injection h with _ h3
        injection h3 with h3 _
        exact absurd h3 h2
      · rename_i h2
        injection h with h3 h4
        injection h4 with _ h5
        have h6 := ih (xs := (decI l k).1) (r := (decI l k).2.2) (by
          have : (decI l k).2.1 = 0 := by omega
          rw [← this])
        have h7 := readN_ok (l := (decI l k).2.2) (most := 4294967295) (n := (readN (decI l k).2.2 4294967295).1) (k := (readN (decI l k).2.2 4294967295).2.2) (by
          have : (readN (decI l k).2.2 4294967295).2.1 = 0 := by omega
          rw [← this])
        rw [← h3, List.map_append, List.flatten_append, List.append_assoc]
        simp only [List.map_cons, List.map_nil, List.flatten_cons, List.flatten_nil, List.append_nil]
        rw [← h5, h7.1, List.take_append_drop]
        exact h6
theorem decV_err {l : List UInt8} (h : (decV l).2.1 ≠ 0) : (decV l).1 = z16 := by
  unfold decV at h ⊢
  split
  · rfl
  · split
    · rfl
    · split
      · rfl
      · rename_i h1 h2 h3
        rw [if_neg h1, if_neg h2, if_neg h3] at h
        exact absurd rfl h
theorem decV_bytes {l : List UInt8} (h : (decV l).2.1 = 0) : l = encV (decV l).1 ++ (decV l).2.2 := by
  unfold decV at h ⊢
  split
  · rename_i h1
    rw [if_pos h1] at h
    exact absurd h h1
  · rename_i h1
    rw [if_neg h1] at h
    split
    · rename_i h2
      rw [if_pos h2] at h
      exact absurd h h2
    · rename_i h2
      rw [if_neg h2] at h
      split
      · rename_i h3
        rw [if_pos h3] at h
        cases h
      · rename_i h3
        have hN := readN_le (l := l) (m := 16) (by omega)
        have h7 := readN_ok (l := l) (most := 16) (n := (readN l 16).1) (k := (readN l 16).2.2) (by
          have : (readN l 16).2.1 = 0 := by omega
          rw [← this])
        obtain ⟨hxl, _⟩ := decI_length (l := l.drop (readN l 16).2.2) (i := (readN l 16).1) (by omega)
        have h8 := decI_bytes (l := l.drop (readN l 16).2.2) (k := (readN l 16).1) (xs := (decI (l.drop (readN l 16).2.2) (readN l 16).1).1) (r := (decI (l.drop (readN l 16).2.2) (readN l 16).1).2.2) (by
          have : (decI (l.drop (readN l 16).2.2) (readN l 16).1).2.1 = 0 := by omega
          rw [← this])
        generalize (decI (l.drop (readN l 16).2.2) (readN l 16).1).1 = xs at *
        generalize (decI (l.drop (readN l 16).2.2) (readN l 16).1).2.2 = r at *
        generalize (readN l 16).1 = N at *
        generalize (readN l 16).2.2 = k at *
        have hget : ∀ j, N ≤ j → j < 16 → (padV xs).getD j 0 = 0 := fun j h4 h5 => by
          unfold padV
          rw [List.getD_eq_getElem?_getD, List.getElem?_append_right (by omega), List.getElem?_replicate, if_pos (by omega)]
          rfl
        have hmany : manyK (padV xs) 16 = N := manyK_eq _ _ _ hN (by
          rcases Nat.eq_zero_or_pos N with h4 | h4
          · exact .inl h4
          · exact .inr (Nat.pos_of_ne_zero fun e => h3 ⟨h4, e⟩)) hget
        have htake : (padV xs).take N = xs := by unfold padV; rw [List.take_append_of_le_length (by omega), List.take_of_length_le (by omega)]
        unfold encV
        rw [hmany, htake, h7.1, List.append_assoc, ← h8, List.take_append_drop]
end Go.Proofs.Ytfifbjlmbdgmjaa
