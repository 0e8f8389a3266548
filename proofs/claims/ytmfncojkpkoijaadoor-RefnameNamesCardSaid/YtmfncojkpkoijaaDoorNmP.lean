/- Names of refs: parts, rules; plain. No program is in sight. -/
import Derived.Test.YtmfncojkpkoijaaDoorB
import Derived.Lib.SplitLaws
import Derived.Lib.Join
import Derived.Lib.IndexLaws
import Derived.Lib.IndexMore
namespace Go.Proofs.YtmfncojkpkoijaaDoor
open Go.RowKit
set_option linter.unusedVariables false

/-! ### Parts: what stands between slashes -/
def partsL : List UInt8 → List (List UInt8)
  | [] => [[]]
  | c :: r => if c = 47 then [] :: partsL r else (c :: (partsL r).headD []) :: (partsL r).tail
theorem partsL_ne (l : List UInt8) : partsL l ≠ [] := by
  cases l with
  | nil => exact fun h => by cases h
  | cons c r => unfold partsL; split <;> exact fun h => by cases h
theorem partsL_slash (r : List UInt8) : partsL (47 :: r) = [] :: partsL r := by rw [partsL, if_pos rfl]
theorem partsL_other {c : UInt8} (h : c ≠ 47) (r : List UInt8) : ∃ p ps, partsL r = p :: ps ∧ partsL (c :: r) = (c :: p) :: ps := by
  cases hq : partsL r with
  | nil => exact absurd hq (partsL_ne r)
  | cons p ps => exact ⟨p, ps, rfl, by rw [partsL, if_neg h, hq]; rfl⟩
/-- No slash: one part. -/
theorem partsL_one {l : List UInt8} (h : ∀ c ∈ l, c ≠ 47) : partsL l = [l] := by
  induction l with
  | nil => rfl
  | cons c r ih =>
    obtain ⟨p, ps, h1, h2⟩ := partsL_other (h c (List.mem_cons_self ..)) r
    rw [ih fun d hd => h d (List.mem_cons_of_mem _ hd)] at h1
    injection h1 with h3 h4
    rw [h2, ← h3, ← h4]
/-- What stands ahead of the first slash, and behind it. -/
theorem partsL_cut {a : List UInt8} (h : ∀ c ∈ a, c ≠ 47) (r : List UInt8) : partsL (a ++ 47 :: r) = a :: partsL r := by
  induction a with
  | nil => exact partsL_slash r
  | cons c a ih =>
    obtain ⟨p, ps, h1, h2⟩ := partsL_other (h c (List.mem_cons_self ..)) (a ++ 47 :: r)
    rw [ih fun d hd => h d (List.mem_cons_of_mem _ hd)] at h1
    injection h1 with h3 h4
    rw [List.cons_append, h2, ← h3, ← h4]
/-- No part has a slash. -/
theorem partsL_free (l : List UInt8) : ∀ p ∈ partsL l, ∀ c ∈ p, c ≠ 47 := by
  induction l with
  | nil => intro p hp c hc; simp [partsL] at hp; subst hp; cases hc
  | cons d r ih =>
    intro p hp c hc
    by_cases h : d = 47
    · subst h
      rw [partsL_slash] at hp
      rcases List.mem_cons.1 hp with rfl | hp
      · cases hc
      · exact ih p hp c hc
    · obtain ⟨q, qs, h1, h2⟩ := partsL_other h r
      rw [h2] at hp
      rw [h1] at ih
      rcases List.mem_cons.1 hp with rfl | hp
      · rcases List.mem_cons.1 hc with rfl | hc
        · exact h
        · exact ih q (List.mem_cons_self ..) c hc
      · exact ih p (List.mem_cons_of_mem _ hp) c hc
/-- The parts, a slash between, are the text. -/
theorem joinTail_parts (l : List UInt8) : ∃ p ps, partsL l = p :: ps ∧ p ++ Lib.joinTail [47] ps = l := by
  induction l with
  | nil => exact ⟨[], [], rfl, rfl⟩
  | cons c r ih =>
    obtain ⟨p, ps, h1, h2⟩ := ih
    by_cases h : c = 47
    · subst h
      refine ⟨[], p :: ps, by rw [partsL_slash, h1], ?_⟩
      show [] ++ ((p :: ps).map ([47] ++ ·)).flatten = _
      rw [List.map_cons, List.flatten_cons]
      show 47 :: (p ++ Lib.joinTail [47] ps) = _
      rw [h2]
    · obtain ⟨q, qs, h3, h4⟩ := partsL_other h r
      rw [h1] at h3
      injection h3 with h5 h6
      refine ⟨c :: p, ps, by rw [h4, ← h5, ← h6], ?_⟩
      rw [List.cons_append, h2]
theorem join_parts (l : List UInt8) : Lib.join (partsL l) [47] = l := by
  obtain ⟨p, ps, h1, h2⟩ := joinTail_parts l
  rw [h1, Lib.join_cons, h2]
/-- Parts without a slash, joined, have these parts. -/
theorem parts_joinTail (p : List UInt8) (ps : List (List UInt8)) (hp : ∀ c ∈ p, c ≠ 47) (hps : ∀ q ∈ ps, ∀ c ∈ q, c ≠ 47) : partsL (p ++ Lib.joinTail [47] ps) = p :: ps := by
  induction ps generalizing p with
  | nil => show partsL (p ++ []) = _; rw [List.append_nil]; exact partsL_one hp
  | cons q qs ih =>
    have e : Lib.joinTail [47] (q :: qs) = 47 :: (q ++ Lib.joinTail [47] qs) := by
      show ((q :: qs).map ([47] ++ ·)).flatten = _
      rw [List.map_cons, List.flatten_cons]
      rfl
    rw [e, partsL_cut hp, ih q (hps q (List.mem_cons_self ..)) fun r hr => hps r (List.mem_cons_of_mem _ hr)]
theorem parts_join (ps : List (List UInt8)) (h0 : ps ≠ []) (hps : ∀ q ∈ ps, ∀ c ∈ q, c ≠ 47) : partsL (Lib.join ps [47]) = ps := by
  cases ps with
  | nil => exact absurd rfl h0
  | cons p ps => rw [Lib.join_cons, parts_joinTail p ps (hps p (List.mem_cons_self ..)) fun q hq => hps q (List.mem_cons_of_mem _ hq)]

/-! ### A sublist of one byte, of two bytes -/
theorem index_byte (c : UInt8) (l : List UInt8) : (Lib.index l [c] = -1 ∧ ∀ d ∈ l, d ≠ c) ∨ ∃ a r, l = a ++ c :: r ∧ (∀ d ∈ a, d ≠ c) ∧ Lib.index l [c] = (a.length : Int) := by
  induction l with
  | nil => exact .inl ⟨rfl, fun d hd => by cases hd⟩
  | cons b l ih =>
    by_cases h : b = c
    · subst h
      refine .inr ⟨[], l, rfl, (fun d hd => by cases hd), ?_⟩
      unfold Lib.index
      simp
    · have hb : ([c] : List UInt8).isPrefixOf (b :: l) = false := by
        simp only [List.isPrefixOf, Bool.and_true]
        exact beq_eq_false_iff_ne.2 fun e => h e.symm
      rcases ih with ⟨h1, h2⟩ | ⟨a, r, rfl, h2, h3⟩
      · refine .inl ⟨?_, fun d hd => ?_⟩
        · unfold Lib.index; rw [hb, h1]; rfl
        · rcases List.mem_cons.1 hd with rfl | hd
          · exact h
          · exact h2 d hd
      · refine .inr ⟨b :: a, r, rfl, fun d hd => ?_, ?_⟩
        · rcases List.mem_cons.1 hd with rfl | hd
          · exact h
          · exact h2 d hd
        · unfold Lib.index
          rw [hb, h3]
          have : ((a.length : Int) == -1) = false := by rw [beq_eq_false_iff_ne]; omega
          simp [this]
theorem contains_cons (b : UInt8) (l sub : List UInt8) : Lib.contains (b :: l) sub = (sub.isPrefixOf (b :: l) || Lib.contains l sub) := by
  unfold Lib.contains
  rw [Lib.index]
  split
  · rename_i h; simp [h]
  · rename_i h
    rw [Bool.not_eq_true] at h
    rw [h, Bool.false_or]
    have := Lib.index_ge l sub
    split
    · rename_i h1; rw [beq_iff_eq] at h1; rw [h1]
    · rename_i h1
      have h2 : Lib.index l sub ≠ -1 := fun e => h1 (by rw [e]; rfl)
      by_cases h3 : 0 ≤ Lib.index l sub
      · rw [decide_eq_true h3, decide_eq_true (by omega)]
      · omega
theorem contains_one (c : UInt8) (l : List UInt8) : Lib.contains l [c] = l.contains c := by
  induction l with
  | nil => rfl
  | cons b l ih =>
    rw [contains_cons, ih, List.contains_cons]
    congr 1
    simp [List.isPrefixOf]
def pairL (a b : UInt8) : List UInt8 → Bool
  | c :: d :: r => (c == a && d == b) || pairL a b (d :: r)
  | _ => false
theorem contains_two (a b : UInt8) (l : List UInt8) : Lib.contains l [a, b] = pairL a b l := by
  induction l with
  | nil => rfl
  | cons c l ih =>
    rw [contains_cons, ih]
    cases l with
    | nil => simp [pairL, List.isPrefixOf]
    | cons d r =>
      rw [pairL]
      congr 1
      simp only [List.isPrefixOf, Bool.and_true]
      rw [Bool.beq_comm, Bool.beq_comm (a := b)]
theorem pairL_iff (a b : UInt8) (l : List UInt8) : pairL a b l = true ↔ ∃ j, l[j]? = some a ∧ l[j + 1]? = some b := by
  induction l with
  | nil => simp [pairL]
  | cons c l ih =>
    cases l with
    | nil => simp [pairL]
    | cons d r =>
      rw [pairL, Bool.or_eq_true, ih, Bool.and_eq_true, beq_iff_eq, beq_iff_eq]
      constructor
      · rintro (⟨rfl, rfl⟩ | ⟨j, h1, h2⟩)
        · exact ⟨0, rfl, rfl⟩
        · exact ⟨j + 1, h1, h2⟩
      · rintro ⟨j, h1, h2⟩
        cases j with
        | zero => left; simpa using And.intro h1 h2
        | succ j => right; exact ⟨j, h1, h2⟩

/-! ### strings.Split at a slash -/
theorem bstr_data (l : List UInt8) : (bstr l).data.toList = l := rfl
theorem splitB_parts (l : List UInt8) : ∀ k, Lib.countB (bstr l) (bstr [47]) = k → Lib.splitB (bstr [47]) 0 k (bstr l) = (partsL l).map bstr := by
  obtain ⟨n, hn⟩ : ∃ n, l.length = n := ⟨_, rfl⟩
  induction n using Nat.strongRecOn generalizing l with
  | ind n ih =>
    intro k hk
    rcases index_byte 47 l with ⟨h1, h2⟩ | ⟨a, r, rfl, h2, h3⟩
    · have hx : Lib.indexB (bstr l) (bstr [47]) = -1 := h1
      rw [Lib.splitB_miss _ _ _ _ hx, partsL_one h2]
      rfl
    · have hx : Lib.indexB (bstr (a ++ 47 :: r)) (bstr [47]) = (a.length : Int) := h3
      have e1 : (bstr (a ++ 47 :: r)).extract (a.length + (bstr [47]).size) (bstr (a ++ 47 :: r)).size = bstr r := by
        rw [Lib.extract_eq]
        show bstr (((a ++ 47 :: r).drop (a.length + 1)).take ((a ++ 47 :: r).length - (a.length + 1))) = _
        rw [List.drop_append, List.drop_of_length_le (by omega), show a.length + 1 - a.length = 1 by omega, List.nil_append, List.drop_succ_cons, List.drop_zero, List.take_of_length_le (by simp; omega)]
      have e0 : (bstr (a ++ 47 :: r)).extract 0 (a.length + 0) = bstr a := by
        rw [Lib.extract_eq]
        show bstr (((a ++ 47 :: r).drop 0).take (a.length + 0 - 0)) = _
        rw [List.drop_zero, Nat.add_zero, Nat.sub_zero, List.take_append_of_le_length (Nat.le_refl _), List.take_length]
      have hc := Lib.countB_hit (bstr (a ++ 47 :: r)) (bstr [47]) a.length (Nat.le_refl _) hx
      rw [e1] at hc
      have hk1 : k = Lib.countB (bstr r) (bstr [47]) + 1 := by omega
      rw [hk1, Lib.splitB_hit _ _ _ _ _ hx, e0, e1, partsL_cut h2, List.map_cons]
      congr 1
      refine ih r.length (by simp at hn; omega) r rfl _ rfl
theorem splitB_parts_len (l : List UInt8) : Lib.countB (bstr l) (bstr [47]) + 1 = (partsL l).length := by
  have h1 := Lib.splitB_all (bstr [47]) (Nat.le_refl _) 0 _ (bstr l) rfl
  rw [splitB_parts l _ rfl, List.length_map] at h1
  exact h1.symm

/-! ### The rules -/
def wrongL : List UInt8 := [126, 94, 58, 63, 42, 91, 92]
def mayB (c : UInt8) : Bool := decide (33 ≤ c.toNat) && (decide (c.toNat ≤ 126) && !wrongL.contains c)
def lockL : List UInt8 := [46, 108, 111, 99, 107]
def brL (l : List UInt8) : Nat :=
  if l.length < 1 ∨ 100 < l.length then 1
  else if l.all mayB = false then 2
  else if (partsL l).any (·.isEmpty) then 3
  else if (partsL l).any (fun p => p.head? == some 46) then 4
  else if pairL 46 46 l then 5
  else if (partsL l).any (fun p => lockL.isSuffixOf p) then 6
  else if l.getLast? == some 46 then 7
  else if pairL 64 123 l then 8
  else 0
theorem brL_lt (l : List UInt8) : brL l ≤ 8 := by
  unfold brL
  repeat' split
  all_goals omega
theorem brL_long {l : List UInt8} (h : brL l = 0) : 1 ≤ l.length ∧ l.length ≤ 100 := by
  unfold brL at h
  split at h
  · omega
  · omega
theorem head_dot (p : List UInt8) : Lib.hasPrefix p [46] = (p.head? == some 46) := by
  cases p with
  | nil => rfl
  | cons c r =>
    unfold Lib.hasPrefix
    simp only [List.isPrefixOf, Bool.and_true, List.head?_cons]
    by_cases h : c = 46
    · subst h; rfl
    · rw [beq_eq_false_iff_ne.2 fun e => h e.symm]
      exact (beq_eq_false_iff_ne.2 fun e => h (Option.some.inj e)).symm
theorem last_dot (p : List UInt8) : Lib.hasSuffix p [46] = (p.getLast? == some 46) := by
  unfold Lib.hasSuffix List.isSuffixOf
  rw [← List.head?_reverse]
  have := head_dot p.reverse
  unfold Lib.hasPrefix at this
  rw [← this]
  rfl
end Go.Proofs.YtmfncojkpkoijaaDoor
