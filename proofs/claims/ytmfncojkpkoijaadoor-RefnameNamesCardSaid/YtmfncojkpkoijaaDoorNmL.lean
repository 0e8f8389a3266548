/- Names of refs: plain laws: a conflict name is no ref's name, and is made of its ref and tip; of a name's parts as many first ones. No program is in sight. -/
import Derived.Test.YtmfncojkpkoijaaDoorNmF
import Derived.Test.YtmfncojkpkoijaaDoorShaBp
namespace Go.Proofs.YtmfncojkpkoijaaDoor
open Go.RowKit
set_option linter.unusedVariables false

theorem br_all {l : List UInt8} (h : brL l = 0) : ∀ c ∈ l, mayB c = true := by
  unfold brL at h
  split at h
  · cases h
  · split at h
    · cases h
    · rename_i h2
      rw [Bool.not_eq_false] at h2
      exact List.all_eq_true.1 h2
theorem br_tilde {l : List UInt8} (h : (126 : UInt8) ∈ l) : brL l ≠ 0 := fun h0 => by
  have := br_all h0 126 h
  revert this
  decide
theorem br_free {l : List UInt8} (h : brL l = 0) : ∀ c ∈ l, c ≠ 126 := fun c hc e => by subst e; exact br_tilde hc h
theorem splL_ok {n : List UInt8} (h : brL n = 0) : splL n = (n, zeros, false, 0) := by rw [splL_none' (cutL_none (br_free h)), if_pos h]
where splL_none' {n : List UInt8} (hc : cutL n = (n, none)) : splL n = if brL n = 0 then (n, zeros, false, 0) else ([], zeros, false, 40) := by unfold splL; rw [hc]
theorem okB_textB (t : List UInt8) (ht : t.length = 32) : okB (textB t) = true := by
  unfold okB
  rw [Bool.and_eq_true, beq_iff_eq, textB_length, ht]
  exact ⟨rfl, List.all_eq_true.2 fun c hc => decide_eq_true (textB_ok t c hc)⟩
theorem splL_conf {r t : List UInt8} (hr : brL r = 0) (ht : t.length = 32) : splL (confL r t) = (r, t, true, 0) := by
  have hc : cutL (confL r t) = (r, some (textB t)) := cutL_some (br_free hr) _
  unfold splL
  rw [hc]
  simp only
  rw [if_pos ⟨okB_textB t ht, hr⟩, (parse_text t ht).1]
theorem conf_tilde (r t : List UInt8) : (126 : UInt8) ∈ confL r t := by unfold confL; simp
theorem conf_inj {a b x y : List UInt8} (ha : brL a = 0) (hb : brL b = 0) (hx : x.length = 32) (hy : y.length = 32) (h : confL a x = confL b y) : a = b ∧ x = y := by
  have h1 := splL_conf ha hx
  rw [h, splL_conf hb hy] at h1
  simp only [Prod.mk.injEq] at h1
  exact ⟨h1.1.symm, h1.2.1.symm⟩
/-- What was split, without an error: put together again. -/
theorem spl_back {n : List UInt8} (h : (splL n).2.2.2 = 0) : brL (splL n).1 = 0 ∧ ((splL n).2.2.1 = false → (splL n).1 = n) ∧ ((splL n).2.2.1 = true → confL (splL n).1 (splL n).2.1 = n) := by
  rcases cutL_cases n with ⟨hc, _⟩ | ⟨a, r, hn, _, hc⟩
  · have e : splL n = if brL n = 0 then (n, zeros, false, 0) else ([], zeros, false, 40) := by unfold splL; rw [hc]
    rw [e] at h ⊢
    by_cases hb : brL n = 0
    · rw [if_pos hb]
      exact ⟨hb, fun _ => rfl, fun h => (by cases h)⟩
    · rw [if_neg hb] at h
      cases h
  · have e : splL n = if okB r = true ∧ brL a = 0 then (a, parseL r, true, 0) else ([], zeros, false, 40) := by unfold splL; rw [hc]
    rw [e] at h ⊢
    by_cases hb : okB r = true ∧ brL a = 0
    · rw [if_pos hb]
      refine ⟨hb.2, (fun h => (by cases h)), fun _ => ?_⟩
      show a ++ 126 :: textB (parseL r) = n
      rw [text_parse r hb.1, hn]
    · rw [if_neg hb] at h
      cases h
/-- What was split, with an error, is no ref's name. -/
theorem spl_err {n : List UInt8} (h : (splL n).2.2.2 ≠ 0) : brL n ≠ 0 := fun hb => by rw [splL_ok hb] at h; exact h rfl

/-! ### As many first parts -/
theorem joinTail_append (a b : List (List UInt8)) : Lib.joinTail [47] (a ++ b) = Lib.joinTail [47] a ++ Lib.joinTail [47] b := by
  unfold Lib.joinTail
  rw [List.map_append, List.flatten_append]
/-- The first i parts, joined: the name itself, or what stands ahead of a slash. -/
theorem front_of {ps : List (List UInt8)} (i : Nat) (h0 : 0 < i) (hi : i ≤ ps.length) : ∃ rest, Lib.join ps [47] = Lib.join (ps.take i) [47] ++ rest ∧ (rest = [] ∨ ∃ r, rest = 47 :: r) := by
  cases ps with
  | nil => simp at hi; omega
  | cons p ps =>
    obtain ⟨k, rfl⟩ : ∃ k, i = k + 1 := ⟨i - 1, by omega⟩
    rw [List.take_succ_cons, Lib.join_cons, Lib.join_cons]
    refine ⟨Lib.joinTail [47] (ps.drop k), ?_, ?_⟩
    · conv => lhs; rw [← List.take_append_drop k ps]
      rw [joinTail_append, List.append_assoc]
    · cases ps.drop k with
      | nil => exact .inl rfl
      | cons q qs =>
        refine .inr ⟨q ++ Lib.joinTail [47] qs, ?_⟩
        show ((q :: qs).map ([47] ++ ·)).flatten = _
        rw [List.map_cons, List.flatten_cons]
        rfl
theorem pairL_left {a b : UInt8} {l m : List UInt8} (h : pairL a b (l ++ m) = false) : pairL a b l = false := by
  rw [← Bool.not_eq_true, pairL_iff] at h ⊢
  rintro ⟨j, h1, h2⟩
  refine h ⟨j, ?_, ?_⟩
  · rw [List.getElem?_append_left (List.getElem?_eq_some_iff.1 h1).1]; exact h1
  · rw [List.getElem?_append_left (List.getElem?_eq_some_iff.1 h2).1]; exact h2
theorem br_facts {l : List UInt8} (h : brL l = 0) : (1 ≤ l.length ∧ l.length ≤ 100) ∧ l.all mayB = true ∧ (partsL l).any (·.isEmpty) = false ∧ (partsL l).any (fun p => p.head? == some 46) = false ∧ pairL 46 46 l = false ∧ (partsL l).any (fun p => lockL.isSuffixOf p) = false ∧ (l.getLast? == some 46) = false ∧ pairL 64 123 l = false := by
  unfold brL at h
  split at h
  · cases h
  split at h
  · cases h
  split at h
  · cases h
  split at h
  · cases h
  split at h
  · cases h
  split at h
  · cases h
  split at h
  · cases h
  split at h
  · cases h
  rename_i h1 h2 h3 h4 h5 h6 h7 h8
  rw [Bool.not_eq_true] at h3 h4 h5 h6 h7 h8
  rw [Bool.not_eq_false] at h2
  exact ⟨⟨by omega, by omega⟩, h2, h3, h4, h5, h6, h7, h8⟩
theorem any_take {α : Type} {ps : List α} {t : α → Bool} (h : ps.any t = false) (i : Nat) : (ps.take i).any t = false := by
  rw [List.any_eq_false] at h ⊢
  exact fun x hx => h x (List.mem_of_mem_take hx)
theorem br_front {n : List UInt8} (h : brL n = 0) (i : Nat) (h0 : 0 < i) (hi : i ≤ (partsL n).length) :
    brL (Lib.join ((partsL n).take i) [47]) = (if ((Lib.join ((partsL n).take i) [47]).getLast? == some 46) = true then 7 else 0) ∧ (n = Lib.join ((partsL n).take i) [47] ∨ Lib.hasPrefix n (Lib.join ((partsL n).take i) [47] ++ [47]) = true) ∧ (Lib.join ((partsL n).take i) [47]).length ≤ n.length := by
  obtain ⟨rest, hr, hr2⟩ := front_of i h0 hi
  rw [join_parts] at hr
  have hpf : partsL (Lib.join ((partsL n).take i) [47]) = (partsL n).take i := parts_join _ (by
    intro e
    have := congrArg List.length e
    rw [List.length_take] at this
    simp only [List.length_nil] at this
    omega) fun q hq => partsL_free n q (List.mem_of_mem_take hq)
  obtain ⟨⟨f1, f2⟩, f3, f4, f5, f6, f7, f8, f9⟩ := br_facts h
  have g4 := any_take f4 i
  have g5 := any_take f5 i
  have g7 := any_take f7 i
  rw [← hpf] at g4 g5 g7
  have hlen := congrArg List.length hr
  rw [List.length_append] at hlen
  generalize Lib.join ((partsL n).take i) [47] = F at *
  have hne : 1 ≤ F.length := by
    cases hF : F with
    | nil =>
      rw [hF] at g4
      simp [partsL] at g4
    | cons c r => simp
  have g3 : ¬ F.all mayB = false := by
    rw [Bool.not_eq_false]
    rw [hr, List.all_append, Bool.and_eq_true] at f3
    exact f3.1
  have g6 : pairL 46 46 F = false := pairL_left (m := rest) (by rw [← hr]; exact f6)
  have g9 : pairL 64 123 F = false := pairL_left (m := rest) (by rw [← hr]; exact f9)
  refine ⟨?_, ?_, by omega⟩
  · unfold brL
    rw [if_neg (by omega), if_neg g3, g4, if_neg Bool.false_ne_true, g5, if_neg Bool.false_ne_true, g6, if_neg Bool.false_ne_true, g7, if_neg Bool.false_ne_true, g9, if_neg Bool.false_ne_true]
  · rcases hr2 with rfl | ⟨r, rfl⟩
    · exact .inl (by rw [hr, List.append_nil])
    · refine .inr ?_
      unfold Lib.hasPrefix
      rw [List.isPrefixOf_iff_prefix]
      exact ⟨r, by rw [hr, List.append_assoc]; rfl⟩
end Go.Proofs.YtmfncojkpkoijaaDoor
