/- Names of refs: conflict names and what a listed name is made of: plain, and Conflict. -/
import Derived.Test.YtmfncojkpkoijaaDoorNmE
import Derived.Test.YtmfncojkpkoijaaDoorHashS
namespace Go.Proofs.YtmfncojkpkoijaaDoor
open Go.RowKit
set_option linter.unusedVariables false

/-! ### Plain -/
def cutL : List UInt8 → List UInt8 × Option (List UInt8)
  | [] => ([], none)
  | c :: r => if c = 126 then ([], some r) else (c :: (cutL r).1, (cutL r).2)
theorem cutL_none {l : List UInt8} (h : ∀ c ∈ l, c ≠ 126) : cutL l = (l, none) := by
  induction l with
  | nil => rfl
  | cons c r ih => rw [cutL, if_neg (h c (List.mem_cons_self ..)), ih fun d hd => h d (List.mem_cons_of_mem _ hd)]
theorem cutL_some {a : List UInt8} (h : ∀ c ∈ a, c ≠ 126) (r : List UInt8) : cutL (a ++ 126 :: r) = (a, some r) := by
  induction a with
  | nil => rw [List.nil_append, cutL, if_pos rfl]
  | cons c a ih => rw [List.cons_append, cutL, if_neg (h c (List.mem_cons_self ..)), ih fun d hd => h d (List.mem_cons_of_mem _ hd)]
theorem cutL_cases (l : List UInt8) : (cutL l = (l, none) ∧ ∀ c ∈ l, c ≠ 126) ∨ ∃ a r, l = a ++ 126 :: r ∧ (∀ c ∈ a, c ≠ 126) ∧ cutL l = (a, some r) := by
  rcases index_byte 126 l with ⟨_, h⟩ | ⟨a, r, rfl, h, _⟩
  · exact .inl ⟨cutL_none h, h⟩
  · exact .inr ⟨a, r, rfl, h, cutL_some h r⟩
def confL (r t : List UInt8) : List UInt8 := r ++ 126 :: textB t
def conS (r t : List UInt8) : List UInt8 := if brL r = 0 then confL r t else []
/-- What a listed name is made of: the ref, the tip, whether it is a conflict name, the error. -/
def splL (n : List UInt8) : List UInt8 × List UInt8 × Bool × Nat :=
  match (cutL n).2 with
  | none => if brL n = 0 then (n, zeros, false, 0) else ([], zeros, false, 40)
  | some r => if okB r = true ∧ brL (cutL n).1 = 0 then ((cutL n).1, parseL r, true, 0) else ([], zeros, false, 40)
theorem splL_tip (n : List UInt8) : (splL n).2.1.length = 32 := by
  unfold splL
  repeat' split
  all_goals first | exact parseL_length _ | rfl
theorem cut_any (l : List UInt8) (hl : l.length ≤ 100000) (w : World) (hm : MaxOK w) :
    Calls Tryd.prog 35 #[.string (bstr l), .string (bstr [126])] w fun e w' => e = .returned (.tuple #[.string (bstr (cutL l).1), .string (bstr ((cutL l).2.getD [])), .bool (cutL l).2.isSome]) ∧ ∃ n, w' = w.drewN n := by
  obtain ⟨m, hm⟩ := hm
  have c := Tryd.strings_Cut (bstr l) (bstr [126]) m w (by rw [bstr_size]; omega) hm
  have e : Lib.cut l [126] = ((cutL l).1, (cutL l).2.getD [], (cutL l).2.isSome) := by
    rcases index_byte 126 l with ⟨h1, h2⟩ | ⟨a, r, rfl, h2, h3⟩
    · unfold Lib.cut
      rw [h1, if_neg (by omega), cutL_none h2]
      rfl
    · unfold Lib.cut
      rw [h3, if_pos (by omega), cutL_some h2]
      refine Prod.ext ?_ (Prod.ext ?_ rfl)
      · show List.take _ _ = a
        rw [Int.toNat_natCast, List.take_left]
      · show List.drop _ _ = r
        rw [Int.toNat_natCast]
        show List.drop (a.length + 1) _ = r
        rw [← List.drop_drop, List.drop_left]
        rfl
  rw [str_data, str_data, e] at c
  exact c

/-! ### Conflict -/
theorem results_two {P : Program} {fn : Func} {p q : Tmp} (h : fn.results = #[.tmp p, .tmp q]) (tmps : Array Value) (w : World) : (results fn tmps).run P w = .ok (.tuple #[tmps.getD p undef, tmps.getD q undef]) w := by
  simp [results, h]
set_option maxRecDepth 20000 in
set_option maxHeartbeats 2000000 in
theorem conflict_any (r t : List UInt8) (hr : r.length ≤ 1000) (ht : t.length = 32) (w : World) (hm : MaxOK w) :
    Calls Tryd.prog 18 #[.string (bstr r), .agg (idC t)] w fun e w' => e = .returned (.tuple #[.string (bstr (conS r t)), .int .i64 (chkN r : Int)]) ∧ Below w.heap.size w w' := by
  have hst : (Tryd.prog.info? 30).map (·.size) = some (idC t).size := by rw [idC_size, ht]; exact size_id
  have hb1 : Below w.heap.size w (w.alloc (.cells (idC t) 30)) := (Below.refl _ w).alloc (Nat.le_refl _) _
  have hg1 : (w.alloc (.cells (idC t) 30)).heap[w.heap.size]? = some (.cells (idC t) 30 (0, 0)) := heap_alloc_new _ _
  have c := check_any r hr _ (hm.below hb1)
  have ct := text_any t ht
  unfold chkN at c ⊢
  unfold conS
  by_cases h : brL r = 0
  · rw [if_pos h] at c ⊢
    rw [if_pos h]
    have e1 : bstr r ++ ⟨#[126]⟩ = bstr (r ++ [126]) := bstr_app r [126]
    have e2 : bstr (r ++ [126]) ++ bstr (textB t) = bstr (confL r t) := by rw [bstr_app]; unfold confL; rw [List.append_assoc]; rfl
    have b1 : ¬ 9223372036854775807 < (bstr r).size + 1 := by rw [bstr_size]; omega
    have b2 : ¬ 9223372036854775807 < (bstr (r ++ [126])).size + (bstr (textB t)).size := by rw [bstr_size, bstr_size, textB_length, List.length_append, ht]; simp only [List.length_cons, List.length_nil]; omega
    have hgg : ∀ W, Below (w.alloc (.cells (idC t) 30)).heap.size (w.alloc (.cells (idC t) 30)) W → W.heap[w.heap.size]? = some (.cells (idC t) 30 (0, 0)) := fun W hb => get_below hb hg1
    clear h hr hm
    generalize idC t = V at *
    generalize textB t = TX at *
    go_enter Tryd.func18, Tryd.ntmps18
    go_wp2_with (first
      | (go_at_call 11; refine c.mono ?_; rintro e w1 ⟨rfl, hb⟩; have hg2 := hgg w1 hb; replace hb1 := below_then hb1 hb (Nat.le_refl _); clear hg1 hgg hb c)
      | (with_reducible refine wpList_load_row rfl 30 (.tmp 3) rfl _ rfl 30 V _ _ hg2 Tryd.underlying30 rfl hst ?_)
      | (go_at_call 27; refine (ct _).mono ?_; rintro e w2 ⟨rfl, hb⟩)
      | fail)
    refine bodyPost_ret (results_two rfl _ _) rfl ?_
    exact ⟨rfl, below_then hb1 hb (Nat.le_refl _)⟩
  · rw [if_neg h] at c ⊢
    rw [if_neg h]
    clear h hr hm ct hst hg1
    generalize idC t = V at *
    go_enter Tryd.func18, Tryd.ntmps18
    go_wp2_with (go_at_call 11; refine c.mono ?_; rintro e w1 ⟨rfl, hb⟩)
    refine bodyPost_ret (results_two rfl _ _) rfl ?_
    exact ⟨rfl, below_then hb1 hb (Nat.le_refl _)⟩
set_option maxRecDepth 20000 in
set_option maxHeartbeats 2000000 in
theorem rconflict_any (r t : List UInt8) (hr : r.length ≤ 1000) (ht : t.length = 32) (w : World) :
    Calls Tryd.prog 19 #[.string (bstr r), .agg (idC t)] w fun e w' => e = .returned (.tuple #[.string (bstr (conS r t)), .int .i64 (chkN r : Int)]) ∧ Below w.heap.size w w' := by
  have hst : (Tryd.prog.info? 30).map (·.size) = some (idC t).size := by rw [idC_size, ht]; exact size_id
  have hb1 : Below w.heap.size w (w.alloc (.cells (idC t) 30)) := (Below.refl _ w).alloc (Nat.le_refl _) _
  have hg1 : (w.alloc (.cells (idC t) 30)).heap[w.heap.size]? = some (.cells (idC t) 30 (0, 0)) := heap_alloc_new _ _
  have c := rcheck_any r hr (w.alloc (.cells (idC t) 30))
  have ct := rtext_any t ht
  unfold chkN at c ⊢
  unfold conS
  by_cases h : brL r = 0
  · rw [if_pos h] at c ⊢
    rw [if_pos h]
    have e1 : bstr r ++ ⟨#[126]⟩ = bstr (r ++ [126]) := bstr_app r [126]
    have e2 : bstr (r ++ [126]) ++ bstr (textB t) = bstr (confL r t) := by rw [bstr_app]; unfold confL; rw [List.append_assoc]; rfl
    have b1 : ¬ 9223372036854775807 < (bstr r).size + 1 := by rw [bstr_size]; omega
    have b2 : ¬ 9223372036854775807 < (bstr (r ++ [126])).size + (bstr (textB t)).size := by rw [bstr_size, bstr_size, textB_length, List.length_append, ht]; simp only [List.length_cons, List.length_nil]; omega
    have hgg : ∀ W, Below (w.alloc (.cells (idC t) 30)).heap.size (w.alloc (.cells (idC t) 30)) W → W.heap[w.heap.size]? = some (.cells (idC t) 30 (0, 0)) := fun W hb => get_below hb hg1
    clear h hr
    generalize idC t = V at *
    generalize textB t = TX at *
    go_enter Tryd.func19, Tryd.ntmps19
    go_wp2_with (first
      | (go_at_call 12; refine c.mono ?_; rintro e w1 ⟨rfl, hb⟩; have hg2 := hgg w1 hb; replace hb1 := below_then hb1 hb (Nat.le_refl _); clear hg1 hgg hb c)
      | (with_reducible refine wpList_load_row rfl 30 (.tmp 3) rfl _ rfl 30 V _ _ hg2 Tryd.underlying30 rfl hst ?_)
      | (go_at_call 34; refine (ct _).mono ?_; rintro e w2 ⟨rfl, hb⟩)
      | fail)
    refine bodyPost_ret (results_two rfl _ _) rfl ?_
    exact ⟨rfl, below_then hb1 hb (Nat.le_refl _)⟩
  · rw [if_neg h] at c ⊢
    rw [if_neg h]
    clear h hr ct hst hg1
    generalize idC t = V at *
    go_enter Tryd.func19, Tryd.ntmps19
    go_wp2_with (go_at_call 12; refine c.mono ?_; rintro e w1 ⟨rfl, hb⟩)
    refine bodyPost_ret (results_two rfl _ _) rfl ?_
    exact ⟨rfl, below_then hb1 hb (Nat.le_refl _)⟩
end Go.Proofs.YtmfncojkpkoijaaDoor
