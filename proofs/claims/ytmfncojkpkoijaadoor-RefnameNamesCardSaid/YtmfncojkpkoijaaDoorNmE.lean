/- Names of refs: Check, Parts, Within, the program's and the reference's; two lists of texts. -/
import Derived.Test.YtmfncojkpkoijaaDoorNmD
import Derived.Test.YtmfncojkpkoijaaDoorNmR
namespace Go.Proofs.YtmfncojkpkoijaaDoor
open Go.RowKit
set_option linter.unusedVariables false

def chkN (l : List UInt8) : Nat := if brL l = 0 then 0 else 40
def prtL (l : List UInt8) : List (List UInt8) := if brL l = 0 then partsL l else []
def witB (n f : List UInt8) : Bool := decide (brL n = 0) && (decide (brL f = 0) && (n == f || Lib.hasPrefix n (f ++ [47])))
theorem brL_int0 {l : List UInt8} (h : brL l = 0) : (brL l : Int) = 0 := by rw [h]; rfl
theorem br_neq {l : List UInt8} (h : brL l ≠ 0) : ((brL l : Int) != 0) = true := by simpa using fun e => h (by omega)
theorem br_neq0 {l : List UInt8} (h : brL l = 0) : ((brL l : Int) != 0) = false := by rw [h]; rfl
theorem br_gtr {l : List UInt8} (h : brL l ≠ 0) : decide ((0 : Int) < (brL l : Int)) = true := decide_eq_true (by omega)
theorem br_gtr0 {l : List UInt8} (h : brL l = 0) : decide ((0 : Int) < (brL l : Int)) = false := decide_eq_false (by omega)
theorem check_any (l : List UInt8) (hl : l.length ≤ 1000) (w : World) (hm : MaxOK w) :
    Calls Tryd.prog 11 #[.string (bstr l)] w fun e w' => e = .returned (.int .i64 (chkN l : Int)) ∧ Below w.heap.size w w' := by
  have c := breaks_any l hl w hm
  clear hl hm
  unfold chkN
  by_cases h : brL l = 0
  · rw [if_pos h]
    have h1 := br_neq0 h
    clear h
    generalize (brL l : Int) = b at *
    go_enter Tryd.func11, Tryd.ntmps11
    go_wp2_with (go_at_call 9; refine c.mono ?_; rintro e w1 ⟨rfl, hb⟩)
    go_ret
    exact ⟨rfl, hb⟩
  · rw [if_neg h]
    have h1 := br_neq h
    clear h
    generalize (brL l : Int) = b at *
    go_enter Tryd.func11, Tryd.ntmps11
    go_wp2_with (go_at_call 9; refine c.mono ?_; rintro e w1 ⟨rfl, hb⟩)
    go_ret
    exact ⟨rfl, hb⟩
theorem rcheck_any (l : List UInt8) (hl : l.length ≤ 1000) (w : World) :
    Calls Tryd.prog 12 #[.string (bstr l)] w fun e w' => e = .returned (.int .i64 (chkN l : Int)) ∧ Below w.heap.size w w' := by
  have c := rbreaks_any l hl w
  clear hl
  unfold chkN
  by_cases h : brL l = 0
  · rw [if_pos h]
    have h1 := br_gtr0 h
    clear h
    generalize (brL l : Int) = b at *
    go_enter Tryd.func12, Tryd.ntmps12
    go_wp2_with (go_at_call 10; refine c.mono ?_; rintro e w1 ⟨rfl, hb⟩)
    go_ret
    exact ⟨rfl, hb⟩
  · rw [if_neg h]
    have h1 := br_gtr h
    clear h
    generalize (brL l : Int) = b at *
    go_enter Tryd.func12, Tryd.ntmps12
    go_wp2_with (go_at_call 10; refine c.mono ?_; rintro e w1 ⟨rfl, hb⟩)
    go_ret
    exact ⟨rfl, hb⟩
theorem strSl_nil (w : World) : StrSl w (.slice none 0 0) [] := ⟨none, 0, rfl, Nat.le_refl _, by unfold maxLen; omega, RdC.nil _ _⟩
theorem strSl_row {w : World} {g : Nat} {ps : List (List UInt8)} {t : TypeId} {fr : Nat × Nat} (h : w.heap[g]? = some (.cells (strC ps).toArray t fr)) (hl : ps.length ≤ 2000) : StrSl w (.slice (some ⟨g, 0, none⟩) ps.length ps.length) ps := by
  refine ⟨_, _, rfl, Nat.le_refl _, by unfold maxLen; omega, fun j u hj => ⟨_, rfl, ?_⟩⟩
  rw [addr_add_plain, Nat.zero_add, cell_of_row _ _ _ _ _ _ h]
  simpa using hj
theorem parts_any (l : List UInt8) (hl : l.length ≤ 1000) (w : World) (hm : MaxOK w) :
    Calls Tryd.prog 14 #[.string (bstr l)] w fun e w' => (∃ v, e = .returned v ∧ StrSl w' v (prtL l)) ∧ Below w.heap.size w w' := by
  have c := check_any l hl w hm
  unfold prtL
  by_cases h : brL l = 0
  · rw [if_pos h]
    unfold chkN at c
    rw [if_pos h] at c
    have hpl := (partsL_len l).1
    go_enter Tryd.func14, Tryd.ntmps14
    go_wp2_with (go_at_call 11; refine c.mono ?_; rintro e w1 ⟨rfl, hb⟩)
    refine (split_any l (by omega) w1 (hm.below hb)).mono ?_
    rintro e w2 ⟨rfl, rfl⟩
    have hg := heap_alloc_new w1 (.cells (strC (partsL l)).toArray 9)
    have hs := strSl_row hg (by omega)
    have hb2 := below_then hb ((Below.refl _ w1).alloc (Nat.le_refl _) (.cells (strC (partsL l)).toArray 9)) (Nat.le_refl _)
    clear hg
    go_wp2
    go_ret
    exact ⟨⟨_, rfl, hs⟩, hb2⟩
  · rw [if_neg h]
    unfold chkN at c
    rw [if_neg h] at c
    clear h hl hm
    go_enter Tryd.func14, Tryd.ntmps14
    go_wp2_with (go_at_call 11; refine c.mono ?_; rintro e w1 ⟨rfl, hb⟩)
    go_ret
    exact ⟨⟨_, rfl, strSl_nil _⟩, hb⟩
theorem rParts_any (l : List UInt8) (hl : l.length ≤ 1000) (w : World) :
    Calls Tryd.prog 15 #[.string (bstr l)] w fun e w' => (∃ v, e = .returned v ∧ StrSl w' v (prtL l)) ∧ Below w.heap.size w w' := by
  have c := rcheck_any l hl w
  unfold prtL
  by_cases h : brL l = 0
  · rw [if_pos h]
    unfold chkN at c
    rw [if_pos h] at c
    go_enter Tryd.func15, Tryd.ntmps15
    go_wp2_with (go_at_call 12; refine c.mono ?_; rintro e w1 ⟨rfl, hb⟩)
    refine (rparts_any l (by omega) w1).mono ?_
    rintro e w2 ⟨⟨v, rfl, hs⟩, hb2⟩
    go_wp2
    go_ret
    exact ⟨⟨_, rfl, hs⟩, below_then hb hb2 (Nat.le_refl _)⟩
  · rw [if_neg h]
    unfold chkN at c
    rw [if_neg h] at c
    clear h hl
    go_enter Tryd.func15, Tryd.ntmps15
    go_wp2_with (go_at_call 12; refine c.mono ?_; rintro e w1 ⟨rfl, hb⟩)
    go_ret
    exact ⟨⟨_, rfl, strSl_nil _⟩, hb⟩
theorem bstr_app (l m : List UInt8) : bstr l ++ bstr m = bstr (l ++ m) := by
  apply ByteArray.ext
  simp [bstr]
set_option maxHeartbeats 1000000 in
theorem within_any (n f : List UInt8) (hn : n.length ≤ 1000) (hf : f.length ≤ 1000) (w : World) (hm : MaxOK w) :
    Calls Tryd.prog 16 #[.string (bstr n), .string (bstr f)] w fun e w' => e = .returned (.bool (witB n f)) ∧ Below w.heap.size w w' := by
  have c := check_any n hn w hm
  have c2 := fun w' (h : Below w.heap.size w w') => check_any f hf w' (hm.below h)
  have c3 := hasPrefix_any n (f ++ [47])
  unfold chkN at c c2
  have htl : ((bstr n).toList == (bstr f).toList) = (n == f) := by rw [bstr_toList, bstr_toList]
  have hap : bstr f ++ ⟨#[47]⟩ = bstr (f ++ [47]) := bstr_app f [47]
  have hbig : ¬ 9223372036854775807 < (bstr f).size + 1 := by rw [bstr_size]; omega
  unfold witB
  clear hm hn hf
  by_cases h : brL n = 0
  · rw [if_pos h] at c
    rw [decide_eq_true h, Bool.true_and]
    by_cases h2 : brL f = 0
    · rw [if_pos h2] at c2
      rw [decide_eq_true h2, Bool.true_and]
      generalize Lib.hasPrefix n (f ++ [47]) = hp at *
      cases hnf : (n == f) with
      | true =>
        rw [hnf] at htl
        clear h h2 hnf c3 hbig
        go_enter Tryd.func16, Tryd.ntmps16
        go_wp2_with (first
          | (go_at_call 11; refine c.mono ?_; clear c; rintro e w1 ⟨rfl, hb⟩)
          | (go_at_call 11; refine (c2 w1 hb).mono ?_; rintro e w2 ⟨rfl, hb2⟩)
          | fail)
        go_ret
        exact ⟨rfl, below_then hb hb2 (Nat.le_refl _)⟩
      | false =>
        rw [hnf] at htl
        clear h h2 hnf
        go_enter Tryd.func16, Tryd.ntmps16
        go_wp2_with (first
          | (go_at_call 11; refine c.mono ?_; clear c; rintro e w1 ⟨rfl, hb⟩)
          | (go_at_call 11; refine (c2 w1 hb).mono ?_; clear c2; rintro e w2 ⟨rfl, hb2⟩)
          | (go_at_call 29; refine (c3 _).mono ?_; rintro e w3 ⟨rfl, rfl⟩)
          | fail)
        go_ret
        exact ⟨rfl, below_then hb hb2 (Nat.le_refl _)⟩
    · rw [if_neg h2] at c2
      rw [decide_eq_false h2, Bool.false_and]
      clear h h2 c3 htl hap hbig
      go_enter Tryd.func16, Tryd.ntmps16
      go_wp2_with (first
        | (go_at_call 11; refine c.mono ?_; clear c; rintro e w1 ⟨rfl, hb⟩)
        | (go_at_call 11; refine (c2 w1 hb).mono ?_; clear c2; rintro e w2 ⟨rfl, hb2⟩)
        | fail)
      go_ret
      exact ⟨rfl, below_then hb hb2 (Nat.le_refl _)⟩
  · rw [if_neg h] at c
    rw [decide_eq_false h, Bool.false_and]
    clear h c2 c3 htl hap hbig
    go_enter Tryd.func16, Tryd.ntmps16
    go_wp2_with (first
      | (go_at_call 11; refine c.mono ?_; clear c; rintro e w1 ⟨rfl, hb⟩)
      | fail)
    go_ret
    exact ⟨rfl, hb⟩
/-- A name within another one, as the reference has it. -/
theorem within_iff (n f : List UInt8) : Lib.hasPrefix n (f ++ [47]) = true ↔ ∃ h : f.length < n.length, n.take f.length = f ∧ n[f.length] = 47 := by
  unfold Lib.hasPrefix
  rw [List.isPrefixOf_iff_prefix]
  constructor
  · rintro ⟨t, rfl⟩
    refine ⟨by simp, ?_, ?_⟩
    · rw [List.append_assoc, List.take_left]
    · simp
  · rintro ⟨h, h1, h2⟩
    refine ⟨n.drop (f.length + 1), ?_⟩
    conv => rhs; rw [← List.take_append_drop f.length n, h1, List.drop_eq_getElem_cons h, h2]
    rw [List.append_assoc]
    rfl
set_option maxHeartbeats 1000000 in
theorem rwithin_any (n f : List UInt8) (hn : n.length ≤ 1000) (hf : f.length ≤ 1000) (w : World) :
    Calls Tryd.prog 17 #[.string (bstr n), .string (bstr f)] w fun e w' => e = .returned (.bool (witB n f)) ∧ Below w.heap.size w w' := by
  have c := rcheck_any n hn w
  have c2 := fun w' => rcheck_any f hf w'
  unfold chkN at c c2
  have htl : ((bstr n).toList == (bstr f).toList) = (n == f) := by rw [bstr_toList, bstr_toList]
  have hwi := within_iff n f
  have hs1 : (bstr n).size = n.length := bstr_size n
  have hs2 : (bstr f).size = f.length := bstr_size f
  unfold witB
  by_cases h : brL n = 0
  · rw [if_pos h] at c
    rw [decide_eq_true h, Bool.true_and]
    by_cases h2 : brL f = 0
    · rw [if_pos h2] at c2
      rw [decide_eq_true h2, Bool.true_and]
      generalize Lib.hasPrefix n (f ++ [47]) = hp at *
      cases hnf : (n == f) with
      | true =>
        rw [hnf] at htl
        clear h h2 hnf hwi hs1 hs2 hn hf
        go_enter Tryd.func17, Tryd.ntmps17
        go_wp2_with (first
          | (go_at_call 12; refine c.mono ?_; clear c; rintro e w1 ⟨rfl, hb⟩)
          | (go_at_call 12; refine (c2 w1).mono ?_; clear c2; rintro e w2 ⟨rfl, hb2⟩)
          | fail)
        go_ret
        exact ⟨rfl, below_then hb hb2 (Nat.le_refl _)⟩
      | false =>
        rw [hnf] at htl
        clear h h2 hnf
        by_cases hlt : f.length < n.length
        · have hex : (bstr n).extract 0 f.length = bstr (n.take f.length) := by rw [bstr_extract]; rfl
          have f1 : ∀ W, (Instr.index 9 (.string (bstr n)) (.int .i64 (f.length : Int))).run Tryd.prog W = .ok (.int .u8 (n[f.length].toNat : Int)) W := fun W => str_index W n f.length hlt _ rfl
          have e47 : ((n[f.length].toNat : Int) == 47) = (n[f.length] == 47) := eq47_u8 _ 47 (by omega)
          have c9 : (f.length : Int) < (n.length : Int) := by omega
          have hle : (f.length : Int) ≤ (n.length : Int) := by omega
          have ht2 : ((bstr (n.take f.length)).toList == (bstr f).toList) = (n.take f.length == f) := by rw [bstr_toList, bstr_toList]
          have hwi2 : hp = true ↔ n.take f.length = f ∧ n[f.length] = 47 := hwi.trans ⟨fun ⟨_, h⟩ => h, fun h => ⟨hlt, h⟩⟩
          clear hwi
          generalize n[f.length] = x at *
          generalize n.take f.length = nt at *
          by_cases q1 : nt = f
          · have q1' : (nt == f) = true := by rw [q1, beq_self_eq_true]
            rw [q1'] at ht2
            by_cases q2 : x = 47
            · obtain rfl : hp = true := hwi2.2 ⟨q1, q2⟩
              have e47' : ((x.toNat : Int) == 47) = true := by rw [e47, q2]; rfl
              clear hwi2 q1 q2 q1' e47 hlt hn hf
              go_enter Tryd.func17, Tryd.ntmps17
              go_wp2_with (first
                | (go_at_call 12; refine c.mono ?_; clear c; rintro e w1 ⟨rfl, hb⟩)
                | (go_at_call 12; refine (c2 w1).mono ?_; clear c2; rintro e w2 ⟨rfl, hb2⟩)
                | fail)
              go_ret
              exact ⟨rfl, below_then hb hb2 (Nat.le_refl _)⟩
            · obtain rfl : hp = false := by rw [← Bool.not_eq_true, hwi2]; exact fun h => q2 h.2
              have e47' : ((x.toNat : Int) == 47) = false := by rw [e47]; exact beq_eq_false_iff_ne.2 q2
              clear hwi2 q1 q2 q1' e47 hlt hn hf
              go_enter Tryd.func17, Tryd.ntmps17
              go_wp2_with (first
                | (go_at_call 12; refine c.mono ?_; clear c; rintro e w1 ⟨rfl, hb⟩)
                | (go_at_call 12; refine (c2 w1).mono ?_; clear c2; rintro e w2 ⟨rfl, hb2⟩)
                | fail)
              go_ret
              exact ⟨rfl, below_then hb hb2 (Nat.le_refl _)⟩
          · have q1' : (nt == f) = false := beq_eq_false_iff_ne.2 q1
            rw [q1'] at ht2
            obtain rfl : hp = false := by rw [← Bool.not_eq_true, hwi2]; exact fun h => q1 h.1
            clear hwi2 q1 q1' e47 hlt hn hf
            go_enter Tryd.func17, Tryd.ntmps17
            go_wp2_with (first
              | (go_at_call 12; refine c.mono ?_; clear c; rintro e w1 ⟨rfl, hb⟩)
              | (go_at_call 12; refine (c2 w1).mono ?_; clear c2; rintro e w2 ⟨rfl, hb2⟩)
              | fail)
            go_ret
            exact ⟨rfl, below_then hb hb2 (Nat.le_refl _)⟩
        · obtain rfl : hp = false := by rw [← Bool.not_eq_true, hwi]; exact fun ⟨h, _⟩ => hlt h
          have c9 : ¬ (f.length : Int) < (n.length : Int) := by omega
          clear hwi hlt hn hf
          go_enter Tryd.func17, Tryd.ntmps17
          go_wp2_with (first
            | (go_at_call 12; refine c.mono ?_; clear c; rintro e w1 ⟨rfl, hb⟩)
            | (go_at_call 12; refine (c2 w1).mono ?_; clear c2; rintro e w2 ⟨rfl, hb2⟩)
            | fail)
          go_ret
          exact ⟨rfl, below_then hb hb2 (Nat.le_refl _)⟩
    · rw [if_neg h2] at c2
      rw [decide_eq_false h2, Bool.false_and]
      clear h h2 htl hwi hs1 hs2 hn hf
      go_enter Tryd.func17, Tryd.ntmps17
      go_wp2_with (first
        | (go_at_call 12; refine c.mono ?_; clear c; rintro e w1 ⟨rfl, hb⟩)
        | (go_at_call 12; refine (c2 w1).mono ?_; clear c2; rintro e w2 ⟨rfl, hb2⟩)
        | fail)
      go_ret
      exact ⟨rfl, below_then hb hb2 (Nat.le_refl _)⟩
  · rw [if_neg h] at c
    rw [decide_eq_false h, Bool.false_and]
    clear h c2 htl hwi hs1 hs2 hn hf
    go_enter Tryd.func17, Tryd.ntmps17
    go_wp2_with (first
      | (go_at_call 12; refine c.mono ?_; clear c; rintro e w1 ⟨rfl, hb⟩)
      | fail)
    go_ret
    exact ⟨rfl, hb⟩
/-- The same texts in both lists. -/
theorem texts_same (ps : List (List UInt8)) (hp : ps.length ≤ 2000) (v v' : Value) (w : World) (h1 : StrSl w v ps) (h2 : StrSl w v' ps) :
    Calls Tryd.prog 13 #[v, v'] w fun e w' => e = .returned (.bool true) ∧ Below w.heap.size w w' := by
  obtain ⟨A, c, rfl, q1, q2, hr⟩ := h1
  obtain ⟨A', c', rfl, q1', q2', hr'⟩ := h2
  go_enter Tryd.func13, Tryd.ntmps13
  go_wp2_with fail
  go_loopw [5] (fun i wr => ∃ k : Nat, k ≤ ps.length ∧ i = .int .i64 k ∧ RdC wr A (strC ps) ∧ RdC wr A' (strC ps) ∧ Below w.heap.size w wr) (fun i _ => ps.length - (intOf i).toNat)
  case atStart => exact ⟨0, by omega, rfl, hr, hr', Below.refl _ _⟩
  case round =>
    obtain ⟨k, hk, rfl, hx, hx', hbr⟩ := hrel
    by_cases hlt : k < ps.length
    · obtain ⟨ad, rfl, hc⟩ := str_cell hx k hlt
      obtain ⟨ad', rfl, hc'⟩ := str_cell hx' k hlt
      have c1 : (k : Int) < (ps.length : Int) := by omega
      have hbd := fun n => below_drewN hbr n
      go_wp2_with fail
      go_quiet (fail)
      go_wp2_with fail
      go_roundw
      case rel => exact ⟨k + 1, by omega, by go_num, hx.drewN _, hx'.drewN _, hbd _⟩
      case measure => simp [intOf]; omega
    · obtain rfl : k = ps.length := by omega
      go_wp2_with fail
      go_ret
      exact ⟨rfl, hbr⟩
end Go.Proofs.YtmfncojkpkoijaaDoor
