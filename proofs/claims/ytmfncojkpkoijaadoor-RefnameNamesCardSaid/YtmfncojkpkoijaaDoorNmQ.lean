/- Names of refs: lists of strings in memory; the reference's byte and parts. -/
import Derived.Test.YtmfncojkpkoijaaDoorNmP
import Derived.Test.YtmfncojkpkoijaaDoorProg
import Derived.Laws.Strings2
namespace Go.Proofs.YtmfncojkpkoijaaDoor
open Go.RowKit
set_option linter.unusedVariables false

def strC (ps : List (List UInt8)) : List Value := ps.map fun p => .string (bstr p)
theorem strC_length (ps : List (List UInt8)) : (strC ps).length = ps.length := by simp [strC]
theorem strC_get (ps : List (List UInt8)) (j : Nat) (h : j < ps.length) : (strC ps)[j]? = some (.string (bstr ps[j])) := by simp [strC, h]
theorem strC_one (ps : List (List UInt8)) : ∀ u ∈ strC ps, u.oneCell' = true := by
  intro u hu
  obtain ⟨_, _, rfl⟩ := List.mem_map.1 hu
  rfl
theorem elt_str : Elt Tryd.prog 26 9 1 16 (.string ByteArray.empty) := ⟨Tryd.underlying26, by kernel_rfl, rfl, by omega⟩
/-- A slice of strings, as what stands in memory. -/
def StrSl (w : World) (v : Value) (ps : List (List UInt8)) : Prop := ∃ A c, v = .slice A ps.length c ∧ ps.length ≤ c ∧ c ≤ maxLen ∧ RdC w A (strC ps)
theorem StrSl.below {w w' : World} {v : Value} {ps : List (List UInt8)} (h : StrSl w v ps) (hb : Below w.heap.size w w') : StrSl w' v ps := by
  obtain ⟨A, c, e, h1, h2, h3⟩ := h
  exact ⟨A, c, e, h1, h2, h3.below hb⟩
theorem str_cell {w : World} {A : Option Addr} {ps : List (List UInt8)} (h : RdC w A (strC ps)) (j : Nat) (hj : j < ps.length) : ∃ ad, A = some ad ∧ w.cell? (ad.add j) = some (.string (bstr ps[j])) := h j _ (strC_get ps j hj)
theorem str_index (W : World) (s : List UInt8) (j : Nat) (h : j < s.length) (i : Int) (hi : i = j) : (Instr.index 9 (.string (bstr s)) (.int .i64 i)).run Tryd.prog W = .ok (.int .u8 (s[j].toNat : Int)) W := by
  subst hi
  rw [run_index_string (P := Tryd.prog) W 9 _ .i64 _ Tryd.underlying9, dif_pos ⟨by omega, by rw [bstr_size]; omega⟩]
  rfl

/-! ### may -/
theorem mayB_iff (c : UInt8) : mayB c = true ↔ 33 ≤ c.toNat ∧ c.toNat ≤ 126 ∧ c.toNat ≠ 126 ∧ c.toNat ≠ 94 ∧ c.toNat ≠ 58 ∧ c.toNat ≠ 63 ∧ c.toNat ≠ 42 ∧ c.toNat ≠ 91 ∧ c.toNat ≠ 92 := by
  have key : ∀ n : Nat, n < 256 → (c = UInt8.ofNat n ↔ c.toNat = n) := fun n hn => by
    constructor
    · rintro rfl; rw [UInt8.toNat_ofNat']; omega
    · rintro rfl; simp
  unfold mayB wrongL
  simp only [Bool.and_eq_true, decide_eq_true_eq, Bool.not_eq_true', List.contains_eq_mem, decide_eq_false_iff_not, List.mem_cons, List.not_mem_nil, or_false, not_or]
  rw [show (126 : UInt8) = UInt8.ofNat 126 from rfl, show (94 : UInt8) = UInt8.ofNat 94 from rfl, show (58 : UInt8) = UInt8.ofNat 58 from rfl, show (63 : UInt8) = UInt8.ofNat 63 from rfl, show (42 : UInt8) = UInt8.ofNat 42 from rfl, show (91 : UInt8) = UInt8.ofNat 91 from rfl, show (92 : UInt8) = UInt8.ofNat 92 from rfl]
  rw [key 126 (by omega), key 94 (by omega), key 58 (by omega), key 63 (by omega), key 42 (by omega), key 91 (by omega), key 92 (by omega)]
set_option maxHeartbeats 2000000 in
theorem may_nat (x : Nat) (hx : x < 256) (m : Bool) (hm : m = true ↔ 33 ≤ x ∧ x ≤ 126 ∧ x ≠ 126 ∧ x ≠ 94 ∧ x ≠ 58 ∧ x ≠ 63 ∧ x ≠ 42 ∧ x ≠ 91 ∧ x ≠ 92) (w : World) :
    Calls Tryd.prog 31 #[.int .u8 (x : Int)] w fun e w' => e = .returned (.bool m) ∧ w' = w := by
  by_cases h : x = 126 ∨ x = 94 ∨ x = 58 ∨ x = 63 ∨ x = 42 ∨ x = 91 ∨ x = 92
  · obtain rfl : m = false := by
      rw [← Bool.not_eq_true, hm]
      omega
    clear hm hx
    rcases h with rfl | rfl | rfl | rfl | rfl | rfl | rfl <;>
    · go_enter Tryd.func31, Tryd.ntmps31
      go_wp2
      go_ret
      exact ⟨rfl, rfl⟩
  · by_cases h1 : x < 33
    · obtain rfl : m = false := by
        rw [← Bool.not_eq_true, hm]
        omega
      have h2 : (x : Int) < 33 := by omega
      clear hm h
      go_enter Tryd.func31, Tryd.ntmps31
      go_wp2
      go_ret
      exact ⟨rfl, rfl⟩
    · have h2 : ¬ (x : Int) < 33 := by omega
      by_cases h3 : 126 < x
      · obtain rfl : m = false := by
          rw [← Bool.not_eq_true, hm]
          omega
        have h4 : (126 : Int) < x := by omega
        clear hm h
        go_enter Tryd.func31, Tryd.ntmps31
        go_wp2
        go_ret
        exact ⟨rfl, rfl⟩
      · have h4 : ¬ (126 : Int) < x := by omega
        obtain rfl : m = true := hm.2 (by omega)
        have n1 : ((x : Int) != 126) = true := by simp; omega
        have n2 : ((x : Int) != 94) = true := by simp; omega
        have n3 : ((x : Int) != 58) = true := by simp; omega
        have n4 : ((x : Int) != 63) = true := by simp; omega
        have n5 : ((x : Int) != 42) = true := by simp; omega
        have n6 : ((x : Int) != 91) = true := by simp; omega
        have n7 : ((x : Int) != 92) = true := by simp; omega
        clear hm h hx
        go_enter Tryd.func31, Tryd.ntmps31
        go_wp2
        go_ret
        exact ⟨rfl, rfl⟩
theorem may_any (c : UInt8) (w : World) : Calls Tryd.prog 31 #[.int .u8 (c.toNat : Int)] w fun e w' => e = .returned (.bool (mayB c)) ∧ w' = w :=
  may_nat c.toNat c.toNat_lt (mayB c) (mayB_iff c) w

/-! ### parts -/
theorem bstr_extract (l : List UInt8) (a b : Nat) : (bstr l).extract a b = bstr ((l.drop a).take (b - a)) := by rw [Lib.extract_eq]; rfl
theorem parts_step (l : List UInt8) (f i : Nat) (h1 : f ≤ i) (h2 : i ≤ l.length) (hno : ∀ j (hj : j < l.length), f ≤ j → j < i → l[j] ≠ 47) (he : ∀ hi : i < l.length, l[i] = 47) :
    if i < l.length then partsL (l.drop f) = ((l.drop f).take (i - f)) :: partsL (l.drop (i + 1)) else partsL (l.drop f) = [(l.drop f).take (i - f)] := by
  have hfree : ∀ c ∈ (l.drop f).take (i - f), c ≠ 47 := by
    intro c hc
    obtain ⟨j, hj, rfl⟩ := List.getElem_of_mem hc
    simp only [List.length_take, List.length_drop] at hj
    rw [List.getElem_take, List.getElem_drop]
    exact hno _ (by omega) (by omega) (by omega)
  split
  · rename_i hi
    have : l.drop f = (l.drop f).take (i - f) ++ 47 :: l.drop (i + 1) := by
      conv => lhs; rw [← List.take_append_drop (i - f) (l.drop f)]
      rw [List.drop_drop, show f + (i - f) = i by omega, List.drop_eq_getElem_cons hi, he hi]
    conv => lhs; rw [this]
    exact partsL_cut hfree _
  · have : (l.drop f).take (i - f) = l.drop f := List.take_of_length_le (by simp; omega)
    rw [this] at hfree ⊢
    exact partsL_one hfree
set_option maxRecDepth 20000 in
set_option maxHeartbeats 2000000 in
theorem rparts_any (l : List UInt8) (hl : l.length ≤ 1000) (w : World) :
    Calls Tryd.prog 32 #[.string (bstr l)] w fun e w' => (∃ v, e = .returned v ∧ StrSl w' v (partsL l)) ∧ Below w.heap.size w w' := by
  have hsz : (bstr l).size = l.length := bstr_size l
  go_enter Tryd.func32, Tryd.ntmps32
  go_wp2_with fail
  go_loopw [3, 4, 5] (fun o f i wr => ∃ (done : List (List UInt8)) (fk k : Nat), f = .int .i64 fk ∧ i = .int .i64 k ∧ k ≤ l.length + 1 ∧ done.length ≤ k ∧ wr.ownsRow w.heap.size 9 1 o done.length (strC done) ∧ Below w.heap.size w wr ∧
      ((fk ≤ k ∧ k ≤ l.length ∧ partsL l = done ++ partsL (l.drop fk) ∧ (∀ j (hj : j < l.length), fk ≤ j → j < k → l[j] ≠ 47)) ∨ (k = l.length + 1 ∧ partsL l = done))) (fun _ _ i _ => l.length + 1 - (intOf i).toNat)
  case atStart => exact ⟨[], 0, 0, rfl, rfl, by omega, Nat.le_refl _, ⟨rfl, .inl ⟨rfl, rfl⟩⟩, Below.refl _ _, .inl ⟨Nat.le_refl _, Nat.zero_le _, rfl, fun j hj h1 h2 => by omega⟩⟩
  case round =>
    obtain ⟨done, fk, k, rfl, rfl, hk, hdk, hown, hbr, hst⟩ := hrel
    by_cases hlt : k ≤ l.length
    · have hst2 : fk ≤ k ∧ partsL l = done ++ partsL (l.drop fk) ∧ (∀ j (hj : j < l.length), fk ≤ j → j < k → l[j] ≠ 47) := by
        rcases hst with ⟨h1, h2, h3, h4⟩ | ⟨h1, _⟩
        · exact ⟨h1, h3, h4⟩
        · omega
      clear hst
      obtain ⟨hfk, hpl, hno⟩ := hst2
      by_cases hit : ∀ hi : k < l.length, l[k] = 47
      · have hstep := parts_step l fk k hfk hlt hno hit
        obtain ⟨p, hp⟩ : ∃ p, p = (l.drop fk).take (k - fk) := ⟨_, rfl⟩
        have hs1 : (bstr l).extract fk k = bstr p := by rw [bstr_extract, hp]
        rw [← hp] at hstep
        clear hp
        have hnx : (k < l.length ∧ partsL l = (done ++ [p]) ++ partsL (l.drop (k + 1))) ∨ (k = l.length ∧ partsL l = done ++ [p]) := by
          by_cases hi : k < l.length
          · rw [if_pos hi] at hstep
            exact .inl ⟨hi, by rw [hpl, hstep, List.append_assoc]; rfl⟩
          · rw [if_neg hi] at hstep
            exact .inr ⟨by omega, by rw [hpl, hstep]⟩
        clear hstep hpl hno
        have hgx := heap_alloc_new wr (.cells #[.string (bstr p)] 9)
        have hbO : Below w.heap.size w (wr.alloc (.cells #[.string (bstr p)] 9)) := below_then hbr ((Below.refl _ wr).alloc (Nat.le_refl _) _) (Nat.le_refl _)
        have st3 := hbO.size
        have hown2 : (wr.alloc (.cells #[.string (bstr p)] 9)).ownsRow w.heap.size 9 1 _ done.length (strC done) := own_below hown ((Below.refl _ wr).alloc (Nat.le_refl _) _)
        have hrd : RdC (wr.alloc (.cells #[.string (bstr p)] 9)) (some ⟨wr.heap.size, 0, none⟩) (strC [p]) := fun j u hj => by
          cases j with
          | zero => cases hj; exact ⟨_, rfl, by rw [addr_add_zero, cell_of_row _ _ _ _ _ _ hgx]; rfl⟩
          | succ j => cases hj
        have st1 : Hid (done.length + 1 ≤ maxLen) := by show _ ≤ _; unfold maxLen; omega
        have st2 : Hid ((done.length + 1) * 16 ≤ 140737488355328) := by show _ ≤ _; omega
        have hout : Hid (∀ (v' : Value) (w' : World), w'.ownsRow w.heap.size 9 1 v' (done.length + 1) (strC done ++ strC [p]) → w'.ownsRow w.heap.size 9 1 v' (done ++ [p]).length (strC (done ++ [p]))) := by
          intro v' w' h
          rw [List.length_append]
          unfold strC
          rw [List.map_append]
          exact h
        by_cases hi : k < l.length
        · have hk47 := hit hi
          have f1 : ∀ W, (Instr.index 9 (.string (bstr l)) (.int .i64 (k : Int))).run Tryd.prog W = .ok (.int .u8 47) W := fun W => by rw [str_index W l k hi _ rfl, hk47]; rfl
          have hnx2 : partsL l = (done ++ [p]) ++ partsL (l.drop (k + 1)) := by
            rcases hnx with ⟨_, h⟩ | ⟨h, _⟩
            · exact h
            · omega
          have hd1 : (done ++ [p]).length ≤ k + 1 := by rw [List.length_append]; exact Nat.succ_le_succ hdk
          have c0 : ((k : Int) == (l.length : Int)) = false := by simp; omega
          have c1 : ((k : Int) ≤ (l.length : Int)) := by omega
          have HP := Lib.hid hnx2
          have HK := Lib.hid (And.intro hk (And.intro hdk (And.intro hfk (And.intro hi hd1))))
          clear hit hnx hgx hk47 hnx2 hk hdk hd1
          go_wp2_with (first
            | (at_builtin; refine wpList_app elt_str rfl (.tmp 22) (.tmp 27) rfl w.heap.size _ done.length (strC done) rfl hown2 (some ⟨wr.heap.size, 0, none⟩) 1 1 (strC [p]) rfl rfl hrd (strC_one _) st1.out st2.out st3 ?_; intro v' w' ho hg; have hb3 := below_grown hbO hown2 hg st3 (Nat.le_refl _); replace ho := hout.out _ _ ho)
            | fail)
          go_roundw
          case rel => obtain ⟨h1, h2, h3, h4, hd1⟩ := HK.out; exact ⟨done ++ [p], k + 1, k + 1, by go_num, by go_num, by omega, hd1, ho, hb3, .inl ⟨Nat.le_refl _, by omega, HP.out, fun j hj h1 h2 => by omega⟩⟩
          case measure => obtain ⟨h1, h2, h3, h4, hd1⟩ := HK.out; simp [intOf]; omega
        · have hkl : k = l.length := by omega
          have hnx2 : partsL l = done ++ [p] := by
            rcases hnx with ⟨h, _⟩ | ⟨_, h⟩
            · omega
            · exact h
          have hd1 : (done ++ [p]).length ≤ k + 1 := by rw [List.length_append]; exact Nat.succ_le_succ hdk
          have c0 : ((k : Int) == (l.length : Int)) = true := by simp; omega
          have c1 : ((k : Int) ≤ (l.length : Int)) := by omega
          have HP := Lib.hid hnx2
          have HK := Lib.hid (And.intro hk (And.intro hdk (And.intro hfk (And.intro hkl hd1))))
          clear hit hnx hgx hnx2 hk hdk hd1 hkl hi
          go_wp2_with (first
            | (at_builtin; refine wpList_app elt_str rfl (.tmp 22) (.tmp 27) rfl w.heap.size _ done.length (strC done) rfl hown2 (some ⟨wr.heap.size, 0, none⟩) 1 1 (strC [p]) rfl rfl hrd (strC_one _) st1.out st2.out st3 ?_; intro v' w' ho hg; have hb3 := below_grown hbO hown2 hg st3 (Nat.le_refl _); replace ho := hout.out _ _ ho)
            | fail)
          go_roundw
          case rel => obtain ⟨h1, h2, h3, h4, hd1⟩ := HK.out; exact ⟨done ++ [p], k + 1, k + 1, by go_num, by go_num, by omega, hd1, ho, hb3, .inr ⟨by omega, HP.out⟩⟩
          case measure => obtain ⟨h1, h2, h3, h4, hd1⟩ := HK.out; simp [intOf]; omega
      · obtain ⟨hi, hk47⟩ : ∃ hi : k < l.length, l[k] ≠ 47 := by
          have hi : k < l.length := by
            apply Classical.byContradiction
            intro h
            exact hit fun hi => absurd hi h
          exact ⟨hi, fun h => hit fun _ => h⟩
        clear hit
        have c0 : ((k : Int) == (l.length : Int)) = false := by simp; omega
        have c1 : ((k : Int) ≤ (l.length : Int)) := by omega
        have f1 : ∀ W, (Instr.index 9 (.string (bstr l)) (.int .i64 (k : Int))).run Tryd.prog W = .ok (.int .u8 (l[k].toNat : Int)) W := fun W => str_index W l k hi _ rfl
        have hno2 : ∀ j (hj : j < l.length), fk ≤ j → j < k + 1 → l[j] ≠ 47 := fun j hj h1 h2 => by
          by_cases e : j = k
          · subst e; exact hk47
          · exact hno j hj h1 (by omega)
        have c2 : ((l[k].toNat : Int) == 47) = false := by
          rw [beq_eq_false_iff_ne]
          intro e
          exact hk47 (UInt8.toNat_inj.1 (by have : l[k].toNat = 47 := by omega
                                            rw [this]; rfl))
        have HK := Lib.hid (And.intro hk (And.intro hdk (And.intro hfk hi)))
        clear hk47 hno hk hdk hfk hlt
        generalize l[k] = x at *
        clear hi
        have HN := Lib.hid hno2
        have HP := Lib.hid hpl
        clear hno2 hpl
        go_wp2_with fail
        go_roundw
        case rel => obtain ⟨h1, h2, h3, h4⟩ := HK.out; exact ⟨done, fk, k + 1, rfl, by go_num, by omega, by omega, hown, hbr, .inl ⟨by omega, by omega, HP.out, HN.out⟩⟩
        case measure => obtain ⟨h1, h2, h3, h4⟩ := HK.out; simp [intOf]; omega
    · have hfin : partsL l = done := by
        rcases hst with ⟨_, h, _⟩ | ⟨_, h⟩
        · omega
        · exact h
      have c1 : ¬ ((k : Int) ≤ (l.length : Int)) := by omega
      clear hst
      go_wp2_with fail
      go_ret
      obtain ⟨A, c, e, h1, h2, h3, _⟩ := RdC.of_own hown
      exact ⟨⟨_, rfl, A, c, e, h1, h2, h3⟩, hbr⟩
end Go.Proofs.YtmfncojkpkoijaaDoor
