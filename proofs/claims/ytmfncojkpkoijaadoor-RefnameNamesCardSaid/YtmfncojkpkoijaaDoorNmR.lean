/- Names of refs: the reference's Breaks. -/
import Derived.Test.YtmfncojkpkoijaaDoorNmB
namespace Go.Proofs.YtmfncojkpkoijaaDoor
open Go.RowKit
set_option linter.unusedVariables false

theorem pair_none {a b : UInt8} {l : List UInt8} (h : ∀ t (ht : t + 1 < l.length), ¬ (l[t + 1] = b ∧ l[t] = a)) : pairL a b l = false := by
  rw [← Bool.not_eq_true, pairL_iff]
  rintro ⟨j, h1, h2⟩
  obtain ⟨hj1, e1⟩ := List.getElem?_eq_some_iff.1 h1
  obtain ⟨hj2, e2⟩ := List.getElem?_eq_some_iff.1 h2
  exact h j hj2 ⟨e2, e1⟩
theorem pair_at {a b : UInt8} {l : List UInt8} (t : Nat) (ht : t + 1 < l.length) (h : l[t + 1] = b ∧ l[t] = a) : pairL a b l = true := (pairL_iff a b l).2 ⟨t, by rw [List.getElem?_eq_getElem (by omega), h.2], by rw [List.getElem?_eq_getElem ht, h.1]⟩
theorem last_at {l : List UInt8} (h : 0 < l.length) : l.getLast? = some (l[l.length - 1]'(by omega)) := by
  rw [List.getLast?_eq_getElem?, List.getElem?_eq_getElem (by omega)]
theorem lock_iff (p : List UInt8) : lockL.isSuffixOf p = true ↔ 5 ≤ p.length ∧ p.drop (p.length - 5) = lockL := by
  have h := Lib.hasSuffix_of_drop p lockL
  unfold Lib.hasSuffix at h
  rw [← h, Bool.and_eq_true, decide_eq_true_eq, beq_iff_eq]
  exact Iff.rfl
theorem eq47_u8 (x : UInt8) (n : Nat) (hn : n < 256) : ((x.toNat : Int) == (n : Int)) = (x == UInt8.ofNat n) := by
  by_cases h : x = UInt8.ofNat n
  · rw [h, beq_self_eq_true, beq_iff_eq, UInt8.toNat_ofNat', Nat.mod_eq_of_lt hn]
  · rw [beq_eq_false_iff_ne.2 h, beq_eq_false_iff_ne]
    intro e
    exact h (UInt8.toNat_inj.1 (by rw [UInt8.toNat_ofNat', Nat.mod_eq_of_lt hn]; omega))
set_option maxRecDepth 20000 in
set_option maxHeartbeats 8000000 in
theorem rbreaks_any (l : List UInt8) (hl : l.length ≤ 1000) (w : World) :
    Calls Tryd.prog 10 #[.string (bstr l)] w fun e w' => e = .returned (.int .i64 (brL l : Int)) ∧ Below w.heap.size w w' := by
  have hsz : (bstr l).size = l.length := bstr_size l
  obtain ⟨br, hbr0⟩ : ∃ b, b = brL l := ⟨_, rfl⟩
  rw [← hbr0]
  have HB := Lib.hid hbr0
  clear hbr0
  by_cases h1 : l.length < 1 ∨ 100 < l.length
  · have hb1 : br = 1 := by rw [HB.out]; unfold brL; rw [if_pos h1]
    subst hb1
    clear HB
    rcases h1 with h1 | h1
    · obtain rfl : l = [] := List.eq_nil_of_length_eq_zero (by omega)
      go_enter Tryd.func10, Tryd.ntmps10
      go_wp2
      go_ret
      exact ⟨rfl, Below.refl _ _⟩
    · have e1 : ¬ (l.length : Int) < 1 := by omega
      have e2 : (100 : Int) < (l.length : Int) := by omega
      go_enter Tryd.func10, Tryd.ntmps10
      go_wp2
      go_ret
      exact ⟨rfl, Below.refl _ _⟩
  · have e1 : ¬ (l.length : Int) < 1 := by omega
    have e2 : ¬ (100 : Int) < (l.length : Int) := by omega
    have n1 : ¬ (l.length < 1 ∨ 100 < l.length) := h1
    have l100 : l.length ≤ 100 := by omega
    have l1 : 1 ≤ l.length := by omega
    have N1 := Lib.hid n1
    clear n1 h1 hl
    have cp := rparts_any l (by omega)
    go_enter Tryd.func10, Tryd.ntmps10
    go_wp2_with fail
    clear e1 e2
    -- every byte
    go_loopw [3] (fun i wr => ∃ k : Nat, i = .int .i64 k ∧ k ≤ l.length ∧ (∀ j (hj : j < l.length), j < k → mayB l[j] = true) ∧ wr = w) (fun i _ => l.length - (intOf i).toNat)
    case atStart => exact ⟨0, rfl, Nat.zero_le _, fun j hj h => by omega, rfl⟩
    case round =>
      obtain ⟨k, rfl, hk, hall, rfl⟩ := hrel
      by_cases hlt : k < l.length
      · have f1 : ∀ W, (Instr.index 9 (.string (bstr l)) (.int .i64 (k : Int))).run Tryd.prog W = .ok (.int .u8 (l[k].toNat : Int)) W := fun W => str_index W l k hlt _ rfl
        have cm := may_any l[k] wr
        have hno : mayB l[k] = false → l.all mayB = false := all_at k hlt
        have hall2 : mayB l[k] = true → ∀ j (hj : j < l.length), j < k + 1 → mayB l[j] = true := fun h j hj h1 => by
          by_cases e : j = k
          · subst e; exact h
          · exact hall j hj (by omega)
        clear hall
        generalize mayB l[k] = mx at *
        generalize l[k] = x at *
        have c1 : (k : Int) < (l.length : Int) := by omega
        cases mx with
        | true =>
          have HA := Lib.hid (hall2 rfl)
          clear hall2 hno
          go_wp2_with (go_at_call 31; refine cm.mono ?_; rintro e w' ⟨rfl, rfl⟩)
          go_roundw
          case rel => exact ⟨k + 1, by go_num, by omega, HA.out, by first | rfl | trivial⟩
          case measure => simp [intOf]; omega
        | false =>
          have e3 : br = 2 := by rw [HB.out]; unfold brL; rw [if_neg N1.out, if_pos (hno rfl)]
          subst e3
          clear hall2 hno HB
          go_wp2_with (go_at_call 31; refine cm.mono ?_; rintro e w' ⟨rfl, rfl⟩)
          go_ret
          exact ⟨rfl, Below.refl _ _⟩
      · have c1 : ¬ (k : Int) < (l.length : Int) := by omega
        have N2 : Hid (¬ l.all mayB = false) := by
          show ¬ _
          rw [all_upto fun j hj => hall j hj (by omega)]
          exact fun h => by cases h
        clear hall hlt
        go_wp2_with (go_at_call 32; refine (cp _).mono ?_; rintro e w1 ⟨⟨v, rfl, hv⟩, hb1⟩)
        clear cp c1
        obtain ⟨A, c, rfl, hc1, hc2, hrd⟩ := hv
        have hne := partsL_ne l
        have hpl := (partsL_len l).1
        generalize hps : partsL l = ps at *
        have HPS := Lib.hid hps
        clear hps
        have h0 : 0 < ps.length := List.length_pos_iff.2 hne
        obtain ⟨ad, rfl, _⟩ := str_cell hrd 0 h0
        have hcell : ∀ j (hj : j < ps.length), w1.cell? (ad.add j) = some (.string (bstr ps[j])) := fun j hj => by
          obtain ⟨_, e, h⟩ := str_cell hrd j hj
          cases e
          exact h
        clear hrd hne hk
        replace hb1 : Below wr.heap.size wr w1 := hb1
        have bnd2 : ps.length ≤ 200 := by omega
        -- no part is empty
        go_loopw [6] (fun i wx => ∃ k : Nat, i = .int .i64 k ∧ k ≤ ps.length ∧ (∀ j (hj : j < ps.length), j < k → ps[j].isEmpty = false) ∧ wx = w1) (fun i _ => ps.length - (intOf i).toNat)
        case atStart => exact ⟨0, rfl, Nat.zero_le _, fun j hj h => by omega, rfl⟩
        case round =>
          obtain ⟨k2, rfl, hk, hall, hwx⟩ := hrel; obtain rfl := hwx.symm
          by_cases hlt : k2 < ps.length
          · have hA := hcell k2 hlt
            have c1 : (k2 : Int) < (ps.length : Int) := by omega
            have hno : ps[k2].isEmpty = true → ps.any (·.isEmpty) = true := any_at k2 hlt
            have hall2 : ps[k2].isEmpty = false → ∀ j (hj : j < ps.length), j < k2 + 1 → ps[j].isEmpty = false := fun h j hj h1 => by
              by_cases e : j = k2
              · subst e; exact h
              · exact hall j hj (by omega)
            clear hall hcell
            have hie : (bstr ps[k2]).toList.isEmpty = ps[k2].isEmpty := by rw [bstr_toList]
            generalize ps[k2] = p at *
            generalize p.isEmpty = pe at *
            cases pe with
            | true =>
              have e3 : br = 3 := by rw [HB.out]; unfold brL; rw [if_neg N1.out, if_neg N2.out, HPS.out, if_pos (hno rfl)]
              subst e3
              clear hall2 hno HB
              go_wp2_with fail
              go_ret
              exact ⟨rfl, hb1⟩
            | false =>
              have HA := Lib.hid (hall2 rfl)
              clear hall2 hno
              go_wp2_with fail
              go_roundw
              case rel => exact ⟨k2 + 1, by go_num, by omega, HA.out, by first | rfl | trivial⟩
              case measure => simp [intOf]; omega
          · have c1 : ¬ (k2 : Int) < (ps.length : Int) := by omega
            have hnem : Hid (∀ j (hj : j < ps.length), ps[j].isEmpty = false) := by
              intro j hj
              exact hall j hj (by omega)
            have N3 : Hid (¬ ps.any (·.isEmpty) = true) := by
              show ¬ _
              rw [any_upto hnem.out]
              exact Bool.false_ne_true
            clear hall hlt hk
            go_wp2_with fail
            clear c1
            -- no part begins with a dot
            go_loopw [7] (fun i wx => ∃ k : Nat, i = .int .i64 k ∧ k ≤ ps.length ∧ (∀ j (hj : j < ps.length), j < k → (ps[j].head? == some 46) = false) ∧ wx = w1) (fun i _ => ps.length - (intOf i).toNat)
            case atStart => exact ⟨0, rfl, Nat.zero_le _, fun j hj h => by omega, by first | rfl | trivial⟩
            case round =>
              obtain ⟨k3, rfl, hk, hall, hwx⟩ := hrel; obtain rfl := hwx.symm
              by_cases hlt : k3 < ps.length
              · have hA := hcell k3 hlt
                have c1 : (k3 : Int) < (ps.length : Int) := by omega
                have hno : (ps[k3].head? == some 46) = true → ps.any (fun p => p.head? == some 46) = true := any_at (t := fun p => p.head? == some 46) k3 hlt
                have hall2 : (ps[k3].head? == some 46) = false → ∀ j (hj : j < ps.length), j < k3 + 1 → (ps[j].head? == some 46) = false := fun h j hj h1 => by
                  by_cases e : j = k3
                  · subst e; exact h
                  · exact hall j hj (by omega)
                have hpe := hnem.out k3 hlt
                clear hall hcell
                generalize ps[k3] = p at *
                cases p with
                | nil => cases hpe
                | cons x r =>
                  have f1 : ∀ W, (Instr.index 9 (.string (bstr (x :: r))) (.int .i64 0)).run Tryd.prog W = .ok (.int .u8 (x.toNat : Int)) W := fun W => str_index W (x :: r) 0 (by simp) _ rfl
                  have hx : ((x.toNat : Int) == 46) = ((x :: r).head? == some 46) := eq47_u8 x 46 (by omega)
                  clear hpe
                  generalize ((x :: r).head? == some 46) = hd at *
                  cases hd with
                  | true =>
                    have e3 : br = 4 := by rw [HB.out]; unfold brL; rw [if_neg N1.out, if_neg N2.out, HPS.out, if_neg N3.out, if_pos (hno rfl)]
                    subst e3
                    clear hall2 hno HB
                    go_wp2_with fail
                    go_ret
                    exact ⟨rfl, hb1⟩
                  | false =>
                    have HA := Lib.hid (hall2 rfl)
                    clear hall2 hno
                    go_wp2_with fail
                    go_roundw
                    case rel => exact ⟨k3 + 1, by go_num, by omega, HA.out, by first | rfl | trivial⟩
                    case measure => simp [intOf]; omega
              · have c1 : ¬ (k3 : Int) < (ps.length : Int) := by omega
                have N4 : Hid (¬ ps.any (fun p => p.head? == some 46) = true) := by
                  show ¬ _
                  rw [any_upto (t := fun p => p.head? == some 46) fun j hj => hall j hj (by omega)]
                  exact Bool.false_ne_true
                clear hall hlt hk
                go_wp2_with fail
                clear c1
                -- no two dots
                go_loopw [8] (fun i wx => ∃ k : Nat, i = .int .i64 ((k : Int) + 1) ∧ k < l.length ∧ (∀ t (ht : t + 1 < l.length), t < k → ¬ (l[t + 1] = 46 ∧ l[t] = 46)) ∧ wx = w1) (fun i _ => l.length + 1 - (intOf i).toNat)
                case atStart => exact ⟨0, rfl, by omega, fun j hj h => by omega, by first | rfl | trivial⟩
                case round =>
                  obtain ⟨k4, rfl, hk, hall, hwx⟩ := hrel; obtain rfl := hwx.symm
                  by_cases hlt : k4 + 1 < l.length
                  · have f1 : ∀ W, (Instr.index 9 (.string (bstr l)) (.int .i64 ((k4 : Int) + 1))).run Tryd.prog W = .ok (.int .u8 (l[k4 + 1].toNat : Int)) W := fun W => str_index W l (k4 + 1) hlt _ (by omega)
                    have f2 : ∀ W, (Instr.index 9 (.string (bstr l)) (.int .i64 (k4 : Int))).run Tryd.prog W = .ok (.int .u8 (l[k4].toNat : Int)) W := fun W => str_index W l k4 (by omega) _ rfl
                    have c1 : (k4 : Int) + 1 < (l.length : Int) := by omega
                    have hno : (l[k4 + 1] = 46 ∧ l[k4] = 46) → pairL 46 46 l = true := pair_at k4 hlt
                    have hall2 : ¬ (l[k4 + 1] = 46 ∧ l[k4] = 46) → ∀ t (ht : t + 1 < l.length), t < k4 + 1 → ¬ (l[t + 1] = 46 ∧ l[t] = 46) := fun h j hj h1 => by
                      by_cases e : j = k4
                      · subst e; exact h
                      · exact hall j hj (by omega)
                    have e1 : ((l[k4 + 1].toNat : Int) == 46) = (l[k4 + 1] == 46) := eq47_u8 _ 46 (by omega)
                    have e2 : ((l[k4].toNat : Int) == 46) = (l[k4] == 46) := eq47_u8 _ 46 (by omega)
                    clear hall
                    generalize l[k4 + 1] = x at *
                    generalize l[k4] = y at *
                    by_cases hx : x = 46
                    · have e1' : ((x.toNat : Int) == 46) = true := by rw [e1, hx]; rfl
                      by_cases hy : y = 46
                      · have e2' : ((y.toNat : Int) == 46) = true := by rw [e2, hy]; rfl
                        have e3 : br = 5 := by rw [HB.out]; unfold brL; rw [if_neg N1.out, if_neg N2.out, HPS.out, if_neg N3.out, if_neg N4.out, if_pos (hno ⟨hx, hy⟩)]
                        subst e3
                        clear hall2 hno HB e1 e2 hx hy
                        go_wp2_with fail
                        go_ret
                        exact ⟨rfl, hb1⟩
                      · have e2' : ((y.toNat : Int) == 46) = false := by rw [e2]; exact beq_eq_false_iff_ne.2 hy
                        have HA := Lib.hid (hall2 fun h => hy h.2)
                        clear hall2 hno e1 e2 hx hy
                        go_wp2_with fail
                        go_roundw
                        case rel => exact ⟨k4 + 1, by go_num, by omega, HA.out, by first | rfl | trivial⟩
                        case measure => simp [intOf]; omega
                    · have e1' : ((x.toNat : Int) == 46) = false := by rw [e1]; exact beq_eq_false_iff_ne.2 hx
                      have HA := Lib.hid (hall2 fun h => hx h.1)
                      clear hall2 hno e1 e2 hx
                      go_wp2_with fail
                      go_roundw
                      case rel => exact ⟨k4 + 1, by go_num, by omega, HA.out, by first | rfl | trivial⟩
                      case measure => simp [intOf]; omega
                  · have c1 : ¬ (k4 : Int) + 1 < (l.length : Int) := by omega
                    have N5 : Hid (¬ pairL 46 46 l = true) := by
                      show ¬ _
                      rw [pair_none fun t ht => hall t ht (by omega)]
                      exact Bool.false_ne_true
                    clear hall hlt hk
                    go_wp2_with fail
                    clear c1
                    -- no part ends with .lock
                    go_loopw [9, 10] (fun i nn wx => ∃ k : Nat, i = .int .i64 k ∧ k ≤ ps.length ∧ (∀ j (hj : j < ps.length), j < k → lockL.isSuffixOf ps[j] = false) ∧ wx = w1) (fun i _ _ => ps.length - (intOf i).toNat)
                    case atStart => exact ⟨0, rfl, Nat.zero_le _, fun j hj h => by omega, by first | rfl | trivial⟩
                    case round =>
                      obtain ⟨k5, rfl, hk, hall, hwx⟩ := hrel; obtain rfl := hwx.symm
                      by_cases hlt : k5 < ps.length
                      · have hA := hcell k5 hlt
                        have c1 : (k5 : Int) < (ps.length : Int) := by omega
                        have hno : lockL.isSuffixOf ps[k5] = true → ps.any (fun p => lockL.isSuffixOf p) = true := any_at (t := fun p => lockL.isSuffixOf p) k5 hlt
                        have hall2 : lockL.isSuffixOf ps[k5] = false → ∀ j (hj : j < ps.length), j < k5 + 1 → lockL.isSuffixOf ps[j] = false := fun h j hj h1 => by
                          by_cases e : j = k5
                          · subst e; exact h
                          · exact hall j hj (by omega)
                        have hlk := lock_iff ps[k5]
                        have hszp : (bstr ps[k5]).size = ps[k5].length := bstr_size _
                        have hpl5 : ps[k5].length ≤ 100 := by
                          have := (partsL_len l).2 ps[k5] (by rw [HPS.out]; exact List.getElem_mem hlt)
                          omega
                        have hex : 5 ≤ ps[k5].length → (bstr ps[k5]).extract (ps[k5].length - 5) ps[k5].length = bstr (ps[k5].drop (ps[k5].length - 5)) := fun h => by
                          rw [bstr_extract]
                          congr 1
                          exact List.take_of_length_le (by rw [List.length_drop]; omega)
                        clear hall hcell
                        generalize ps[k5] = p at *
                        generalize lockL.isSuffixOf p = pe at *
                        by_cases h5 : 5 ≤ p.length
                        · obtain ⟨m, hm⟩ : ∃ m, p.length = m + 5 := ⟨p.length - 5, by omega⟩
                          rw [hm] at hszp hlk hex
                          rw [Nat.add_sub_cancel] at hlk hex
                          have hex2 := hex (by omega)
                          have hszp2 : ((bstr p).size : Int) = (m : Int) + 5 := by rw [hszp]; rfl
                          have m100 : m ≤ 95 := by omega
                          clear hex hm h5 hpl5
                          have htl : (bstr (p.drop m)).toList = p.drop m := bstr_toList _
                          cases pe with
                          | true =>
                            have hd := (hlk.1 rfl).2
                            rw [hd] at hex2
                            have e3 : br = 6 := by rw [HB.out]; unfold brL; rw [if_neg N1.out, if_neg N2.out, HPS.out, if_neg N3.out, if_neg N4.out, if_neg N5.out, if_pos (hno rfl)]
                            subst e3
                            clear hall2 hno HB hlk htl hd
                            have ht : ((bstr lockL).toList == [46, 108, 111, 99, 107]) = true := by rw [bstr_toList]; rfl
                            go_wp2_with fail
                            go_ret
                            exact ⟨rfl, hb1⟩
                          | false =>
                            have hd : (p.drop m == [46, 108, 111, 99, 107]) = false := beq_eq_false_iff_ne.2 fun h => by
                              have := hlk.2 ⟨by omega, h⟩
                              cases this
                            have HA := Lib.hid (hall2 rfl)
                            clear hall2 hno hlk
                            go_wp2_with fail
                            go_roundw
                            case rel => exact ⟨k5 + 1, by go_num, by omega, HA.out, by first | rfl | trivial⟩
                            case measure => simp [intOf]; omega
                        · have c5 : ¬ (5 : Int) ≤ (p.length : Int) := by omega
                          cases pe with
                          | true => exact absurd (hlk.1 rfl).1 h5
                          | false =>
                            have HA := Lib.hid (hall2 rfl)
                            clear hall2 hno hlk hex hpl5 h5
                            go_wp2_with fail
                            go_roundw
                            case rel => exact ⟨k5 + 1, by go_num, by omega, HA.out, by first | rfl | trivial⟩
                            case measure => simp [intOf]; omega
                      · have c1 : ¬ (k5 : Int) < (ps.length : Int) := by omega
                        have N6 : Hid (¬ ps.any (fun p => lockL.isSuffixOf p) = true) := by
                          show ¬ _
                          rw [any_upto (t := fun p => lockL.isSuffixOf p) fun j hj => hall j hj (by omega)]
                          exact Bool.false_ne_true
                        clear hall hlt hk
                        have hlast := last_at (l := l) (by omega)
                        have f7 : ∀ W, (Instr.index 9 (.string (bstr l)) (.int .i64 ((l.length : Int) - 1))).run Tryd.prog W = .ok (.int .u8 (l[l.length - 1].toNat : Int)) W := fun W => str_index W l (l.length - 1) (by omega) _ (by omega)
                        have e7 : (((l[l.length - 1]).toNat : Int) == 46) = ((l[l.length - 1]) == 46) := eq47_u8 _ 46 (by omega)
                        generalize l[l.length - 1] = z at *
                        by_cases hz : z = 46
                        · have e7' : ((z.toNat : Int) == 46) = true := by rw [e7, hz]; rfl
                          have e3 : br = 7 := by rw [HB.out]; unfold brL; rw [if_neg N1.out, if_neg N2.out, HPS.out, if_neg N3.out, if_neg N4.out, if_neg N5.out, if_neg N6.out, hlast, hz, if_pos (by rfl)]
                          subst e3
                          clear HB e7 hz hlast
                          go_wp2_with fail
                          go_ret
                          exact ⟨rfl, hb1⟩
                        · have e7' : ((z.toNat : Int) == 46) = false := by rw [e7]; exact beq_eq_false_iff_ne.2 hz
                          have N7 : Hid (¬ (l.getLast? == some 46) = true) := by
                            show ¬ _
                            rw [hlast]
                            intro h
                            exact hz (Option.some.inj (eq_of_beq h))
                          clear e7 hz hlast
                          go_wp2_with fail
                          clear c1
                          -- no @{
                          go_loopw [11] (fun i wx => ∃ k : Nat, i = .int .i64 ((k : Int) + 1) ∧ k < l.length ∧ (∀ t (ht : t + 1 < l.length), t < k → ¬ (l[t + 1] = 123 ∧ l[t] = 64)) ∧ wx = w1) (fun i _ => l.length + 1 - (intOf i).toNat)
                          case atStart => exact ⟨0, rfl, by omega, fun j hj h => by omega, by first | rfl | trivial⟩
                          case round =>
                            obtain ⟨k8, rfl, hk, hall, hwx⟩ := hrel; obtain rfl := hwx.symm
                            by_cases hlt : k8 + 1 < l.length
                            · have f1 : ∀ W, (Instr.index 9 (.string (bstr l)) (.int .i64 ((k8 : Int) + 1))).run Tryd.prog W = .ok (.int .u8 (l[k8 + 1].toNat : Int)) W := fun W => str_index W l (k8 + 1) hlt _ (by omega)
                              have f2 : ∀ W, (Instr.index 9 (.string (bstr l)) (.int .i64 (k8 : Int))).run Tryd.prog W = .ok (.int .u8 (l[k8].toNat : Int)) W := fun W => str_index W l k8 (by omega) _ rfl
                              have c1 : (k8 : Int) + 1 < (l.length : Int) := by omega
                              have hno : (l[k8 + 1] = 123 ∧ l[k8] = 64) → pairL 64 123 l = true := pair_at k8 hlt
                              have hall2 : ¬ (l[k8 + 1] = 123 ∧ l[k8] = 64) → ∀ t (ht : t + 1 < l.length), t < k8 + 1 → ¬ (l[t + 1] = 123 ∧ l[t] = 64) := fun h j hj h1 => by
                                by_cases e : j = k8
                                · subst e; exact h
                                · exact hall j hj (by omega)
                              have e1 : ((l[k8 + 1].toNat : Int) == 123) = (l[k8 + 1] == 123) := eq47_u8 _ 123 (by omega)
                              have e2 : ((l[k8].toNat : Int) == 64) = (l[k8] == 64) := eq47_u8 _ 64 (by omega)
                              clear hall
                              generalize l[k8 + 1] = x at *
                              generalize l[k8] = y at *
                              by_cases hx : x = 123
                              · have e1' : ((x.toNat : Int) == 123) = true := by rw [e1, hx]; rfl
                                by_cases hy : y = 64
                                · have e2' : ((y.toNat : Int) == 64) = true := by rw [e2, hy]; rfl
                                  have e3 : br = 8 := by rw [HB.out]; unfold brL; rw [if_neg N1.out, if_neg N2.out, HPS.out, if_neg N3.out, if_neg N4.out, if_neg N5.out, if_neg N6.out, if_neg N7.out, if_pos (hno ⟨hx, hy⟩)]
                                  subst e3
                                  clear hall2 hno HB e1 e2 hx hy
                                  go_wp2_with fail
                                  go_ret
                                  exact ⟨rfl, hb1⟩
                                · have e2' : ((y.toNat : Int) == 64) = false := by rw [e2]; exact beq_eq_false_iff_ne.2 hy
                                  have HA := Lib.hid (hall2 fun h => hy h.2)
                                  clear hall2 hno e1 e2 hx hy
                                  go_wp2_with fail
                                  go_roundw
                                  case rel => exact ⟨k8 + 1, by go_num, by omega, HA.out, by first | rfl | trivial⟩
                                  case measure => simp [intOf]; omega
                              · have e1' : ((x.toNat : Int) == 123) = false := by rw [e1]; exact beq_eq_false_iff_ne.2 hx
                                have HA := Lib.hid (hall2 fun h => hx h.1)
                                clear hall2 hno e1 e2 hx
                                go_wp2_with fail
                                go_roundw
                                case rel => exact ⟨k8 + 1, by go_num, by omega, HA.out, by first | rfl | trivial⟩
                                case measure => simp [intOf]; omega
                            · have c1 : ¬ (k8 : Int) + 1 < (l.length : Int) := by omega
                              have N8 : Hid (¬ pairL 64 123 l = true) := by
                                show ¬ _
                                rw [pair_none fun t ht => hall t ht (by omega)]
                                exact Bool.false_ne_true
                              have e3 : br = 0 := by rw [HB.out]; unfold brL; rw [if_neg N1.out, if_neg N2.out, HPS.out, if_neg N3.out, if_neg N4.out, if_neg N5.out, if_neg N6.out, if_neg N7.out, if_neg N8.out]
                              subst e3
                              clear hall hlt hk HB
                              go_wp2_with fail
                              go_ret
                              exact ⟨rfl, hb1⟩
end Go.Proofs.YtmfncojkpkoijaaDoor
