/- Names of refs: the rules that go through bytes and parts. -/
import Derived.Test.YtmfncojkpkoijaaDoorNmA
namespace Go.Proofs.YtmfncojkpkoijaaDoor
open Go.RowKit
set_option linter.unusedVariables false

theorem partsL_len (l : List UInt8) : (partsL l).length ≤ l.length + 1 ∧ ∀ p ∈ partsL l, p.length ≤ l.length := by
  induction l with
  | nil => exact ⟨Nat.le_refl _, fun p hp => by simp [partsL] at hp; subst hp; exact Nat.le_refl _⟩
  | cons c r ih =>
    by_cases h : c = 47
    · subst h
      rw [partsL_slash]
      refine ⟨by simp only [List.length_cons]; omega, fun p hp => ?_⟩
      rcases List.mem_cons.1 hp with rfl | hp
      · simp
      · have := ih.2 p hp
        simp only [List.length_cons]
        omega
    · obtain ⟨q, qs, h1, h2⟩ := partsL_other h r
      rw [h1] at ih
      rw [h2]
      refine ⟨by have := ih.1; simp only [List.length_cons] at this ⊢; omega, fun p hp => ?_⟩
      rcases List.mem_cons.1 hp with rfl | hp
      · have := ih.2 q (List.mem_cons_self ..)
        simp only [List.length_cons]
        omega
      · have := ih.2 p (List.mem_cons_of_mem _ hp)
        simp only [List.length_cons]
        omega
theorem any_upto {α : Type} {ps : List α} {t : α → Bool} (h : ∀ j (hj : j < ps.length), t ps[j] = false) : ps.any t = false := by
  rw [List.any_eq_false]
  intro x hx
  obtain ⟨j, hj, rfl⟩ := List.getElem_of_mem hx
  rw [h j hj]
  exact Bool.false_ne_true
theorem any_at {α : Type} {ps : List α} {t : α → Bool} (k : Nat) (hk : k < ps.length) (h : t ps[k] = true) : ps.any t = true := List.any_eq_true.2 ⟨_, List.getElem_mem hk, h⟩
set_option maxHeartbeats 1000000 in
theorem byPart_any (l : List UInt8) (hl : l.length ≤ 1000) (g gb : Nat) (t : List UInt8 → Bool) (w : World) (hm : MaxOK w) (hc : w.cell? ⟨g, 0, none⟩ = some (.func (.func gb) #[] #[]))
    (eg : ∀ args w, (callFunc gb args).run Tryd.prog w = .ok (.enter gb args) w) (hb : ∀ p, p.length ≤ 1000 → ∀ W, Calls Tryd.prog gb #[.string (bstr p)] W fun e W' => e = .returned (.bool (t p)) ∧ W' = W) :
    Calls Tryd.prog 71 #[.string (bstr l), .pointer (some ⟨g, 0, none⟩)] w fun e w' => e = .returned (.bool ((partsL l).any t)) ∧ Below w.heap.size w w' := by
  have c := split_any l (by omega) w hm
  have hlen := (partsL_len l).2
  have hpl := (partsL_len l).1
  obtain ⟨ps, hps⟩ : ∃ ps, ps = partsL l := ⟨_, rfl⟩
  rw [← hps] at c hlen hpl ⊢
  clear hps
  have hb1 : Below w.heap.size w (w.alloc (.cells (strC (ps)).toArray 9)) := (Below.refl _ w).alloc (Nat.le_refl _) _
  have hg1 : (w.alloc (.cells (strC (ps)).toArray 9)).heap[w.heap.size]? = some (.cells (strC (ps)).toArray 9 (0, 0)) := heap_alloc_new _ _
  have hc1 : (w.alloc (.cells (strC (ps)).toArray 9)).cell? ⟨g, 0, none⟩ = some (.func (.func gb) #[] #[]) := (hb1.cell (World.block_lt_of_cell? w _ hc)).trans hc
  clear hc hm
  go_enter Tryd.func71, Tryd.ntmps71
  go_wp2_with (go_at_call 33; refine c.mono ?_; rintro e w' ⟨rfl, rfl⟩)
  obtain ⟨w1, hw1⟩ : ∃ w1, w1 = w.alloc (.cells (strC (ps)).toArray 9) := ⟨_, rfl⟩
  rw [← hw1] at hb1 hg1 hc1 ⊢
  clear hw1 c
  go_loopw [9] (fun i wr => ∃ k : Nat, k ≤ ps.length ∧ i = .int .i64 k ∧ (∀ j (hj : j < ps.length), j < k → t ps[j] = false) ∧ wr = w1) (fun i _ => ps.length - (intOf i).toNat)
  case atStart => exact ⟨0, by omega, rfl, fun j hj h => by omega, rfl⟩
  case round =>
    obtain ⟨k, hk, rfl, hall, rfl⟩ := hrel
    by_cases hlt : k < ps.length
    · have hA : wr.cell? ⟨w.heap.size, k, none⟩ = some (.string (bstr ps[k])) := by
        rw [cell_of_row _ _ _ _ _ _ hg1]
        simp [strC, hlt]
      have hp := hb ps[k] (by have := hlen _ (List.getElem_mem hlt); omega) wr
      have hany : t ps[k] = true → ps.any t = true := any_at k hlt
      have hall2 : t ps[k] = false → ∀ j (hj : j < ps.length), j < k + 1 → t ps[j] = false := fun h j hj h1 => by
        by_cases e : j = k
        · subst e; exact h
        · exact hall j hj (by omega)
      clear hall hb hlen
      generalize ps[k] = p at *
      generalize t p = tp at *
      cases tp with
      | true =>
        have e := hany rfl
        clear hany hall2
        go_wp2_with (go_at_fn gb; refine hp.mono ?_; rintro e w' ⟨rfl, rfl⟩)
        go_ret
        exact ⟨by (try rw [e]); rfl, hb1⟩
      | false =>
        have HA := Lib.hid (hall2 rfl)
        clear hany hall2
        go_wp2_with (go_at_fn gb; refine hp.mono ?_; rintro e w' ⟨rfl, rfl⟩)
        go_roundw
        case rel => exact ⟨k + 1, by omega, by go_num, HA.out, by first | rfl | trivial⟩
        case measure => simp [intOf]; omega
    · have e : ps.any t = false := any_upto fun j hj => hall j hj (by omega)
      clear hall
      obtain rfl : k = ps.length := by omega
      go_wp2_with fail
      go_ret
      exact ⟨by (try rw [e]); rfl, hb1⟩
theorem mayB_low {c : UInt8} (h : c.toNat < 33) : mayB c = false := by unfold mayB; rw [decide_eq_false (by omega)]; rfl
theorem mayB_high {c : UInt8} (h : 126 < c.toNat) : mayB c = false := by unfold mayB; rw [decide_eq_false (p := c.toNat ≤ 126) (by omega), Bool.false_and, Bool.and_false]
theorem may_false_of {c : UInt8} (h : 33 ≤ c.toNat) (h2 : c.toNat ≤ 126) : (!mayB c) = wrongL.contains c := by
  unfold mayB
  rw [decide_eq_true h, decide_eq_true h2, Bool.true_and, Bool.true_and, Bool.not_not]
theorem all_upto {l : List UInt8} (h : ∀ j (hj : j < l.length), mayB l[j] = true) : l.all mayB = true := by
  rw [List.all_eq_true]
  intro x hx
  obtain ⟨j, hj, rfl⟩ := List.getElem_of_mem hx
  exact h j hj
theorem all_at {l : List UInt8} (k : Nat) (hk : k < l.length) (h : mayB l[k] = false) : l.all mayB = false := by
  rw [List.all_eq_false]
  exact ⟨_, List.getElem_mem hk, by rw [h]; exact Bool.false_ne_true⟩
theorem enc_ascii (c : UInt8) (h : c.toNat < 128) : Utf8.encode (c.toNat : Int) = bstr [c] := by
  have hv : Utf8.valid (c.toNat : Int) = true := by unfold Utf8.valid; simp; omega
  unfold Utf8.encode
  simp only [hv, if_true, Int.toNat_natCast]
  rw [if_pos h]
  simp [bstr]
set_option maxHeartbeats 1000000 in
theorem byByte_any (l : List UInt8) (hl : l.length ≤ 1000) (w : World) (hm : MaxOK w) :
    Calls Tryd.prog 49 #[.string (bstr l)] w fun e w' => e = .returned (.bool (!l.all mayB)) ∧ Below w.heap.size w w' := by
  have hsz : (bstr l).size = l.length := bstr_size l
  go_enter Tryd.func49, Tryd.ntmps49
  go_wp2
  go_loopw [4] (fun c w' => ∃ (pos : Nat), w' = w.iter (bstr l) pos ∧ pos ≤ l.length ∧ (∀ j (hj : j < l.length), j < pos → mayB l[j] = true)) (fun _ w' => l.length - w'.iterPos w.heap.size)
  case atStart => exact ⟨0, rfl, Nat.zero_le _, fun j hj h => by omega⟩
  case round =>
    obtain ⟨pos, rfl, hp, hall⟩ := hrel
    have hbe : Below w.heap.size w (w.iter (bstr l) pos) := (Below.refl _ w).alloc (Nat.le_refl _) _
    have hm2 : MaxOK (w.iter (bstr l) pos) := hm.below hbe
    by_cases hlt : pos < l.length
    · have hlt2 : pos < (bstr l).size := by rw [hsz]; exact hlt
      by_cases h128 : l[pos].toNat < 128
      · have hnx : ∀ ty, (Instr.next (.pointer (some ⟨w.heap.size, 0, none⟩)) true ty).run Tryd.prog (w.iter (bstr l) pos) = .ok (.tuple #[.bool true, .int .i64 pos, .int .i32 (l[pos].toNat : Int)]) (w.iter (bstr l) (pos + 1)) := fun ty => run_next_ascii w (bstr l) pos ty hlt2 h128
        have hall2 : mayB l[pos] = true → ∀ j (hj : j < l.length), j < pos + 1 → mayB l[j] = true := fun h j hj h1 => by
          by_cases e : j = pos
          · subst e; exact h
          · exact hall j hj (by omega)
        have hno : mayB l[pos] = false → l.all mayB = false := all_at pos hlt
        have hbe2 : Below w.heap.size w (w.iter (bstr l) (pos + 1)) := (Below.refl _ w).alloc (Nat.le_refl _) _
        have c := contains_any wrongL [l[pos]] (by show 7 ≤ 100000; omega) (w.iter (bstr l) (pos + 1)) (hm.below hbe2)
        rw [contains_one] at c
        have hen := enc_ascii l[pos] h128
        have hmf := @may_false_of l[pos]
        have hm33 : l[pos].toNat < 33 → mayB l[pos] = false := mayB_low
        have hm126 : 126 < l[pos].toNat → mayB l[pos] = false := mayB_high
        clear hall hbe hm2 hm
        generalize l[pos] = x at *
        generalize mayB x = mx at *
        by_cases h33 : x.toNat < 33
        · have e1 : (x.toNat : Int) < 33 := by omega
          have e2 := hno (hm33 h33)
          clear hno hm33 hm126 hmf c hall2 hen
          go_wp2
          go_ret
          exact ⟨by (try rw [e2]); rfl, hbe2⟩
        · have e1 : ¬ (x.toNat : Int) < 33 := by omega
          by_cases h126 : 126 < x.toNat
          · have e3 : (126 : Int) < (x.toNat : Int) := by omega
            have e2 := hno (hm126 h126)
            clear hno hm33 hm126 hmf c hall2 hen
            go_wp2
            go_ret
            exact ⟨by (try rw [e2]); rfl, hbe2⟩
          · have e3 : ¬ (126 : Int) < (x.toNat : Int) := by omega
            have hmf2 := hmf (by omega) (by omega)
            clear hmf hm33 hm126
            rw [← hmf2] at c
            cases mx with
            | true =>
              have HA := Lib.hid (hall2 rfl)
              clear hno hall2 hmf2
              go_wp2_with (go_at_call 70; refine c.mono ?_; rintro e w' ⟨rfl, rfl⟩)
              go_roundw
              case rel => exact ⟨pos + 1, rfl, by omega, HA.out⟩
              case measure => simp; omega
            | false =>
              have e2 := hno rfl
              clear hno hall2 hmf2
              go_wp2_with (go_at_call 70; refine c.mono ?_; rintro e w' ⟨rfl, rfl⟩)
              go_ret
              exact ⟨by (try rw [e2]); rfl, hbe2⟩
      · have hd := decode_high (bstr l) pos hlt2 (show 128 ≤ l[pos].toNat by omega)
        have hnx : ∀ ty, (Instr.next (.pointer (some ⟨w.heap.size, 0, none⟩)) true ty).run Tryd.prog (w.iter (bstr l) pos) = _ := fun ty => run_next_any w (bstr l) pos ty hlt2
        have hno : l.all mayB = false := all_at pos hlt (mayB_high (by omega))
        have e1 : ¬ ((Utf8.decode (bstr l) pos).1 : Int) < 33 := by omega
        have e3 : (126 : Int) < ((Utf8.decode (bstr l) pos).1 : Int) := by omega
        have hbe2 : Below w.heap.size w (w.iter (bstr l) (pos + (Utf8.decode (bstr l) pos).2)) := (Below.refl _ w).alloc (Nat.le_refl _) _
        clear hall hbe hm2 hm hd h128
        generalize (Utf8.decode (bstr l) pos).1 = r at *
        generalize (Utf8.decode (bstr l) pos).2 = r2 at *
        go_wp2
        go_ret
        exact ⟨by (try rw [hno]); rfl, hbe2⟩
    · have hnx : ∀ ty, (Instr.next (.pointer (some ⟨w.heap.size, 0, none⟩)) true ty).run Tryd.prog (w.iter (bstr l) pos) = _ := fun ty => run_next_end w (bstr l) pos ty (by rw [hsz]; exact hlt)
      have e : l.all mayB = true := all_upto fun j hj => hall j hj (by omega)
      clear hall
      go_wp2
      go_ret
      exact ⟨by (try rw [e]); rfl, hbe⟩
end Go.Proofs.YtmfncojkpkoijaaDoor
