/- leb: the reference's Source. -/
import Derived.Test.YtfifbjlmbdgmjaaLebY
import Derived.Test.YtfifbjlmbdgmjaaLebGv
import Derived.Deep.LoopGhost
namespace Go.Proofs.Ytfifbjlmbdgmjaa
open Go.RowKit Go.Shelf
attribute [local go_sem] Oper.semAt_some

theorem whereB_cons (c : UInt8) (r : List UInt8) : whereB (c :: r) = if c.toNat < 128 then 1 else if whereB r = 0 then 0 else whereB r + 1 := rfl
set_option maxHeartbeats 2000000 in
theorem where_any (A : Option Addr) (n c : Nat) (l : List UInt8) (hl : l.length = n) (hn : n ≤ 100000000) (w : World) (hr : RdC w A (u8v l)) : Calls Try.prog 48 #[.slice A n c] w fun e w' => e = .returned (.int .i64 (whereB l : Int)) ∧ w' = w := by
  go_enter Try.func48, Try.ntmps48
  go_wp2
  go_loop [3] (fun i => ∃ k : Nat, k ≤ n ∧ i = .int .i64 (k : Int) ∧ whereB l = if whereB (l.drop k) = 0 then 0 else k + whereB (l.drop k)) (fun i => n - (intOf i).toNat)
  case atStart => exact ⟨0, by omega, rfl, by simp only [List.drop_zero]; split <;> omega⟩
  case round =>
    obtain ⟨k, hk, rfl, hw⟩ := hrel
    by_cases hlt : k < n
    · obtain ⟨ad, rfl, hc⟩ := cell_of_rd hr k (by omega)
      have hd : l.drop k = l[k] :: l.drop (k + 1) := List.drop_eq_getElem_cons (by omega)
      rw [hd, whereB_cons] at hw
      generalize l[k] = b at *
      have HW := Lib.hid hw
      clear hw hd
      by_cases hb : b.toNat < 128
      · have hbi : (b.toNat : Int) < 128 := by omega
        go_wp2
        go_ret
        have hw := HW.out
        rw [if_pos hb] at hw
        simp at hw
        rw [hw]
        exact ⟨by go_num, rfl⟩
      · have hbi : ¬ (b.toNat : Int) < 128 := by omega
        go_wp2
        go_round
        case rel =>
          have hw := HW.out
          rw [if_neg hb] at hw
          refine ⟨k + 1, by omega, by go_num, ?_⟩
          rw [hw]
          by_cases h0 : whereB (l.drop (k + 1)) = 0
          · simp [h0]
          · simp [h0]
            omega
        case measure => simp [intOf]; omega
    · obtain rfl : k = n := by omega
      rw [List.drop_of_length_le (by omega)] at hw
      have hw2 : whereB l = 0 := by rw [hw]; rfl
      clear hw
      go_wp2
      go_ret
      exact ⟨rfl, rfl⟩
theorem valB_drop (l : List UInt8) (j : Nat) (h : j < l.length) : valB (l.drop j) = l[j].toNat % 128 + 128 * valB (l.drop (j + 1)) := by
  rw [List.drop_eq_getElem_cons h, valB]
theorem bstr_eq (a b : List UInt8) : ((bstr a).toList == (bstr b).toList) = decide (a = b) := by
  rw [bstr_toList, bstr_toList]
  by_cases h : a = b <;> simp [h]
set_option maxRecDepth 100000 in
set_option maxHeartbeats 4000000 in
theorem rnum_any (g most : Nat) (hm : most < 18446744073709551616) (l : List UInt8) (hl : l.length ≤ 100000000) (v : Value) (w : World) (hS : Src 55 g v l w) :
    Calls Try.prog 42 #[.pointer (some ⟨g, 0, none⟩), .int .u64 (most : Int)] w fun e w' => e = .returned (.tuple #[.int .u64 ((readN l most).1 : Int), .int .i64 ((readN l most).2.1 : Int)]) ∧ ∃ v', v'.ownBlock = v.ownBlock ∧ SrcStep 55 g w v' (l.drop (readN l most).2.2) w' := by
  have hS0 := hS
  have hgl := hS.lt
  obtain ⟨h1, A, c, rfl, h2, h3, h4, h5⟩ := hS
  have c1 := Boxed.cell h1
  have f1 := Boxed.frozen h1
  have hwh := where_any A l.length c l rfl hl w h4
  have hwl := whereB_le l
  unfold readN
  generalize whereB l = kk at *
  have HS := Lib.hid hS0
  clear hS0
  by_cases d1 : kk = 0 ∧ l.length < 10
  · rw [if_pos d1]
    obtain ⟨rfl, d2⟩ := d1
    go_enter Try.func42, Try.ntmps42
    go_wp2_with (go_at_call 48; refine hwh.mono ?_; rintro e w' ⟨rfl, hw'⟩; rw [hw']; clear hw')
    go_ret2
    exact ⟨rfl, _, rfl, HS.out, Kept.refl _ _⟩
  · rw [if_neg d1]
    by_cases d2 : kk = 0 ∨ 10 < kk
    · rw [if_pos d2]
      by_cases d0 : kk = 0
      · subst d0
        have d3 : ¬ l.length < 10 := fun h => d1 ⟨rfl, h⟩
        clear d1 d2
        go_enter Try.func42, Try.ntmps42
        go_wp2_with (go_at_call 48; refine hwh.mono ?_; rintro e w' ⟨rfl, hw'⟩; rw [hw']; clear hw')
        go_ret2
        exact ⟨rfl, _, rfl, HS.out, Kept.refl _ _⟩
      · have d3 : 10 < kk := d2.resolve_left d0
        have d4 : ((kk : Int) == 0) = false := by rw [beq_eq_false_iff_ne]; omega
        clear d1 d2 d0
        go_enter Try.func42, Try.ntmps42
        go_wp2_with (go_at_call 48; refine hwh.mono ?_; rintro e w' ⟨rfl, hw'⟩; rw [hw']; clear hw')
        go_ret2
        exact ⟨rfl, _, rfl, HS.out, Kept.refl _ _⟩
    · rw [if_neg d2]
      have d3 : 0 < kk := by omega
      have d5 : kk ≤ 10 := by omega
      have d4 : ((kk : Int) == 0) = false := by rw [beq_eq_false_iff_ne]; omega
      have cs : ∀ W : World, (Instr.slice 33 (.slice A l.length c) none (some (.int .i64 (kk : Int))) none).run Try.prog W = .ok (.slice A kk c) W := fun W => run_sub_h (P := Try.prog) W 33 A l.length c 1 Try.underlying33 (Try.sizeOf5 W) _ kk rfl (by omega)
      have s2 : ∀ W : World, (Instr.slice 33 (.slice A l.length c) (some (.int .i64 (kk : Int))) none none).run Try.prog W = .ok (.slice (subA A c kk 1) (l.length - kk) (c - kk)) W := fun W => run_sub_l (P := Try.prog) W 33 A l.length c 1 Try.underlying33 (Try.sizeOf5 W) _ kk rfl (by omega)
      clear d1 d2
      have hlt : (l.take kk).length = kk := by rw [List.length_take]; omega
      have HLT := Lib.hid hlt
      clear hlt
      obtain ⟨N, hN⟩ : ∃ N, N = valB (l.take kk) % 18446744073709551616 := ⟨_, rfl⟩
      rw [← hN]
      have hNl : N < 18446744073709551616 := by rw [hN]; exact Nat.mod_lt _ (by omega)
      have HN := Lib.hid hN
      clear hN
      have hgo : ∀ bb : Bool, decide (numB N = l.take kk) = !bb → ∀ (R : Ending → World → Prop), (∀ W er, Below w.heap.size w W → ((bb = true ∧ er = (11 : Int)) ∨ (bb = false ∧ most < N ∧ er = 12)) → R (.returned (.tuple #[.int .u64 0, .int .i64 er])) W) →
          (∀ W, Below w.heap.size w W → bb = false → ¬ most < N → R (.returned (.tuple #[.int .u64 (N : Int), .int .i64 0])) (W.setCell ⟨g, 0, none⟩ (.slice (subA A c kk 1) (l.length - kk) (c - kk)))) →
          Calls Try.prog 42 #[.pointer (some ⟨g, 0, none⟩), .int .u64 (most : Int)] w R := by
        intro bb hbb R hR1 hR2
        go_enter Try.func42, Try.ntmps42
        go_wp2_with (go_at_call 48; refine hwh.mono ?_; rintro e w' ⟨rfl, hw'⟩; rw [hw']; clear hw')
        go_loop [7, 8] (fun n i => ∃ (j : Nat) (x : Int), x + 1 = (j : Int) ∧ j ≤ kk ∧ i = .int .i64 x ∧ n = .int .u64 ((valB ((l.take kk).drop j) % 18446744073709551616 : Nat) : Int)) (fun _ i => (intOf i + 1).toNat)
        case atStart =>
          refine ⟨kk, (kk : Int) - 1, by omega, by omega, rfl, ?_⟩
          rw [List.drop_of_length_le (by rw [HLT.out]; omega)]
          rfl
        case round =>
          obtain ⟨j, x, hx, hj, rfl, rfl⟩ := hrel
          cases j with
          | zero =>
            obtain rfl : x = -1 := by omega
            have hv : valB ((l.take kk).drop 0) % 18446744073709551616 = N := by rw [List.drop_zero]; exact HN.out.symm
            rw [hv]
            clear hv
            go_wp2_with fail
            refine lr11 g N kk l.length c A (l.take kk) bb w hNl cs (fun W hb => ?_) (by rw [bstr_eq]; exact hbb) (fun W hb => (boxed_below h1 hb).cell) fun w2 r49 hb2 => ?_
            · have := run_string_of (P := Try.prog) W 33 9 5 Try.underlying33 Try.underlying5 Try.underlying9 A (l.take kk) c (by rw [← u8v_take]; exact (h4.below hb).take _)
              rwa [HLT.out] at this
            have c2 := (boxed_below h1 hb2).cell
            have f2 := (boxed_below h1 hb2).frozen
            have hR2' := hR2 w2 hb2
            have hR1' := hR1 w2
            clear hR1 hR2 hbb c1 f1 h1 cs hwh
            cases bb with
            | true =>
              go_wp2_with fail
              exact hR1' 11 hb2 (.inl ⟨trivial, rfl⟩)
            | false =>
              by_cases hmo : most < N
              · go_wp2_with fail
                exact hR1' 12 hb2 (.inr ⟨trivial, hmo, rfl⟩)
              · go_wp2_with fail
                exact hR2' trivial hmo
          | succ j =>
            obtain rfl : x = (j : Int) := by omega
            have hv := valB_drop (l.take kk) j (by rw [HLT.out]; omega)
            obtain ⟨ad, rfl, hc⟩ := cell_of_rd h4 j (by omega)
            have hg : (l.take kk)[j]'(by rw [HLT.out]; omega) = l[j]'(by omega) := by simp
            rw [hg] at hv
            generalize l[j]'(by omega) = b at *
            generalize valB ((l.take kk).drop (j + 1)) = V at *
            have HV := Lib.hid hv
            clear hv hg
            go_wp2
            go_round
            case rel =>
              refine ⟨j, (j : Int) - 1, by omega, by omega, rfl, ?_⟩
              rw [HV.out]
              congr 1
              simp only [IntKind.wrap_u64]
              omega
            case measure => simp [intOf]
      by_cases hq : numB N = l.take kk
      · rw [if_neg (fun h => h hq)]
        refine hgo false (by rw [decide_eq_true hq]; rfl) _ (fun W er hb h => ?_) (fun W hb _ hmo => ?_)
        · rcases h with ⟨h, _⟩ | ⟨_, hmo, rfl⟩
          · cases h
          · rw [if_pos hmo]
            exact ⟨rfl, _, rfl, HS.out.below hb, Kept.of_below hb⟩
        · rw [if_neg hmo]
          have hh := boxed_below h1 hb
          refine ⟨rfl, .slice (subA A c kk 1) (l.length - kk) (c - kk), by rw [own_slice, own_slice, subA_map], ⟨hh.set _, subA A c kk 1, c - kk, by simp only [List.length_drop], by simp only [List.length_drop]; omega, by omega, ?_, subA_ne h5⟩, ?_⟩
          · have hr := ((h4.drop c kk 1 (by rw [u8v_length]; omega)).below hb)
            rw [Nat.mul_one, u8v_drop] at hr
            exact hr.setBox hh (fun x e => by cases e) _
          · exact ⟨hb.os, hb.tape, hb.output, by simpa using hb.size, fun j hj he => by rw [heap_setCell_other _ _ _ _ (show j ≠ g from he)]; exact hb.block j hj⟩
      · rw [if_pos hq]
        refine hgo true (by rw [decide_eq_false hq]; rfl) _ (fun W er hb h => ?_) (fun W hb h _ => by cases h)
        rcases h with ⟨_, rfl⟩ | ⟨h, _⟩
        · exact ⟨rfl, _, rfl, HS.out.below hb, Kept.of_below hb⟩
        · cases h
theorem readN_err {l : List UInt8} {m n e k : Nat} (h : readN l m = (n, e, k)) (he : e ≠ 0) : k = 0 := by
  unfold readN at h
  split at h
  · cases h; rfl
  split at h
  · cases h; rfl
  split at h
  · cases h; rfl
  split at h
  · cases h; rfl
  cases h
  exact absurd rfl he
end Go.Proofs.Ytfifbjlmbdgmjaa
