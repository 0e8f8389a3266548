/- leb: the reference's Source. -/
import Derived.Test.YtokfenogiajcgaaLebY
import Derived.Test.YtokfenogiajcgaaLebGc
import Derived.Deep.LoopGhost
namespace Go.Proofs.Ytokfenogiajcgaa
open Go.RowKit Go.Shelf
attribute [local go_sem] Oper.semAt_some

theorem whereB_cons (c : UInt8) (r : List UInt8) : whereB (c :: r) = if c.toNat < 128 then 1 else if whereB r = 0 then 0 else whereB r + 1 := rfl
set_option maxHeartbeats 2000000 in
theorem where_any (A : Option Addr) (n c : Nat) (l : List UInt8) (hl : l.length = n) (hn : n ≤ 100000000) (w : World) (hr : RdC w A (u8v l)) : Calls Try.prog 37 #[.slice A n c] w fun e w' => e = .returned (.int .i64 (whereB l : Int)) ∧ w' = w := by
  go_enter Try.func37, Try.ntmps37
  go_wp2
  go_loop [3] (fun i => ∃ k : Nat, k ≤ n ∧ i = .int .i64 (k : Int) ∧ whereB l = if whereB (l.drop k) = 0 then 0 else k + whereB (l.drop k)) (fun i => n - (intOf i).toNat)
  case atStart => exact ⟨0, by omega, rfl, by simp only [List.drop_zero]; split <;> omega⟩
  case round =>
    obtain ⟨k, hk, rfl, hw⟩ := hrel
    by_cases hlt : k < n
    · obtain ⟨ad, rfl, hc⟩ := cell_of_rd hr k (by omega)
      have hd : l.drop k = l[k] :: l.drop (k + 1) := List.drop_eq_getElem_cons (by omega)
      rw [hd, whereB_cons] at hw
      generalize l[k] = b at *
      have HW := Lib.hid hw
      clear hw hd
      by_cases hb : b.toNat < 128
      · have hbi : (b.toNat : Int) < 128 := by omega
        go_wp2
        go_ret
        have hw := HW.out
        rw [if_pos hb] at hw
        simp at hw
        rw [hw]
        exact ⟨by go_num, rfl⟩
      · have hbi : ¬ (b.toNat : Int) < 128 := by omega
        go_wp2
        go_round
        case rel =>
          have hw := HW.out
          rw [if_neg hb] at hw
          refine ⟨k + 1, by omega, by go_num, ?_⟩
          rw [hw]
          by_cases h0 : whereB (l.drop (k + 1)) = 0
          · simp [h0]
          · simp [h0]
            omega
        case measure => simp [intOf]; omega
    · obtain rfl : k = n := by omega
      rw [List.drop_of_length_le (by omega)] at hw
      have hw2 : whereB l = 0 := by rw [hw]; rfl
      clear hw
      go_wp2
      go_ret
      exact ⟨rfl, rfl⟩
set_option maxHeartbeats 1000000 in
theorem rend_any (g : Nat) (v : Value) (l : List UInt8) (w : World) (hS : Src 41 g v l w) : Calls Try.prog 28 #[.pointer (some ⟨g, 0, none⟩)] w fun e w' => e = .returned (.int .i64 (endE l)) ∧ w' = w := by
  obtain ⟨h1, A, c, rfl, h2, h3, _⟩ := hS
  have c1 := Boxed.cell h1
  unfold endE
  by_cases h0 : 0 < l.length
  · rw [if_pos h0]
    go_enter Try.func28, Try.ntmps28
    go_wp2
    go_ret
    exact ⟨rfl, rfl⟩
  · rw [if_neg h0]
    have he : l.length = 0 := by omega
    rw [he] at c1
    clear h0 he
    go_enter Try.func28, Try.ntmps28
    go_wp2
    go_ret
    exact ⟨rfl, rfl⟩
set_option maxHeartbeats 2000000 in
theorem rraw_any (g : Nat) (v : Value) (l : List UInt8) (hl : l.length ≤ 100000000) (k : Int) (hk1 : -9223372036854775808 ≤ k) (hk2 : k ≤ 9223372036854775807) (w : World) (hS : Src 41 g v l w) :
    Calls Try.prog 25 #[.pointer (some ⟨g, 0, none⟩), .int .i64 k] w fun e w' => ∃ ov, e = .returned (.tuple #[ov, .int .i64 (rawR l k).1]) ∧ ReadStep 41 g v w ov (rawR l k).2.1 (rawR l k).2.2 w' := by
  have hS0 := hS
  have hgl := hS.lt
  obtain ⟨h1, A, c, rfl, h2, h3, h4, h5⟩ := hS
  have c1 := Boxed.cell h1
  have f1 := Boxed.frozen h1
  unfold rawR
  by_cases hn : k < 0
  · rw [if_pos hn]
    go_enter Try.func25, Try.ntmps25
    go_wp2
    go_ret2
    exact ⟨_, rfl, ⟨_, rfl, hS0, Kept.refl _ _⟩, World.ownsRow_nil ..⟩
  · rw [if_neg hn]
    by_cases hm : (l.length : Int) < k
    · rw [if_pos hm]
      go_enter Try.func25, Try.ntmps25
      go_wp2
      go_ret2
      exact ⟨_, rfl, ⟨_, rfl, hS0, Kept.refl _ _⟩, World.ownsRow_nil ..⟩
    · rw [if_neg hm]
      obtain ⟨kn, rfl⟩ : ∃ kn : Nat, k = (kn : Int) := ⟨k.toNat, by omega⟩
      rw [Int.toNat_natCast]
      have hkn : kn ≤ l.length := by omega
      have hcl := twin_any A kn c (l.take kn) (by rw [List.length_take]; omega) (by omega) w (by rw [← u8v_take]; exact h4.take _)
      have s1 : ∀ W : World, (Instr.slice 24 (.slice A l.length c) none (some (.int .i64 (kn : Int))) none).run Try.prog W = .ok (.slice A kn c) W := fun W => run_sub_h (P := Try.prog) W 24 A l.length c 1 Try.underlying24 (Try.sizeOf5 W) _ kn rfl (by omega)
      have s2 : ∀ W : World, (Instr.slice 24 (.slice A l.length c) (some (.int .i64 (kn : Int))) none none).run Try.prog W = .ok (.slice (subA A c kn 1) (l.length - kn) (c - kn)) W := fun W => run_sub_l (P := Try.prog) W 24 A l.length c 1 Try.underlying24 (Try.sizeOf5 W) _ kn rfl (by omega)
      have hlt : (l.take kn).length = kn := by rw [List.length_take]; omega
      have HLT := Lib.hid hlt
      clear hlt
      have HS := Lib.hid hS0
      clear hn hS0
      go_enter Try.func25, Try.ntmps25
      go_wp2_with (go_at_call 11; refine hcl.mono ?_; rintro e w1 ⟨ov, hov, ho, hb⟩; rw [HLT.out] at ho; obtain ⟨A1, n1, rfl, _⟩ := RdC.of_own ho; subst hov; have c2 := (boxed_below h1 hb).cell; have f2 := (boxed_below h1 hb).frozen)
      go_ret2
      have hh := boxed_below h1 hb
      have hne : ∀ b, (Value.slice A1 kn n1).ownBlock = some b → b ≠ g := fun b hb2 => by have := (ho.lt b hb2).1; omega
      refine ⟨.slice A1 kn n1, rfl, ⟨.slice (subA A c kn 1) (l.length - kn) (c - kn), by rw [own_slice, own_slice, subA_map], ⟨hh.set _, subA A c kn 1, c - kn, by rw [List.length_drop], by rw [List.length_drop]; omega, by omega, ?_, subA_ne h5⟩, ?_⟩, ?_⟩
      · have hr := ((h4.drop c kn 1 (by rw [u8v_length]; omega)).below hb)
        rw [Nat.mul_one, u8v_drop] at hr
        exact hr.setBox hh (fun x e => by cases e) _
      · exact ⟨hb.os, hb.tape, hb.output, by simpa using hb.size, fun j hj he => by rw [heap_setCell_other _ _ _ _ (show j ≠ g from he)]; exact hb.block j hj⟩
      · rw [HLT.out]
        exact own_of_block ho fun b hb2 => heap_setCell_other _ _ _ _ (hne b hb2)
theorem valB_drop (l : List UInt8) (j : Nat) (h : j < l.length) : valB (l.drop j) = l[j].toNat % 128 + 128 * valB (l.drop (j + 1)) := by
  rw [List.drop_eq_getElem_cons h, valB]
theorem bstr_eq (a b : List UInt8) : ((bstr a).toList == (bstr b).toList) = decide (a = b) := by
  rw [bstr_toList, bstr_toList]
  by_cases h : a = b <;> simp [h]
set_option maxRecDepth 100000 in
set_option maxHeartbeats 4000000 in
theorem rnum_any (g most : Nat) (hm : most < 18446744073709551616) (l : List UInt8) (hl : l.length ≤ 100000000) (v : Value) (w : World) (hS : Src 41 g v l w) :
    Calls Try.prog 21 #[.pointer (some ⟨g, 0, none⟩), .int .u64 (most : Int)] w fun e w' => e = .returned (.tuple #[.int .u64 ((readN l most).1 : Int), .int .i64 ((readN l most).2.1 : Int)]) ∧ ∃ v', v'.ownBlock = v.ownBlock ∧ SrcStep 41 g w v' (l.drop (readN l most).2.2) w' := by
  have hS0 := hS
  have hgl := hS.lt
  obtain ⟨h1, A, c, rfl, h2, h3, h4, h5⟩ := hS
  have c1 := Boxed.cell h1
  have f1 := Boxed.frozen h1
  have hwh := where_any A l.length c l rfl hl w h4
  have hwl := whereB_le l
  unfold readN
  generalize whereB l = kk at *
  have HS := Lib.hid hS0
  clear hS0
  by_cases d1 : kk = 0 ∧ l.length < 10
  · rw [if_pos d1]
    obtain ⟨rfl, d2⟩ := d1
    go_enter Try.func21, Try.ntmps21
    go_wp2_with (go_at_call 37; refine hwh.mono ?_; rintro e w' ⟨rfl, hw'⟩; rw [hw']; clear hw')
    go_ret2
    exact ⟨rfl, _, rfl, HS.out, Kept.refl _ _⟩
  · rw [if_neg d1]
    by_cases d2 : kk = 0 ∨ 10 < kk
    · rw [if_pos d2]
      by_cases d0 : kk = 0
      · subst d0
        have d3 : ¬ l.length < 10 := fun h => d1 ⟨rfl, h⟩
        clear d1 d2
        go_enter Try.func21, Try.ntmps21
        go_wp2_with (go_at_call 37; refine hwh.mono ?_; rintro e w' ⟨rfl, hw'⟩; rw [hw']; clear hw')
        go_ret2
        exact ⟨rfl, _, rfl, HS.out, Kept.refl _ _⟩
      · have d3 : 10 < kk := d2.resolve_left d0
        have d4 : ((kk : Int) == 0) = false := by rw [beq_eq_false_iff_ne]; omega
        clear d1 d2 d0
        go_enter Try.func21, Try.ntmps21
        go_wp2_with (go_at_call 37; refine hwh.mono ?_; rintro e w' ⟨rfl, hw'⟩; rw [hw']; clear hw')
        go_ret2
        exact ⟨rfl, _, rfl, HS.out, Kept.refl _ _⟩
    · rw [if_neg d2]
      have d3 : 0 < kk := by omega
      have d5 : kk ≤ 10 := by omega
      have d4 : ((kk : Int) == 0) = false := by rw [beq_eq_false_iff_ne]; omega
      have cs : ∀ W : World, (Instr.slice 24 (.slice A l.length c) none (some (.int .i64 (kk : Int))) none).run Try.prog W = .ok (.slice A kk c) W := fun W => run_sub_h (P := Try.prog) W 24 A l.length c 1 Try.underlying24 (Try.sizeOf5 W) _ kk rfl (by omega)
      have s2 : ∀ W : World, (Instr.slice 24 (.slice A l.length c) (some (.int .i64 (kk : Int))) none none).run Try.prog W = .ok (.slice (subA A c kk 1) (l.length - kk) (c - kk)) W := fun W => run_sub_l (P := Try.prog) W 24 A l.length c 1 Try.underlying24 (Try.sizeOf5 W) _ kk rfl (by omega)
      clear d1 d2
      have hlt : (l.take kk).length = kk := by rw [List.length_take]; omega
      have HLT := Lib.hid hlt
      clear hlt
      obtain ⟨N, hN⟩ : ∃ N, N = valB (l.take kk) % 18446744073709551616 := ⟨_, rfl⟩
      rw [← hN]
      have hNl : N < 18446744073709551616 := by rw [hN]; exact Nat.mod_lt _ (by omega)
      have HN := Lib.hid hN
      clear hN
      have hgo : ∀ bb : Bool, decide (numB N = l.take kk) = !bb → ∀ (R : Ending → World → Prop), (∀ W er, Below w.heap.size w W → ((bb = true ∧ er = (11 : Int)) ∨ (bb = false ∧ most < N ∧ er = 12)) → R (.returned (.tuple #[.int .u64 0, .int .i64 er])) W) →
          (∀ W, Below w.heap.size w W → bb = false → ¬ most < N → R (.returned (.tuple #[.int .u64 (N : Int), .int .i64 0])) (W.setCell ⟨g, 0, none⟩ (.slice (subA A c kk 1) (l.length - kk) (c - kk)))) →
          Calls Try.prog 21 #[.pointer (some ⟨g, 0, none⟩), .int .u64 (most : Int)] w R := by
        intro bb hbb R hR1 hR2
        go_enter Try.func21, Try.ntmps21
        go_wp2_with (go_at_call 37; refine hwh.mono ?_; rintro e w' ⟨rfl, hw'⟩; rw [hw']; clear hw')
        go_loop [7, 8] (fun n i => ∃ (j : Nat) (x : Int), x + 1 = (j : Int) ∧ j ≤ kk ∧ i = .int .i64 x ∧ n = .int .u64 ((valB ((l.take kk).drop j) % 18446744073709551616 : Nat) : Int)) (fun _ i => (intOf i + 1).toNat)
        case atStart =>
          refine ⟨kk, (kk : Int) - 1, by omega, by omega, rfl, ?_⟩
          rw [List.drop_of_length_le (by rw [HLT.out]; omega)]
          rfl
        case round =>
          obtain ⟨j, x, hx, hj, rfl, rfl⟩ := hrel
          cases j with
          | zero =>
            obtain rfl : x = -1 := by omega
            have hv : valB ((l.take kk).drop 0) % 18446744073709551616 = N := by rw [List.drop_zero]; exact HN.out.symm
            rw [hv]
            clear hv
            go_wp2_with fail
            refine lr11 g N kk l.length c A (l.take kk) bb w hNl cs (fun W hb => ?_) (by rw [bstr_eq]; exact hbb) (fun W hb => (boxed_below h1 hb).cell) fun w2 r49 hb2 => ?_
            · have := run_string_of (P := Try.prog) W 24 9 5 Try.underlying24 Try.underlying5 Try.underlying9 A (l.take kk) c (by rw [← u8v_take]; exact (h4.below hb).take _)
              rwa [HLT.out] at this
            have c2 := (boxed_below h1 hb2).cell
            have f2 := (boxed_below h1 hb2).frozen
            have hR2' := hR2 w2 hb2
            have hR1' := hR1 w2
            clear hR1 hR2 hbb c1 f1 h1 cs hwh
            cases bb with
            | true =>
              go_wp2_with fail
              exact hR1' 11 hb2 (.inl ⟨trivial, rfl⟩)
            | false =>
              by_cases hmo : most < N
              · go_wp2_with fail
                exact hR1' 12 hb2 (.inr ⟨trivial, hmo, rfl⟩)
              · go_wp2_with fail
                exact hR2' trivial hmo
          | succ j =>
            obtain rfl : x = (j : Int) := by omega
            have hv := valB_drop (l.take kk) j (by rw [HLT.out]; omega)
            obtain ⟨ad, rfl, hc⟩ := cell_of_rd h4 j (by omega)
            have hg : (l.take kk)[j]'(by rw [HLT.out]; omega) = l[j]'(by omega) := by simp
            rw [hg] at hv
            generalize l[j]'(by omega) = b at *
            generalize valB ((l.take kk).drop (j + 1)) = V at *
            have HV := Lib.hid hv
            clear hv hg
            go_wp2
            go_round
            case rel =>
              refine ⟨j, (j : Int) - 1, by omega, by omega, rfl, ?_⟩
              rw [HV.out]
              congr 1
              simp only [IntKind.wrap_u64]
              omega
            case measure => simp [intOf]
      by_cases hq : numB N = l.take kk
      · rw [if_neg (fun h => h hq)]
        refine hgo false (by rw [decide_eq_true hq]; rfl) _ (fun W er hb h => ?_) (fun W hb _ hmo => ?_)
        · rcases h with ⟨h, _⟩ | ⟨_, hmo, rfl⟩
          · cases h
          · rw [if_pos hmo]
            exact ⟨rfl, _, rfl, HS.out.below hb, Kept.of_below hb⟩
        · rw [if_neg hmo]
          have hh := boxed_below h1 hb
          refine ⟨rfl, .slice (subA A c kk 1) (l.length - kk) (c - kk), by rw [own_slice, own_slice, subA_map], ⟨hh.set _, subA A c kk 1, c - kk, by simp only [List.length_drop], by simp only [List.length_drop]; omega, by omega, ?_, subA_ne h5⟩, ?_⟩
          · have hr := ((h4.drop c kk 1 (by rw [u8v_length]; omega)).below hb)
            rw [Nat.mul_one, u8v_drop] at hr
            exact hr.setBox hh (fun x e => by cases e) _
          · exact ⟨hb.os, hb.tape, hb.output, by simpa using hb.size, fun j hj he => by rw [heap_setCell_other _ _ _ _ (show j ≠ g from he)]; exact hb.block j hj⟩
      · rw [if_pos hq]
        refine hgo true (by rw [decide_eq_false hq]; rfl) _ (fun W er hb h => ?_) (fun W hb h _ => by cases h)
        rcases h with ⟨_, rfl⟩ | ⟨h, _⟩
        · exact ⟨rfl, _, rfl, HS.out.below hb, Kept.of_below hb⟩
        · cases h
theorem readN_err {l : List UInt8} {m n e k : Nat} (h : readN l m = (n, e, k)) (he : e ≠ 0) : k = 0 := by
  unfold readN at h
  split at h
  · cases h; rfl
  split at h
  · cases h; rfl
  split at h
  · cases h; rfl
  split at h
  · cases h; rfl
  cases h
  exact absurd rfl he
set_option maxRecDepth 100000 in
set_option maxHeartbeats 4000000 in
theorem rbytes_neg (g : Nat) (v : Value) (l : List UInt8) (hl : l.length ≤ 100000000) (most : Int) (hk1 : most < 0) (w : World) (hS : Src 41 g v l w) :
    Calls Try.prog 23 #[.pointer (some ⟨g, 0, none⟩), .int .i64 most] w fun e w' => ∃ ov, e = .returned (.tuple #[ov, .int .i64 (bytesR l most).1]) ∧ ReadStep 41 g v w ov (bytesR l most).2.1 (bytesR l most).2.2 w' := by
  have hS0 := hS
  obtain ⟨hsg, A, c, rfl, hlc, hcm, hrd, hne⟩ := hS
  have hgl := lt_get hsg
  have c1 := Boxed.cell hsg
  unfold bytesR
  rw [show (max 0 most).toNat = 0 by omega]
  have hok : ∀ n k, readN l 0 = (n, 0, k) → _ := fun n k h => readN_ok h
  have hno : ∀ n e k, readN l 0 = (n, e, k) → e ≠ 0 → k = 0 := fun n e k h he => readN_err h he
  have hnum := rnum_any g 0 (by omega) l hl _ w hS0
  generalize readN l 0 = R at *
  obtain ⟨n, e, k⟩ := R
  simp only at hnum hok hno ⊢
  have HS := Lib.hid hS0
  clear hS0
  by_cases he : e = 0
  · subst he
    rw [if_neg (by simp)]
    obtain ⟨_, hnm, _⟩ := hok n k rfl
    have hraw := fun W v h => rraw_any g v (l.drop k) (by rw [List.length_drop]; omega) (n : Int) (by omega) (by omega) W h
    have hre : (rawR (l.drop k) (n : Int)).1 ≠ 0 → (rawR (l.drop k) (n : Int)).2.1 = [] := fun h => by
      unfold rawR at h ⊢
      split
      · rfl
      · split
        · rfl
        · rename_i h1 h2
          rw [if_neg h1, if_neg h2] at h
          exact absurd rfl h
    generalize rawR (l.drop k) (n : Int) = R at *
    obtain ⟨er, x, rest⟩ := R
    simp only at hraw hre ⊢
    by_cases hr : er = 0
    · subst hr
      rw [if_neg (by simp)]
      clear hok hno hre
      go_enter Try.func23, Try.ntmps23
      go_wp2_with (first
        | (go_at_call 21; refine hnum.mono ?_; rintro e w2 ⟨rfl, v2, hob2, hs2⟩)
        | (go_at_call 25; refine (hraw _ v2 hs2.1).mono ?_; rintro e w3 ⟨ov, rfl, ⟨v3, hob3, hs3⟩, ho3⟩)
        | fail)
      go_ret2
      exact ⟨_, rfl, ⟨v3, hob3.trans hob2, hs3.1, hs2.2.trans hs3.2⟩, own_mono ho3 hs2.2.size⟩
    · rw [if_pos hr]
      obtain rfl : x = [] := hre hr
      have hr1 : (er == 0) = false := by simpa using hr
      have hr2 : (er != 0) = true := by simp [bne, hr1]
      clear hok hr hre hno
      go_enter Try.func23, Try.ntmps23
      go_wp2_with (first
        | (go_at_call 21; refine hnum.mono ?_; rintro e w2 ⟨rfl, v2, hob2, hs2⟩)
        | (go_at_call 25; refine (hraw _ v2 hs2.1).mono ?_; rintro e w3 ⟨ov, rfl, ⟨v3, hob3, hs3⟩, ho3⟩; have c3 := Boxed.cell hs3.1.1; have f3 := Boxed.frozen hs3.1.1)
        | fail)
      go_ret2
      have hk := hs2.2.trans hs3.2
      have hk2 : Kept (fun k => k = g) w3 (w3.setCell ⟨g, 0, none⟩ (.slice A l.length c)) := ⟨rfl, rfl, rfl, by simp, fun j _ hj => heap_setCell_other _ _ _ _ hj⟩
      refine ⟨_, rfl, ⟨_, rfl, ⟨Boxed.set _ hs3.1.1, A, c, rfl, hlc, hcm, hrd.kept (hk.trans hk2) hne, hne⟩, hk.trans hk2⟩, own_mono (own_of_block ho3 fun j hj => heap_setCell_other _ _ _ _ fun e => ?_) hs2.2.size⟩
      have := (ho3.lt j hj).1
      have e2 : j = g := e
      have := hs2.2.size
      omega
  · rw [if_pos he]
    have hr1 : ((e : Int) == 0) = false := by rw [beq_eq_false_iff_ne]; omega
    have hr2 : ((e : Int) != 0) = true := by rw [bne_iff_ne]; omega
    obtain rfl := hno n e k rfl he
    clear hok hno he
    go_enter Try.func23, Try.ntmps23
    go_wp2_with (first
      | (go_at_call 21; refine hnum.mono ?_; rintro e w2 ⟨rfl, v2, hob2, hs2⟩)
      | fail)
    go_ret2
    exact ⟨_, rfl, ⟨v2, hob2, hs2⟩, World.ownsRow_nil ..⟩
set_option maxRecDepth 100000 in
set_option maxHeartbeats 4000000 in
theorem rbytes_pos (g : Nat) (v : Value) (l : List UInt8) (hl : l.length ≤ 100000000) (m : Nat) (hk2 : m ≤ 9223372036854775807) (w : World) (hS : Src 41 g v l w) :
    Calls Try.prog 23 #[.pointer (some ⟨g, 0, none⟩), .int .i64 (m : Int)] w fun e w' => ∃ ov, e = .returned (.tuple #[ov, .int .i64 (bytesR l (m : Int)).1]) ∧ ReadStep 41 g v w ov (bytesR l (m : Int)).2.1 (bytesR l (m : Int)).2.2 w' := by
  have hS0 := hS
  obtain ⟨hsg, A, c, rfl, hlc, hcm, hrd, hne⟩ := hS
  have hgl := lt_get hsg
  have c1 := Boxed.cell hsg
  unfold bytesR
  rw [show (max 0 (m : Int)).toNat = m by omega]
  have hok : ∀ n k, readN l m = (n, 0, k) → _ := fun n k h => readN_ok h
  have hno : ∀ n e k, readN l m = (n, e, k) → e ≠ 0 → k = 0 := fun n e k h he => readN_err h he
  have hnum := rnum_any g m (by omega) l hl _ w hS0
  generalize readN l m = R at *
  obtain ⟨n, e, k⟩ := R
  simp only at hnum hok hno ⊢
  have HS := Lib.hid hS0
  clear hS0
  by_cases he : e = 0
  · subst he
    rw [if_neg (by simp)]
    obtain ⟨_, hnm, _⟩ := hok n k rfl
    have hraw := fun W v h => rraw_any g v (l.drop k) (by rw [List.length_drop]; omega) (n : Int) (by omega) (by omega) W h
    have hre : (rawR (l.drop k) (n : Int)).1 ≠ 0 → (rawR (l.drop k) (n : Int)).2.1 = [] := fun h => by
      unfold rawR at h ⊢
      split
      · rfl
      · split
        · rfl
        · rename_i h1 h2
          rw [if_neg h1, if_neg h2] at h
          exact absurd rfl h
    generalize rawR (l.drop k) (n : Int) = R at *
    obtain ⟨er, x, rest⟩ := R
    simp only at hraw hre ⊢
    by_cases hr : er = 0
    · subst hr
      rw [if_neg (by simp)]
      clear hok hno hre
      go_enter Try.func23, Try.ntmps23
      go_wp2_with (first
        | (go_at_call 21; refine hnum.mono ?_; rintro e w2 ⟨rfl, v2, hob2, hs2⟩)
        | (go_at_call 25; refine (hraw _ v2 hs2.1).mono ?_; rintro e w3 ⟨ov, rfl, ⟨v3, hob3, hs3⟩, ho3⟩)
        | fail)
      go_ret2
      exact ⟨_, rfl, ⟨v3, hob3.trans hob2, hs3.1, hs2.2.trans hs3.2⟩, own_mono ho3 hs2.2.size⟩
    · rw [if_pos hr]
      obtain rfl : x = [] := hre hr
      have hr1 : (er == 0) = false := by simpa using hr
      have hr2 : (er != 0) = true := by simp [bne, hr1]
      clear hok hr hre hno
      go_enter Try.func23, Try.ntmps23
      go_wp2_with (first
        | (go_at_call 21; refine hnum.mono ?_; rintro e w2 ⟨rfl, v2, hob2, hs2⟩)
        | (go_at_call 25; refine (hraw _ v2 hs2.1).mono ?_; rintro e w3 ⟨ov, rfl, ⟨v3, hob3, hs3⟩, ho3⟩; have c3 := Boxed.cell hs3.1.1; have f3 := Boxed.frozen hs3.1.1)
        | fail)
      go_ret2
      have hk := hs2.2.trans hs3.2
      have hk2 : Kept (fun k => k = g) w3 (w3.setCell ⟨g, 0, none⟩ (.slice A l.length c)) := ⟨rfl, rfl, rfl, by simp, fun j _ hj => heap_setCell_other _ _ _ _ hj⟩
      refine ⟨_, rfl, ⟨_, rfl, ⟨Boxed.set _ hs3.1.1, A, c, rfl, hlc, hcm, hrd.kept (hk.trans hk2) hne, hne⟩, hk.trans hk2⟩, own_mono (own_of_block ho3 fun j hj => heap_setCell_other _ _ _ _ fun e => ?_) hs2.2.size⟩
      have := (ho3.lt j hj).1
      have e2 : j = g := e
      have := hs2.2.size
      omega
  · rw [if_pos he]
    have hr1 : ((e : Int) == 0) = false := by rw [beq_eq_false_iff_ne]; omega
    have hr2 : ((e : Int) != 0) = true := by rw [bne_iff_ne]; omega
    obtain rfl := hno n e k rfl he
    clear hok hno he
    go_enter Try.func23, Try.ntmps23
    go_wp2_with (first
      | (go_at_call 21; refine hnum.mono ?_; rintro e w2 ⟨rfl, v2, hob2, hs2⟩)
      | fail)
    go_ret2
    exact ⟨_, rfl, ⟨v2, hob2, hs2⟩, World.ownsRow_nil ..⟩
theorem rbytes_src (g : Nat) (v : Value) (l : List UInt8) (hl : l.length ≤ 100000000) (most : Int) (hk2 : most ≤ 9223372036854775807) (w : World) (hS : Src 41 g v l w) :
    Calls Try.prog 23 #[.pointer (some ⟨g, 0, none⟩), .int .i64 most] w fun e w' => ∃ ov, e = .returned (.tuple #[ov, .int .i64 (bytesR l most).1]) ∧ ReadStep 41 g v w ov (bytesR l most).2.1 (bytesR l most).2.2 w' := by
  by_cases h : most < 0
  · exact rbytes_neg g v l hl most h w hS
  · obtain ⟨m, rfl⟩ : ∃ m : Nat, most = (m : Int) := ⟨most.toNat, by omega⟩
    exact rbytes_pos g v l hl m (by omega) w hS
end Go.Proofs.Ytokfenogiajcgaa
