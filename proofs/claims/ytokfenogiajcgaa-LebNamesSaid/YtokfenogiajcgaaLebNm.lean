/- The law LebNames, walked (closed). -/
import Derived.Test.YtokfenogiajcgaaLebSt
import Derived.Lib.ConvBytes
import Derived.Lib.SlBytesConst
import Derived.Deep.LoopGhost
namespace Go.Proofs.Ytokfenogiajcgaa
open Go.RowKit
attribute [local go_sem] Oper.semAt_some

theorem bytesWorld_below (w : World) (s : ByteArray) : Below w.heap.size w (Lib.bytesWorld w 5 s) :=
  ⟨rfl, rfl, rfl, by rw [Lib.bytesWorld_size]; omega, fun k hk => Lib.bytesWorld_at_old w 5 s k hk⟩
theorem conv_str (w : World) (l : List UInt8) : ∃ c w', (convert 9 24 (.string (bstr l))).run Try.prog w = .ok (.slice (some ⟨w.heap.size, 0, none⟩) l.length c) w' ∧ RdC w' (some ⟨w.heap.size, 0, none⟩) (u8v l) ∧ Below w.heap.size w w' := by
  refine ⟨_, _, Lib.run_convert_string_bytes (P := Try.prog) w 9 24 5 (bstr l) Try.underlying9 Try.underlying24 Try.underlying5, fun j u hj => ⟨_, rfl, ?_⟩, bytesWorld_below _ _⟩
  have hjl : j < l.length := by have := (List.getElem?_eq_some_iff.1 hj).1; rwa [u8v_length] at this
  rw [addr_add_plain, Nat.zero_add, Lib.bytesWorld_cell w 5 (bstr l) j hjl]
  rw [u8v_get l j hjl] at hj
  cases hj
  simp [bstr, hjl]
set_option maxHeartbeats 2000000 in
theorem reads_any (l : List UInt8) (hl : l.length ≤ 100) (most want e kk : Nat) (hm : most < 18446744073709551616) (hw : want < 18446744073709551616) (hR : readN l most = (want, e, kk)) (hs : e = 0 → kk = (numB want).length) (w : World) :
    Calls Try.prog 31 #[.string (bstr l), .int .u64 (most : Int), .int .u64 (want : Int), .int .i64 (e : Int)] w fun e' w' => e' = .returned (.bool true) ∧ Below w.heap.size w w' := by
  obtain ⟨c, w1, hrun, hr, hb1⟩ := conv_str w l
  have hz : (bstr l).size = l.length := rfl
  have hnum := fun g v W h => srcnum_wide g most hm l v W h
  rw [hR] at hnum
  simp only at hnum
  have hok := fun h => readN_ok (l := l) (most := most) (n := want) (k := kk) h
  have hno : e ≠ 0 → kk = 0 := fun h => by have := readN_zero (l := l) (m := most) (by rw [hR]; exact h); rw [hR] at this; exact this
  rw [hR] at hok
  by_cases he : e = 0
  · subst he
    obtain ⟨_, _, _, hkl, _⟩ := hok rfl
    have hsz := fun W => size_any want W hw
    rw [← hs rfl] at hsz
    have hd : (l.length : Int) - (kk : Int) = ((l.length - kk : Nat) : Int) := by omega
    clear hR hok hno hs
    go_enter Try.func31, Try.ntmps31
    go_wp2_with fail
    refine (from_any (some ⟨w.heap.size, 0, none⟩) l.length c l rfl (by omega) w1 hr).mono ?_
    rintro e w2 ⟨g, v, rfl, hg, hsrc, hb2, _⟩
    have hs1 := hb1.size
    replace hb2 := below_then hb1 hb2 (Nat.le_refl _)
    clear hrun
    go_wp2_with fail
    refine (hnum g v w2 hsrc).mono ?_
    rintro e w3 ⟨rfl, v3, hv3, hs3⟩
    have hb3 := below_kept hb2 hs3.2 (fun k e => by omega)
    have hleft : Calls Try.prog 26 #[.pointer (some ⟨g, 0, none⟩)] w3 fun e w' => e = .returned (.int .i64 ((l.length - kk : Nat) : Int)) ∧ w' = w3 := by
      have := left_any g v3 (l.drop kk) w3 hs3.1
      rwa [List.length_drop] at this
    generalize l.length - kk = m at *
    clear hnum hsrc hs3
    go_wp2_with (first
      | (go_at_call 26; refine hleft.mono ?_; rintro e w' ⟨rfl, hw'⟩; rw [hw']; clear hw')
      | (go_at_call 14; refine (hsz _).mono ?_; rintro e w' ⟨rfl, hw'⟩; rw [hw']; clear hw')
      | fail)
    go_ret
    exact ⟨rfl, hb3⟩
  · obtain rfl := hno he
    have he1 : ((e : Int) == 0) = false := by rw [beq_eq_false_iff_ne]; omega
    clear hR hok hno hs he
    go_enter Try.func31, Try.ntmps31
    go_wp2_with fail
    refine (from_any (some ⟨w.heap.size, 0, none⟩) l.length c l rfl (by omega) w1 hr).mono ?_
    rintro e w2 ⟨g, v, rfl, hg, hsrc, hb2, _⟩
    have hs1 := hb1.size
    replace hb2 := below_then hb1 hb2 (Nat.le_refl _)
    clear hrun
    go_wp2_with fail
    refine (hnum g v w2 hsrc).mono ?_
    rintro e w3 ⟨rfl, v3, hv3, hs3⟩
    have hb3 := below_kept hb2 hs3.2 (fun k e => by omega)
    have hleft := left_any g v3 l w3 hs3.1
    clear hnum hsrc hs3
    go_wp2_with (first
      | (go_at_call 26; refine hleft.mono ?_; rintro e w' ⟨rfl, hw'⟩; rw [hw']; clear hw')
      | fail)
    go_ret
    exact ⟨rfl, hb3⟩
theorem rd_lit {W : World} {b : Nat} {cs : Array Value} {t : TypeId} {fr : Nat × Nat} {l : List UInt8} (h : W.heap[b]? = some (.cells cs t fr)) (hl : cs.toList = u8v l) : RdC W (some ⟨b, 0, none⟩) (u8v l) := fun j u hj => by
  refine ⟨_, rfl, ?_⟩
  rw [addr_add_plain, Nat.zero_add, cell_of_row _ _ j _ _ _ h, ← Array.getElem?_toList, hl, hj]
/-! ### Calls on none -/
theorem nil_snumber (w : World) : Calls Try.prog 13 #[.pointer none, .int .u64 1] w fun e w' => e = .returned (.pointer none) ∧ Below w.heap.size w w' := by
  go_enter Try.func13, Try.ntmps13
  go_wp2
  go_ret
  exact ⟨rfl, (Below.refl _ _).alloc (Nat.le_refl _) _⟩
theorem nil_snumber0 (w : World) : Calls Try.prog 13 #[.pointer none, .int .u64 0] w fun e w' => e = .returned (.pointer none) ∧ Below w.heap.size w w' := by
  go_enter Try.func13, Try.ntmps13
  go_wp2
  go_ret
  exact ⟨rfl, (Below.refl _ _).alloc (Nat.le_refl _) _⟩
theorem nil_sraw (w : World) : Calls Try.prog 17 #[.pointer none, .slice none 0 0] w fun e w' => e = .returned (.pointer none) ∧ w' = w := by
  go_enter Try.func17, Try.ntmps17
  go_wp2
  go_ret
  exact ⟨rfl, rfl⟩
theorem nil_sbytes (w : World) : Calls Try.prog 16 #[.pointer none, .slice none 0 0] w fun e w' => e = .returned (.pointer none) ∧ Below w.heap.size w w' := by
  go_enter Try.func16, Try.ntmps16
  go_wp2_with fail
  refine (nil_snumber0 _).mono ?_
  rintro e w1 ⟨rfl, hb1⟩
  go_wp2_with fail
  refine (nil_sraw _).mono ?_
  rintro e w2 ⟨rfl, rfl⟩
  go_wp2_with fail
  go_ret
  exact ⟨rfl, hb1⟩
theorem nil_sall (w : World) : Calls Try.prog 18 #[.pointer none] w fun e w' => e = .returned (.slice none 0 0) ∧ w' = w := by
  go_enter Try.func18, Try.ntmps18
  go_wp2
  go_ret
  exact ⟨rfl, rfl⟩
theorem nil_end (w : World) : Calls Try.prog 27 #[.pointer none] w fun e w' => e = .returned (.int .i64 1) ∧ w' = w := by
  go_enter Try.func27, Try.ntmps27
  go_wp2
  go_ret
  exact ⟨rfl, rfl⟩
theorem nil_left (w : World) : Calls Try.prog 26 #[.pointer none] w fun e w' => e = .returned (.int .i64 0) ∧ w' = w := by
  go_enter Try.func26, Try.ntmps26
  go_wp2
  go_ret
  exact ⟨rfl, rfl⟩
theorem nil_raw (w : World) : Calls Try.prog 24 #[.pointer none, .int .i64 0] w fun e w' => e = .returned (.tuple #[.slice none 0 0, .int .i64 1]) ∧ w' = w := by
  go_enter Try.func24, Try.ntmps24
  go_wp2
  go_ret2
  exact ⟨rfl, rfl⟩
theorem nil_bytes (w : World) : Calls Try.prog 22 #[.pointer none, .int .i64 1] w fun e w' => e = .returned (.tuple #[.slice none 0 0, .int .i64 1]) ∧ Below w.heap.size w w' := by
  go_enter Try.func22, Try.ntmps22
  go_wp2
  exact bodyPost_ret (v := .tuple #[.slice none 0 0, .int .i64 1]) (by simp [results, Try.results22, go_sem]) rfl ⟨rfl, (Below.refl _ _).alloc (Nat.le_refl _) _⟩
theorem nil_number (w : World) : Calls Try.prog 20 #[.pointer none, .int .u64 1] w fun e w' => e = .returned (.tuple #[.int .u64 0, .int .i64 1]) ∧ Below w.heap.size w w' := by
  go_enter Try.func20, Try.ntmps20
  go_wp2
  refine wp_scope_straight ?_
  go_wp2
  rw [Exit.noGoto_ret]
  exact bodyPost_ret (v := .tuple #[.int .u64 0, .int .i64 1]) (by simp [results, Try.results20, go_sem]) rfl ⟨rfl, ((Below.refl _ _).alloc (Nat.le_refl _) _).alloc (by simp) _⟩
/-! ### Sizes -/
theorem size_pow : ∀ j, j < 64 → max 1 ((Lib.bitLen (2 ^ j) + 6) / 7) = j / 7 + 1 ∧ max 1 ((Lib.bitLen (2 ^ j - 1) + 6) / 7) = max 1 ((j + 6) / 7) := by decide +kernel
theorem numB_pow (j : Nat) (hj : j < 64) : (numB (2 ^ j)).length = j / 7 + 1 ∧ (numB (2 ^ j - 1)).length = max 1 ((j + 6) / 7) := by
  have h : 2 ^ j ≤ 2 ^ 63 := Nat.pow_le_pow_right (by omega) (by omega)
  rw [numB_len _ (by omega), numB_len _ (by omega)]
  exact size_pow j hj
set_option maxRecDepth 100000 in
set_option maxHeartbeats 8000000 in
theorem lebNames_walk (w : World) : Calls Try.prog 9 #[] w fun e w' => e = .returned (.bool true) ∧ Below w.heap.size w w' := by
  have q0 : ∀ W : World, Calls Try.prog 31 #[.string ⟨#[100]⟩, .int .u64 99, .int .u64 0, .int .i64 12] W fun e' w' => e' = .returned (.bool true) ∧ Below W.heap.size W w' := fun W => reads_any [100] (by decide) 99 0 12 0 (by omega) (by omega) (by rw [readN_scan]; rfl) (fun h => by cases h) W
  have q1 : ∀ W : World, Calls Try.prog 31 #[.string ⟨#[99]⟩, .int .u64 99, .int .u64 99, .int .i64 0] W fun e' w' => e' = .returned (.bool true) ∧ Below W.heap.size W w' := fun W => reads_any [99] (by decide) 99 99 0 1 (by omega) (by omega) (by rw [readN_scan]; rfl) (fun _ => by rw [numB_len _ (by omega)]; decide +kernel) W
  have q2 : ∀ W : World, Calls Try.prog 31 #[.string ⟨#[128]⟩, .int .u64 18446744073709551615, .int .u64 0, .int .i64 10] W fun e' w' => e' = .returned (.bool true) ∧ Below W.heap.size W w' := fun W => reads_any [128] (by decide) 18446744073709551615 0 10 0 (by omega) (by omega) (by rw [readN_scan]; rfl) (fun h => by cases h) W
  have q3 : ∀ W : World, Calls Try.prog 31 #[.string ⟨#[128, 0]⟩, .int .u64 18446744073709551615, .int .u64 0, .int .i64 11] W fun e' w' => e' = .returned (.bool true) ∧ Below W.heap.size W w' := fun W => reads_any [128, 0] (by decide) 18446744073709551615 0 11 0 (by omega) (by omega) (by rw [readN_scan]; rfl) (fun h => by cases h) W
  have q4 : ∀ W : World, Calls Try.prog 31 #[.string ⟨#[]⟩, .int .u64 18446744073709551615, .int .u64 0, .int .i64 10] W fun e' w' => e' = .returned (.bool true) ∧ Below W.heap.size W w' := fun W => reads_any [] (by decide) 18446744073709551615 0 10 0 (by omega) (by omega) (by rw [readN_scan]; rfl) (fun h => by cases h) W
  have q5 : ∀ W : World, Calls Try.prog 31 #[.string ⟨#[0, 0]⟩, .int .u64 18446744073709551615, .int .u64 0, .int .i64 0] W fun e' w' => e' = .returned (.bool true) ∧ Below W.heap.size W w' := fun W => reads_any [0, 0] (by decide) 18446744073709551615 0 0 1 (by omega) (by omega) (by rw [readN_scan]; rfl) (fun _ => by rw [numB_len _ (by omega)]; decide +kernel) W
  have q6 : ∀ W : World, Calls Try.prog 31 #[.string ⟨#[255, 255, 255, 255, 255, 255, 255, 255, 255, 1]⟩, .int .u64 18446744073709551615, .int .u64 18446744073709551615, .int .i64 0] W fun e' w' => e' = .returned (.bool true) ∧ Below W.heap.size W w' := fun W => reads_any [255, 255, 255, 255, 255, 255, 255, 255, 255, 1] (by decide) 18446744073709551615 18446744073709551615 0 10 (by omega) (by omega) (by rw [readN_scan]; rfl) (fun _ => by rw [numB_len _ (by omega)]; decide +kernel) W
  have q7 : ∀ W : World, Calls Try.prog 31 #[.string ⟨#[255, 255, 255, 255, 255, 255, 255, 255, 255, 2]⟩, .int .u64 18446744073709551615, .int .u64 0, .int .i64 11] W fun e' w' => e' = .returned (.bool true) ∧ Below W.heap.size W w' := fun W => reads_any [255, 255, 255, 255, 255, 255, 255, 255, 255, 2] (by decide) 18446744073709551615 0 11 0 (by omega) (by omega) (by rw [readN_scan]; rfl) (fun h => by cases h) W
  have q8 : ∀ W : World, Calls Try.prog 31 #[.string ⟨#[255, 255, 255, 255, 255, 255, 255, 255, 255, 129]⟩, .int .u64 18446744073709551615, .int .u64 0, .int .i64 11] W fun e' w' => e' = .returned (.bool true) ∧ Below W.heap.size W w' := fun W => reads_any [255, 255, 255, 255, 255, 255, 255, 255, 255, 129] (by decide) 18446744073709551615 0 11 0 (by omega) (by omega) (by rw [readN_scan]; rfl) (fun h => by cases h) W
  have q9 : ∀ W : World, Calls Try.prog 31 #[.string ⟨#[255, 255, 255, 255, 255, 255, 255, 255, 255, 0]⟩, .int .u64 18446744073709551615, .int .u64 0, .int .i64 11] W fun e' w' => e' = .returned (.bool true) ∧ Below W.heap.size W w' := fun W => reads_any [255, 255, 255, 255, 255, 255, 255, 255, 255, 0] (by decide) 18446744073709551615 0 11 0 (by omega) (by omega) (by rw [readN_scan]; rfl) (fun h => by cases h) W
  have q10 : ∀ W : World, Calls Try.prog 31 #[.string ⟨#[255, 255, 255, 255, 255, 255, 255, 255, 255]⟩, .int .u64 18446744073709551615, .int .u64 0, .int .i64 10] W fun e' w' => e' = .returned (.bool true) ∧ Below W.heap.size W w' := fun W => reads_any [255, 255, 255, 255, 255, 255, 255, 255, 255] (by decide) 18446744073709551615 0 10 0 (by omega) (by omega) (by rw [readN_scan]; rfl) (fun h => by cases h) W
  have q11 : ∀ W : World, Calls Try.prog 31 #[.string ⟨#[255, 255, 255, 255, 255, 255, 255, 255, 255, 255, 255, 255, 255, 255, 255, 255, 255, 255]⟩, .int .u64 18446744073709551615, .int .u64 0, .int .i64 11] W fun e' w' => e' = .returned (.bool true) ∧ Below W.heap.size W w' := fun W => reads_any [255, 255, 255, 255, 255, 255, 255, 255, 255, 255, 255, 255, 255, 255, 255, 255, 255, 255] (by decide) 18446744073709551615 0 11 0 (by omega) (by omega) (by rw [readN_scan]; rfl) (fun h => by cases h) W
  have hn : ∀ W : World, Calls Try.prog 30 #[.int .u64 18446744073709551615] W fun e' w' => e' = .returned (.string ⟨#[255, 255, 255, 255, 255, 255, 255, 255, 255, 1]⟩) ∧ Below W.heap.size W w' := fun W => by
    have := number_str 18446744073709551615 (by omega) W
    have e : bstr (numB 18446744073709551615) = ⟨#[255, 255, 255, 255, 255, 255, 255, 255, 255, 1]⟩ := by
      have h : numB (valB [255, 255, 255, 255, 255, 255, 255, 255, 255, 1]) = [255, 255, 255, 255, 255, 255, 255, 255, 255, 1] := numB_of_canonB _ (by simp [canonB, valB])
      rw [show valB [255, 255, 255, 255, 255, 255, 255, 255, 255, 1] = 18446744073709551615 by rfl] at h
      rw [h]
      rfl
    rwa [e] at this
  have rb1 : bytesR [2, 97, 98, 99] 9 = (0, [97, 98], [99]) := by
    unfold bytesR
    rw [show readN [2, 97, 98, 99] (max 0 (9 : Int)).toNat = (2, 0, 1) by rw [readN_scan]; rfl]
    rfl
  have rb2 : bytesR [3, 97, 98] 9 = (10, [], [3, 97, 98]) := by
    unfold bytesR
    rw [show readN [3, 97, 98] (max 0 (9 : Int)).toNat = (3, 0, 1) by rw [readN_scan]; rfl]
    rfl
  have rb3 : bytesR [3, 97, 98] 2 = (12, [], [3, 97, 98]) := by
    unfold bytesR
    rw [show readN [3, 97, 98] (max 0 (2 : Int)).toNat = (0, 12, 0) by rw [readN_scan]; rfl]
    rfl
  have rb4 : bytesR [3, 97, 98] (-1) = (12, [], [3, 97, 98]) := by
    unfold bytesR
    rw [show readN [3, 97, 98] (max 0 (-1 : Int)).toNat = (0, 12, 0) by rw [readN_scan]; rfl]
    rfl
  have rr1 : rawR [99] 2 = (10, [], [99]) := rfl
  have rr2 : rawR [99] (-1) = (2, [], [99]) := rfl
  have rr3 : rawR [99] 1 = (0, [99], []) := rfl
  have rn0 : readN [] 1 = (0, 10, 0) := by rw [readN_scan]; rfl
  have re1 : endE [99] = 13 := rfl
  have re0 : endE [] = 0 := rfl
  go_enter Try.func9, Try.ntmps9
  have hb := Below.refl w.heap.size w
  go_wp2_with fail
  refine (q0 _).mono ?_
  rintro e w1 ⟨rfl, hbx⟩
  replace hb := below_then hb hbx (Nat.le_refl _)
  clear hbx q0
  go_wp2_with fail
  refine (q1 _).mono ?_
  rintro e w2 ⟨rfl, hbx⟩
  replace hb := below_then hb hbx (Nat.le_refl _)
  clear hbx q1
  go_wp2_with fail
  refine (q2 _).mono ?_
  rintro e w3 ⟨rfl, hbx⟩
  replace hb := below_then hb hbx (Nat.le_refl _)
  clear hbx q2
  go_wp2_with fail
  refine (q3 _).mono ?_
  rintro e w4 ⟨rfl, hbx⟩
  replace hb := below_then hb hbx (Nat.le_refl _)
  clear hbx q3
  go_wp2_with fail
  refine (q4 _).mono ?_
  rintro e w5 ⟨rfl, hbx⟩
  replace hb := below_then hb hbx (Nat.le_refl _)
  clear hbx q4
  go_wp2_with fail
  refine (q5 _).mono ?_
  rintro e w6 ⟨rfl, hbx⟩
  replace hb := below_then hb hbx (Nat.le_refl _)
  clear hbx q5
  go_wp2_with fail
  refine (q6 _).mono ?_
  rintro e w7 ⟨rfl, hbx⟩
  replace hb := below_then hb hbx (Nat.le_refl _)
  clear hbx q6
  go_wp2_with fail
  refine (q7 _).mono ?_
  rintro e w8 ⟨rfl, hbx⟩
  replace hb := below_then hb hbx (Nat.le_refl _)
  clear hbx q7
  go_wp2_with fail
  refine (q8 _).mono ?_
  rintro e w9 ⟨rfl, hbx⟩
  replace hb := below_then hb hbx (Nat.le_refl _)
  clear hbx q8
  go_wp2_with fail
  refine (q9 _).mono ?_
  rintro e w10 ⟨rfl, hbx⟩
  replace hb := below_then hb hbx (Nat.le_refl _)
  clear hbx q9
  go_wp2_with fail
  refine (q10 _).mono ?_
  rintro e w11 ⟨rfl, hbx⟩
  replace hb := below_then hb hbx (Nat.le_refl _)
  clear hbx q10
  go_wp2_with fail
  refine (q11 _).mono ?_
  rintro e w12 ⟨rfl, hbx⟩
  replace hb := below_then hb hbx (Nat.le_refl _)
  clear hbx q11
  go_wp2_with fail
  refine (hn _).mono ?_
  rintro e wn ⟨rfl, hbx⟩
  replace hb := below_then hb hbx (Nat.le_refl _)
  clear hbx hn
  have hcat : (([255, 255, 255, 255, 255, 255, 255, 255, 255, 1] : List UInt8) == ((⟨#[255, 255, 255, 255, 255, 255, 255, 255, 255]⟩ : ByteArray) ++ ⟨#[1]⟩).toList) = true := by decide +kernel
  go_wp2_with fail
  clear hcat
  go_loopg [3, 4] 64 (fun r ok i wr => ∃ k : Nat, k ≤ 64 ∧ r = 64 - k ∧ i = .int .i64 (k : Int) ∧ ok = .bool true ∧ Below w.heap.size w wr)
  case atStart => exact ⟨0, by omega, by omega, rfl, rfl, hb⟩
  case round =>
    obtain ⟨k, hk, rfl, rfl, rfl, hbr⟩ := hrel
    by_cases hlt : k < 64
    · obtain ⟨hp1, hp2⟩ := numB_pow k hlt
      have hle : 2 ^ k ≤ 2 ^ 63 := Nat.pow_le_pow_right (by omega) (by omega)
      have hpos : 0 < 2 ^ k := Nat.pow_pos (by omega)
      have z1 := fun W => size_any (2 ^ k) W (by omega)
      have z2 := fun W => size_any (2 ^ k - 1) W (by omega)
      have z3 := fun W => number_str (2 ^ k) (by omega) W
      have hss : (bstr (numB (2 ^ k))).size = (numB (2 ^ k)).length := rfl
      rw [hp1] at z1 hss
      rw [hp2] at z2
      have q1 : (k : Int) / 7 + 1 = ((k / 7 + 1 : Nat) : Int) := by omega
      have q2 : max (1 : Int) (((k : Int) + 6) / 7) = ((max 1 ((k + 6) / 7) : Nat) : Int) := by omega
      have w1 : IntKind.u64.wrap ((2 : Int) ^ k) = ((2 ^ k : Nat) : Int) := by
        have : ((2 : Int) ^ k) = ((2 ^ k : Nat) : Int) := by simp
        rw [this]
        simp only [IntKind.wrap_u64]
        omega
      have w2 : IntKind.u64.wrap (((2 ^ k : Nat) : Int) - 1) = ((2 ^ k : Nat) : Int) - 1 := by
        simp only [IntKind.wrap_u64]
        omega
      rw [show ((2 ^ k - 1 : Nat) : Int) = ((2 ^ k : Nat) : Int) - 1 by omega] at z2
      generalize bstr (numB (2 ^ k)) = S at *
      generalize 2 ^ k = P at *
      generalize k / 7 + 1 = Z1 at *
      generalize max 1 ((k + 6) / 7) = Z2 at *
      clear hp1 hp2 hle hpos
      go_wp2_with fail
      refine (z1 _).mono ?_
      rintro e wa ⟨rfl, rfl⟩
      go_wp2_with fail
      refine (z2 _).mono ?_
      rintro e wa ⟨rfl, rfl⟩
      go_wp2_with fail
      refine (z3 _).mono ?_
      rintro e wb ⟨rfl, hbb⟩
      go_wp2_with fail
      go_roundg (64 - (k + 1))
      case measure => omega
      case rel => exact ⟨k + 1, by omega, rfl, by go_num, rfl, below_then hbr hbb (Nat.le_refl _)⟩
    · obtain rfl : k = 64 := by omega
      have kc := fun (w : World) (C : Array Value) (n c : Nat) => Lib.run_convert_bytes_const (P := Try.prog) w 24 5 C n c Try.underlying24 Try.underlying5
      clear hlt hk
      go_wp2_with fail
      refine (from_any (some ⟨wr.heap.size, 0, none⟩) 4 4 [2, 97, 98, 99] rfl (by omega) _ (rd_lit (heap_alloc_new _ _) rfl)).mono ?_
      rintro e w20 ⟨g, v0, rfl, hg, hs0, hb0, _⟩
      replace hb0 := below_then (below_then hbr ((Below.refl _ _).alloc (Nat.le_refl _) _) (Nat.le_refl _)) hb0 (Nat.le_refl _)
      have hgw : w.heap.size ≤ g := Nat.le_trans (Nat.le_trans hbr.size (by simp)) hg
      clear kc hg hb hbr
      have hgl := hs0.lt
      go_wp2_with fail
      have q := sbytes_any g v0 [2, 97, 98, 99] (by decide) 9 (by omega) (by omega) w20 hs0
      rw [rb1] at q
      simp only at q
      refine q.mono ?_
      rintro e w21 ⟨o7, rfl, ⟨v1, _, hs1⟩, ho7⟩
      obtain ⟨A7, c7, rfl, _⟩ := RdC.of_own ho7
      have hb1 := below_kept hb0 hs1.2 (fun k e => by omega)
      have k1 := hs1.2.size
      clear q hs0
      go_wp2_with fail
      refine (left_any g v1 [99] w21 hs1.1).mono ?_
      rintro e w' ⟨rfl, hw'⟩
      rw [hw']
      clear hw'
      go_wp2_with fail
      refine (end_any g v1 [99] w21 hs1.1).mono ?_
      rintro e w' ⟨rfl, hw'⟩
      rw [hw', re1]
      clear hw'
      go_wp2_with fail
      have q := sraw_any g v1 [99] (by decide) 2 (by omega) (by omega) w21 hs1.1
      rw [rr1] at q
      simp only at q
      refine q.mono ?_
      rintro e w22 ⟨o11, rfl, ⟨v2, _, hs2⟩, ho11⟩
      obtain ⟨A11, c11, rfl, _⟩ := RdC.of_own ho11
      have hb2 := below_kept hb1 hs2.2 (fun k e => by omega)
      have k2 := hs2.2.size
      have ho7b := own_of_block ho7 fun b hb => hs2.2.block b (ho7.lt b hb).2 fun e => by have := (ho7.lt b hb).1; omega
      clear q hs1 ho7 ho11
      go_wp2_with fail
      have q := sraw_any g v2 [99] (by decide) (-1) (by omega) (by omega) w22 hs2.1
      rw [rr2] at q
      simp only at q
      refine q.mono ?_
      rintro e w23 ⟨o13, rfl, ⟨v3, _, hs3⟩, ho13⟩
      obtain ⟨A13, c13, rfl, _⟩ := RdC.of_own ho13
      have hb3 := below_kept hb2 hs3.2 (fun k e => by omega)
      have k3 := hs3.2.size
      have ho7c := own_of_block ho7b fun b hb => hs3.2.block b (ho7b.lt b hb).2 fun e => by have := (ho7b.lt b hb).1; omega
      clear q hs2 ho7b ho13
      go_wp2_with fail
      have q := sraw_any g v3 [99] (by decide) 1 (by omega) (by omega) w23 hs3.1
      rw [rr3] at q
      simp only at q
      refine q.mono ?_
      rintro e w24 ⟨o15, rfl, ⟨v4, _, hs4⟩, ho15⟩
      obtain ⟨A15, c15, rfl, _, _, hr15, _⟩ := RdC.of_own ho15
      have hb4 := below_kept hb3 hs4.2 (fun k e => by omega)
      have ho7d := own_of_block ho7c fun b hb => hs4.2.block b (ho7c.lt b hb).2 fun e => by have := (ho7c.lt b hb).1; omega
      obtain ⟨_, _, e7, _, _, hr7, _⟩ := RdC.of_own ho7d
      cases e7
      have k7 : (convert 24 9 (.slice A7 2 c7)).run Try.prog w24 = .ok (.string ⟨#[97, 98]⟩) w24 := run_string_of (P := Try.prog) w24 24 9 5 Try.underlying24 Try.underlying5 Try.underlying9 A7 [97, 98] c7 hr7
      have k15 : (convert 24 9 (.slice A15 1 c15)).run Try.prog w24 = .ok (.string ⟨#[99]⟩) w24 := run_string_of (P := Try.prog) w24 24 9 5 Try.underlying24 Try.underlying5 Try.underlying9 A15 [99] c15 hr15
      clear q hs3 ho7c ho15 hr7 hr15 ho7d
      go_wp2_with fail
      refine (end_any g v4 [] w24 hs4.1).mono ?_
      rintro e w' ⟨rfl, hw'⟩
      rw [hw', re0]
      clear hw' k7 k15 hs4
      have kc := fun (w : World) (C : Array Value) (n c : Nat) => Lib.run_convert_bytes_const (P := Try.prog) w 24 5 C n c Try.underlying24 Try.underlying5
      go_wp2_with fail
      refine (from_any (some ⟨w24.heap.size, 0, none⟩) 3 3 [3, 97, 98] rfl (by omega) _ (rd_lit (heap_alloc_new _ _) rfl)).mono ?_
      rintro e w30 ⟨g2, u0, rfl, hg2, ht0, hb5, _⟩
      replace hb5 := below_then (below_then hb4 ((Below.refl _ _).alloc (Nat.le_refl _) _) (Nat.le_refl _)) hb5 (Nat.le_refl _)
      have hgw2 : w.heap.size ≤ g2 := Nat.le_trans (Nat.le_trans hb4.size (by simp)) hg2
      clear kc hg2
      go_wp2_with fail
      have q := sbytes_any g2 u0 [3, 97, 98] (by decide) 9 (by omega) (by omega) w30 ht0
      rw [rb2] at q
      simp only at q
      refine q.mono ?_
      rintro e w31 ⟨o, rfl, ⟨u1, _, ht1⟩, hoo⟩
      obtain ⟨Ax, cx, rfl, _⟩ := RdC.of_own hoo
      have hb6 := below_kept hb5 ht1.2 (fun k e => by omega)
      clear q ht0 hoo
      go_wp2_with fail
      have q := sbytes_any g2 u1 [3, 97, 98] (by decide) 2 (by omega) (by omega) w31 ht1.1
      rw [rb3] at q
      simp only at q
      refine q.mono ?_
      rintro e w32 ⟨o, rfl, ⟨u2, _, ht2⟩, hoo⟩
      obtain ⟨Ay, cy, rfl, _⟩ := RdC.of_own hoo
      have hb7 := below_kept hb6 ht2.2 (fun k e => by omega)
      clear q ht1 hoo
      go_wp2_with fail
      have q := sbytes_any g2 u2 [3, 97, 98] (by decide) (-1) (by omega) (by omega) w32 ht2.1
      rw [rb4] at q
      simp only at q
      refine q.mono ?_
      rintro e w33 ⟨o, rfl, ⟨u3, _, ht3⟩, hoo⟩
      obtain ⟨Az, cz, rfl, _⟩ := RdC.of_own hoo
      have hb8 := below_kept hb7 ht3.2 (fun k e => by omega)
      clear q ht2 hoo
      go_wp2_with fail
      refine (left_any g2 u3 [3, 97, 98] w33 ht3.1).mono ?_
      rintro e w' ⟨rfl, hw'⟩
      rw [hw']
      clear hw' ht3
      have z0 : Src 62 w33.heap.size (.slice none 0 0) [] (w33.alloc (.cells #[.slice none 0 0] 62)) := ⟨heap_alloc_new _ _, none, 0, rfl, Nat.le_refl _, by unfold maxLen; omega, RdC.nil _ _, fun ad e => by cases e⟩
      have hb9 := below_then hb8 ((Below.refl _ _).alloc (Nat.le_refl _) (.cells #[.slice none 0 0] 62)) (Nat.le_refl _)
      have hg0 := hb8.size
      go_wp2_with fail
      refine (nil_number _).mono ?_
      rintro e w40 ⟨rfl, hbx⟩
      have z1 := z0.below hbx
      replace hb9 := below_then hb9 hbx (Nat.le_refl _)
      clear hbx z0
      go_wp2_with fail
      refine (nil_bytes _).mono ?_
      rintro e w41 ⟨rfl, hbx⟩
      have z2 := z1.below hbx
      replace hb9 := below_then hb9 hbx (Nat.le_refl _)
      clear hbx z1
      go_wp2_with fail
      refine (nil_raw _).mono ?_
      rintro e w' ⟨rfl, hw'⟩
      rw [hw']
      clear hw'
      go_wp2_with fail
      have q := srcnum_wide w33.heap.size 1 (by omega) [] _ w41 z2
      rw [rn0] at q
      simp only at q
      refine q.mono ?_
      rintro e w42 ⟨rfl, zv, _, hz3⟩
      replace hb9 := below_kept hb9 hz3.2 (fun k e => by omega)
      have z3 := hz3.1
      clear q z2 hz3
      go_wp2_with fail
      refine (alive_any _).mono ?_
      rintro e w43 ⟨rfl, hbx⟩
      have z4 := z3.below hbx
      replace hb9 := below_then hb9 hbx (Nat.le_refl _)
      clear hbx z3
      go_wp2_with fail
      refine (nil_snumber _).mono ?_
      rintro e w44 ⟨rfl, hbx⟩
      have z5 := z4.below hbx
      replace hb9 := below_then hb9 hbx (Nat.le_refl _)
      clear hbx z4
      go_wp2_with fail
      refine (nil_sbytes _).mono ?_
      rintro e w45 ⟨rfl, hbx⟩
      have z6 := z5.below hbx
      replace hb9 := below_then hb9 hbx (Nat.le_refl _)
      clear hbx z5
      go_wp2_with fail
      refine (nil_sall _).mono ?_
      rintro e w' ⟨rfl, hw'⟩
      rw [hw']
      clear hw'
      go_wp2_with fail
      refine (nil_end _).mono ?_
      rintro e w' ⟨rfl, hw'⟩
      rw [hw']
      clear hw'
      go_wp2_with fail
      refine (end_any w33.heap.size zv _ w45 z6).mono ?_
      rintro e w' ⟨rfl, hw'⟩
      rw [hw', List.drop_nil, re0]
      clear hw'
      go_wp2_with fail
      refine (nil_left _).mono ?_
      rintro e w' ⟨rfl, hw'⟩
      rw [hw']
      clear hw'
      go_wp2_with fail
      go_ret
      exact ⟨rfl, hb9⟩
end Go.Proofs.Ytokfenogiajcgaa
