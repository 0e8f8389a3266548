/- The law VectorDots: its loop. -/
import Derived.Test.YtfifbjlmbdgmjaaVecU
import Derived.Test.YtfifbjlmbdgmjaaVecGi
import Derived.Test.YtfifbjlmbdgmjaaVecGj
import Derived.Test.YtfifbjlmbdgmjaaVecGk
import Derived.Test.YtfifbjlmbdgmjaaVecP
namespace Go.Proofs.Ytfifbjlmbdgmjaa
open Go.RowKit

set_option maxRecDepth 20000 in
set_option maxHeartbeats 8000000 in
theorem dots_list (v : List Nat) (hv : v.length = 16) (sv : small v) (A : Option Addr) (n cp : Nat) (l : List UInt8) (s c : Int) (w : World) (hr : ByteRow w A n cp l) :
    Calls Try.prog 5 #[.agg (vC v), .slice A n cp, .agg (dC s c)] w fun e w' => e = .returned (.bool true) ∧ Below w.heap.size w w' := by
  obtain ⟨hln, hcap, hmax, hrd⟩ := hr
  obtain ⟨Z, hz0, hZs⟩ : ∃ Z : Array Value, (Try.prog.info? 24).bind (fun i => i.zero.map Value.cells) = some Z ∧ Z.size = 16 := ⟨vC z16, zero_vec, by rw [vC_size]; rfl⟩
  have hup : ∀ (w0 W : World) g o, Below w0.heap.size w0 W → w0.heap[g]? = some o → W.heap[g]? = some o := fun w0 W g o h hg => (h.block _ (lt_of_get hg)).trans hg
  have zv := vec_size hv
  obtain ⟨w1, hw1⟩ : ∃ w1, w1 = (w.alloc (.cells (vC v) 24)).alloc (.cells (dC s c) 35) := ⟨_, rfl⟩
  obtain ⟨g1, g2, hb0⟩ := two_blocks _ _ _ w1 hw1
  go_enter Try.func5, Try.ntmps5
  go_wp2_with fail
  rw [show ((w.alloc (.cells (vC v) 24)).alloc (.cells (dC s c) 35)) = w1 from hw1.symm]
  clear hw1
  refine (alive_any w1).mono ?_
  rintro e w2 ⟨rfl, h2⟩
  replace g1 := hup _ _ _ _ h2 g1
  replace g2 := hup _ _ _ _ h2 g2
  replace hb0 := below_then hb0 h2 (Nat.le_refl _)
  clear h2
  by_cases h100 : 100 < n
  · go_wp2_with fail
    go_ret
    exact ⟨rfl, hb0⟩
  have hz2 := lt_of_get g2
  have q0 : (w2.alloc (.cells Z 24)).heap[w2.heap.size]? = some (.cells Z 24 (0, 0)) := heap_alloc_new _ _
  have hvZ : (vC v).size = Z.size := by rw [vC_size, hv, hZs]
  have hv1 := vC_one v
  go_wp2_with (first
    | (with_reducible refine wpList_load_row rfl 24 (.tmp 3) rfl _ rfl 24 (vC v) _ _ g1 Try.underlying24 rfl zv ?_)
    | (with_reducible refine wpList_alloc_z rfl 24 rfl Z hz0 ?_)
    | (with_reducible refine wpList_store_z rfl 24 (.tmp 8) (.tmp 26) rfl _ rfl (vC v) rfl Z _ q0 hvZ zv hv1 ?_)
    | fail)
  have h3 : Below w2.heap.size w2 ((w2.alloc (.cells Z 24)).setRow w2.heap.size (vC v)) := below_setRow ((Below.refl _ w2).alloc (Nat.le_refl _) _) (Nat.le_refl _) _
  have g3 := setRow_heap _ w2.heap.size Z (vC v) _ _ q0
  obtain ⟨w3, hw3⟩ : ∃ w3, w3 = (w2.alloc (.cells Z 24)).setRow w2.heap.size (vC v) := ⟨_, rfl⟩
  rw [← hw3] at h3 g3 ⊢
  clear hw3 q0
  replace g1 := hup _ _ _ _ h3 g1
  replace g2 := hup _ _ _ _ h3 g2
  have hb2 := hb0
  have l1 := lt_of_get g1
  replace hb0 := below_then hb0 h3 (Nat.le_refl _)
  clear h3
  generalize w2.heap.size = p at *
  go_loopw [9, 29] (fun t i wr => ∃ (k m : Nat) (a : List Nat), k ≤ n ∧ m ≤ k ∧ i = .int .i64 k ∧ t = .int .i64 m ∧ Risen v a m ∧ wr.heap[p]? = some (.cells (vC a) 24 (0, 0)) ∧ wr.heap[w.heap.size]? = some (.cells (vC v) 24 (0, 0)) ∧ wr.heap[w.heap.size + 1]? = some (.cells (dC s c) 35 (0, 0)) ∧ Below w.heap.size w wr) (fun _ i _ => n - (intOf i).toNat)
  case atStart => exact ⟨0, 0, v, by omega, by omega, rfl, rfl, Risen.start v hv sv, g3, g1, g2, hb0⟩
  case round =>
    clear g1 g2 g3 hb0
    obtain ⟨k, m, a, hk, hmk, rfl, rfl, hri, g3, g1, g2, hb0⟩ := hrel
    by_cases hlt : k < n
    · have kl : k < l.length := by omega
      obtain ⟨ad, rfl, hc0⟩ := cell_of_rd hrd k kl
      have hcell : wr.cell? (ad.add k) = some (.int .u8 (l[k].toNat : Int)) := (hb0.cell (World.block_lt_of_cell? w _ hc0)).trans hc0
      generalize hb : l[k].toNat = b at *
      have hb8 : b < 256 := by rw [← hb]; exact l[k].toNat_lt
      clear hb hc0
      have za := vec_size hri.len
      go_wp2_with (first
        | (with_reducible refine wpList_load_row rfl 24 (.tmp 8) rfl _ rfl 24 (vC a) _ _ g3 Try.underlying24 rfl za ?_)
        | fail)
      obtain ⟨j, hjd, hj⟩ : ∃ j : Nat, (b : Int) % 16 = (j : Int) ∧ j < 16 := ⟨b % 16, by omega, by omega⟩
      rw [hjd]
      clear hcell
      have ha := hri.len
      have sa := hri.sm
      have qn := next_any a ha sa j
      obtain ⟨x, hx⟩ : ∃ x, a[j] = x := ⟨_, rfl⟩
      by_cases hov : x = 4294967295
      · rw [hov] at hx
        obtain ⟨n1, n2, n3⟩ := step_over ha hj hx
        rw [n1, n2, n3] at qn
        unfold dC at qn
        refine (qn wr).mono ?_
        rintro e w4 ⟨rfl, h4⟩
        replace g1 := hup _ _ _ _ h4 g1
        replace g2 := hup _ _ _ _ h4 g2
        replace g3 := hup _ _ _ _ h4 g3
        replace hb0 := below_then hb0 h4 (Nat.le_refl _)
        clear h4
        have h5 : Below w4.heap.size w4 (w4.alloc (.cells #[.int .i64 0, .int .i64 0] 35)) := (Below.refl _ w4).alloc (Nat.le_refl _) _
        replace g1 := hup _ _ _ _ h5 g1
        replace g2 := hup _ _ _ _ h5 g2
        replace g3 := hup _ _ _ _ h5 g3
        replace hb0 := below_then hb0 h5 (Nat.le_refl _)
        clear h5
        clear qn n1 n2 n3
        go_wp2_with fail
        go_roundw
        case rel => exact ⟨k + 1, m, a, by omega, by omega, by go_num, rfl, hri, g3, g1, g2, hb0⟩
        case measure => simp [intOf]; omega
      · obtain ⟨n1, n2, n3⟩ := step_next ha sa hj hx hov
        rw [n1, n2, n3] at qn
        unfold dC at qn
        refine (qn wr).mono ?_
        rintro e w4 ⟨rfl, h4⟩
        replace g1 := hup _ _ _ _ h4 g1
        replace g2 := hup _ _ _ _ h4 g2
        replace g3 := hup _ _ _ _ h4 g3
        replace hb0 := below_then hb0 h4 (Nat.le_refl _)
        clear h4
        have h5 : Below w4.heap.size w4 (w4.alloc (.cells #[.int .i64 (j : Int), .int .i64 ((x : Int) + 1)] 35)) := (Below.refl _ w4).alloc (Nat.le_refl _) _
        have g4 : (w4.alloc (.cells #[.int .i64 (j : Int), .int .i64 ((x : Int) + 1)] 35)).heap[w4.heap.size]? = some (.cells (dC j ((x : Int) + 1)) 35 (0, 0)) := heap_alloc_new _ _
        replace g1 := hup _ _ _ _ h5 g1
        replace g2 := hup _ _ _ _ h5 g2
        replace g3 := hup _ _ _ _ h5 g3
        replace hb0 := below_then hb0 h5 (Nat.le_refl _)
        clear h5
        have qh := has_any a ha sa j ((x : Int) + 1)
        rw [step_has0 ha hj hx] at qh
        have qa := add_any a ha sa j ((x : Int) + 1)
        rw [(step_add ha sa hj hx hov).1, (step_add ha sa hj hx hov).2] at qa
        have hN := (hri.step hv hj hx hov)
        have qh2 := has_any _ hN.len hN.sm j ((x : Int) + 1)
        rw [step_has1 ha sa hj hx hov] at qh2
        have qc := compare_any a _ ha hN.len
        rw [step_cmp ha hj hx] at qc
        have ql := lacks_any a _ ha hN.len sa hN.sm
        rw [lack_one a ha j x hj hx] at ql
        generalize a.set j (x + 1) = N at hN qa qh2 qc ql
        have zN := vec_size hN.len
        have zd : (Try.prog.info? 35).map (·.size) = some (dC j ((x : Int) + 1)).size := size_dot
        have hNZ : (vC N).size = Z.size := by rw [vC_size, hN.len, hZs]
        have hNa : (vC N).size = (vC a).size := by rw [vC_size, vC_size, hN.len, ha]
        have hN1 := vC_one N
        clear qn n1 n2 n3 hx hov
        go_wp2_with (first
          | ((with_reducible refine wpList_load_rowW ?hw 24 (.tmp 8) rfl _ rfl 24 (vC a) _ _ g3 Try.underlying24 rfl za ?_); case hw => rfl)
          | ((with_reducible refine wpList_load_rowW ?hw 35 (.tmp 12) rfl _ rfl 35 (dC j ((x : Int) + 1)) _ _ g4 Try.underlying35 rfl zd ?_); case hw => rfl)
          | fail)
        refine (qh _).mono ?_
        clear qh
        rintro e w6 ⟨rfl, h6⟩
        replace g1 := hup _ _ _ _ h6 g1
        replace g2 := hup _ _ _ _ h6 g2
        replace g3 := hup _ _ _ _ h6 g3
        replace g4 := hup _ _ _ _ h6 g4
        replace hb0 := below_then hb0 h6 (Nat.le_refl _)
        clear h6
        go_wp2_with (first
          | ((with_reducible refine wpList_load_rowW ?hw 24 (.tmp 8) rfl _ rfl 24 (vC a) _ _ g3 Try.underlying24 rfl za ?_); case hw => rfl)
          | ((with_reducible refine wpList_load_rowW ?hw 35 (.tmp 12) rfl _ rfl 35 (dC j ((x : Int) + 1)) _ _ g4 Try.underlying35 rfl zd ?_); case hw => rfl)
          | fail)
        refine (qa w6).mono ?_
        clear qa
        rintro e w7 ⟨rfl, h7⟩
        replace g1 := hup _ _ _ _ h7 g1
        replace g2 := hup _ _ _ _ h7 g2
        replace g3 := hup _ _ _ _ h7 g3
        replace g4 := hup _ _ _ _ h7 g4
        replace hb0 := below_then hb0 h7 (Nat.le_refl _)
        clear h7
        have q5 : (w7.alloc (.cells Z 24)).heap[w7.heap.size]? = some (.cells Z 24 (0, 0)) := heap_alloc_new _ _
        have h8 : Below w7.heap.size w7 ((w7.alloc (.cells Z 24)).setRow w7.heap.size (vC N)) := below_setRow ((Below.refl _ w7).alloc (Nat.le_refl _) _) (Nat.le_refl _) _
        have g5 := setRow_heap _ w7.heap.size Z (vC N) _ _ q5
        replace g1 := hup _ _ _ _ h8 g1
        replace g2 := hup _ _ _ _ h8 g2
        replace g3 := hup _ _ _ _ h8 g3
        replace g4 := hup _ _ _ _ h8 g4
        replace hb0 := below_then hb0 h8 (Nat.le_refl _)
        clear h8
        go_wp2_with (first
          | (with_reducible refine wpList_alloc_z rfl 24 rfl Z hz0 ?_)
          | (with_reducible refine wpList_store_z rfl 24 (.tmp 14) (.tmp 50) rfl _ rfl (vC N) rfl Z _ q5 hNZ zN hN1 ?_)
          | ((with_reducible refine wpList_load_rowW ?hw 24 (.tmp 14) rfl _ rfl 24 (vC N) _ _ g5 Try.underlying24 rfl zN ?_); case hw => rfl)
          | ((with_reducible refine wpList_load_rowW ?hw 35 (.tmp 12) rfl _ rfl 35 (dC j ((x : Int) + 1)) _ _ g4 Try.underlying35 rfl zd ?_); case hw => rfl)
          | fail)
        refine (qh2 _).mono ?_
        clear qh2 q5
        rintro e w9 ⟨rfl, h9⟩
        replace g1 := hup _ _ _ _ h9 g1
        replace g2 := hup _ _ _ _ h9 g2
        replace g3 := hup _ _ _ _ h9 g3
        replace g4 := hup _ _ _ _ h9 g4
        replace g5 := hup _ _ _ _ h9 g5
        replace hb0 := below_then hb0 h9 (Nat.le_refl _)
        clear h9
        go_wp2_with (first
          | ((with_reducible refine wpList_load_rowW ?hw 24 (.tmp 8) rfl _ rfl 24 (vC a) _ _ g3 Try.underlying24 rfl za ?_); case hw => rfl)
          | ((with_reducible refine wpList_load_rowW ?hw 24 (.tmp 14) rfl _ rfl 24 (vC N) _ _ g5 Try.underlying24 rfl zN ?_); case hw => rfl)
          | fail)
        refine (qc w9).mono ?_
        clear qc
        rintro e w10 ⟨rfl, h10⟩
        replace g1 := hup _ _ _ _ h10 g1
        replace g2 := hup _ _ _ _ h10 g2
        replace g3 := hup _ _ _ _ h10 g3
        replace g4 := hup _ _ _ _ h10 g4
        replace g5 := hup _ _ _ _ h10 g5
        replace hb0 := below_then hb0 h10 (Nat.le_refl _)
        clear h10
        go_wp2_with (first
          | ((with_reducible refine wpList_load_rowW ?hw 24 (.tmp 8) rfl _ rfl 24 (vC a) _ _ g3 Try.underlying24 rfl za ?_); case hw => rfl)
          | ((with_reducible refine wpList_load_rowW ?hw 24 (.tmp 14) rfl _ rfl 24 (vC N) _ _ g5 Try.underlying24 rfl zN ?_); case hw => rfl)
          | fail)
        refine (ql w10).mono ?_
        clear ql
        rintro e w11 ⟨rfl, h11⟩
        replace g1 := hup _ _ _ _ h11 g1
        replace g2 := hup _ _ _ _ h11 g2
        replace g3 := hup _ _ _ _ h11 g3
        replace g4 := hup _ _ _ _ h11 g4
        replace g5 := hup _ _ _ _ h11 g5
        replace hb0 := below_then hb0 h11 (Nat.le_refl _)
        clear h11
        have s3 := setRow_heap _ p (vC a) (vC N) _ _ g3
        have s1 := (setRow_other w11 p w.heap.size (vC N) (by omega)).trans g1
        have s2 := (setRow_other w11 p (w.heap.size + 1) (vC N) (by omega)).trans g2
        have sb := below_setRow hb0 (show w.heap.size ≤ p by omega) (vC N)
        clear g4
        go_wp2_with (first
          | ((with_reducible refine wpList_load_rowW ?hw 24 (.tmp 14) rfl _ rfl 24 (vC N) _ _ g5 Try.underlying24 rfl zN ?_); case hw => rfl)
          | (with_reducible refine wpList_store_z rfl 24 (.tmp 8) (.tmp 72) rfl _ rfl (vC N) rfl (vC a) _ g3 hNa zN hN1 ?_)
          | fail)
        go_roundw
        case rel => exact ⟨k + 1, m + 1, N, by omega, by omega, by go_num, by go_num, hN, s3, s1, s2, sb⟩
        case measure => simp [intOf]; omega
    · obtain rfl : k = n := by omega
      have qh := has_any v hv sv s c
      have l2 := hri.back hv
      have mw : IntKind.u64.wrap (m : Int) = m := by rw [IntKind.wrap_u64]; omega
      clear hrd hmax
      by_cases hs0 : 0 ≤ s
      · by_cases hs1 : s < 16
        · by_cases hc : 1 ≤ c
          · obtain ⟨j, rfl⟩ : ∃ j : Nat, s = (j : Int) := ⟨s.toNat, by omega⟩
            have ka : j < a.length := by have := hri.len; omega
            have kv : j < v.length := by omega
            have xa := hri.sm a[j] (List.getElem_mem _)
            by_cases hh : hasV v j c = true
            · have fa := hri.has hv hh
              rw [hh] at qh
              have hle : decide (c ≤ (a[j] : Int)) = true := by rw [← has_good a hri.len hri.sm (by omega) hc]; exact fa
              have zd : (Try.prog.info? 35).map (·.size) = some (dC (j : Int) c).size := size_dot
              go_wp2_with (first
                | (with_reducible refine wpList_load_row rfl 24 (.tmp 3) rfl _ rfl 24 (vC v) _ _ g1 Try.underlying24 rfl zv ?_)
                | (with_reducible refine wpList_load_row rfl 35 (.tmp 5) rfl _ rfl 35 (dC (j : Int) c) _ _ g2 Try.underlying35 rfl zd ?_)
                | fail)
              refine (qh wr).mono ?_
              rintro e w5 ⟨rfl, h5⟩
              replace g1 := hup _ _ _ _ h5 g1
              replace g2 := hup _ _ _ _ h5 g2
              replace g3 := hup _ _ _ _ h5 g3
              replace hb0 := below_then hb0 h5 (Nat.le_refl _)
              clear h5 qh
              go_wp2_with fail
              refine dots_at v a w.heap.size (w.heap.size + 1) p m c j a[j] true w5 hv hri.len sv hri.sm mw hri.lack l2 fa (eq_true (by omega)) (eq_true (by omega)) (eq_true hc) (by omega) (by omega) (by rw [Int.tmod_eq_emod_of_nonneg (by omega)]; omega) (by rw [Int.tmod_eq_emod_of_nonneg (by omega)]; omega) (wrap64 _ (by omega)) (wrap64 _ (by omega)) (wrap64 _ (by omega)) hle (fun W h => hup _ W _ _ h g1) (fun W h => hup _ W _ _ h g3) (fun W h => hup _ W _ _ h g2)
                (fun W h => by rw [cell_of_row _ _ _ _ _ _ (hup _ W _ _ h g2)]; rfl) (fun W h => by rw [cell_of_row _ _ _ _ _ _ (hup _ W _ _ h g2)]; rfl) (fun W h => by rw [cell_of_row _ _ _ _ _ _ (hup _ W _ _ h g3), vC_get _ _ ka]) fun wz => ?_
              intros
              rename_i hz
              go_wp2_with fail
              go_ret
              exact ⟨rfl, below_then hb0 hz (Nat.le_refl _)⟩
            · have hh2 : hasV v j c = false := by simpa using hh
              rw [hh2] at qh
              have fa := has_good a hri.len hri.sm (show j < 16 by omega) hc
              have zd : (Try.prog.info? 35).map (·.size) = some (dC (j : Int) c).size := size_dot
              go_wp2_with (first
                | (with_reducible refine wpList_load_row rfl 24 (.tmp 3) rfl _ rfl 24 (vC v) _ _ g1 Try.underlying24 rfl zv ?_)
                | (with_reducible refine wpList_load_row rfl 35 (.tmp 5) rfl _ rfl 35 (dC (j : Int) c) _ _ g2 Try.underlying35 rfl zd ?_)
                | fail)
              refine (qh wr).mono ?_
              rintro e w5 ⟨rfl, h5⟩
              replace g1 := hup _ _ _ _ h5 g1
              replace g2 := hup _ _ _ _ h5 g2
              replace g3 := hup _ _ _ _ h5 g3
              replace hb0 := below_then hb0 h5 (Nat.le_refl _)
              clear h5 qh
              go_wp2_with fail
              refine dots_af v a w.heap.size (w.heap.size + 1) p m c j a[j] (decide (c ≤ (a[j] : Int))) w5 hv hri.len sv hri.sm mw hri.lack l2 fa (eq_true (by omega)) (eq_true (by omega)) (eq_true hc) (by omega) (by omega) (by rw [Int.tmod_eq_emod_of_nonneg (by omega)]; omega) (by rw [Int.tmod_eq_emod_of_nonneg (by omega)]; omega) (wrap64 _ (by omega)) (wrap64 _ (by omega)) (wrap64 _ (by omega)) rfl (fun W h => hup _ W _ _ h g1) (fun W h => hup _ W _ _ h g3) (fun W h => hup _ W _ _ h g2)
                (fun W h => by rw [cell_of_row _ _ _ _ _ _ (hup _ W _ _ h g2)]; rfl) (fun W h => by rw [cell_of_row _ _ _ _ _ _ (hup _ W _ _ h g2)]; rfl) (fun W h => by rw [cell_of_row _ _ _ _ _ _ (hup _ W _ _ h g3), vC_get _ _ ka]) fun wz => ?_
              intros
              rename_i hz
              go_wp2_with fail
              go_ret
              exact ⟨rfl, below_then hb0 hz (Nat.le_refl _)⟩
          · have hh := has_bad v (s := s) (c := c) (.inr (.inr (by omega)))
            rw [hh] at qh
            have fa := has_bad a (s := s) (c := c) (.inr (.inr (by omega)))
            have zd : (Try.prog.info? 35).map (·.size) = some (dC s c).size := size_dot
            go_wp2_with (first
              | (with_reducible refine wpList_load_row rfl 24 (.tmp 3) rfl _ rfl 24 (vC v) _ _ g1 Try.underlying24 rfl zv ?_)
              | (with_reducible refine wpList_load_row rfl 35 (.tmp 5) rfl _ rfl 35 (dC s c) _ _ g2 Try.underlying35 rfl zd ?_)
              | fail)
            refine (qh wr).mono ?_
            rintro e w5 ⟨rfl, h5⟩
            replace g1 := hup _ _ _ _ h5 g1
            replace g2 := hup _ _ _ _ h5 g2
            replace g3 := hup _ _ _ _ h5 g3
            replace hb0 := below_then hb0 h5 (Nat.le_refl _)
            clear h5 qh
            go_wp2_with fail
            refine dots_b3 v a w.heap.size (w.heap.size + 1) p m c s w5 hv hri.len sv hri.sm mw hri.lack l2 fa (eq_true hs0) (eq_true hs1) (eq_false (by omega)) (fun W h => hup _ W _ _ h g1) (fun W h => hup _ W _ _ h g3) (fun W h => hup _ W _ _ h g2)
              (fun W h => by rw [cell_of_row _ _ _ _ _ _ (hup _ W _ _ h g2)]; rfl) (fun W h => by rw [cell_of_row _ _ _ _ _ _ (hup _ W _ _ h g2)]; rfl) fun wz => ?_
            intros
            rename_i hz
            go_wp2_with fail
            go_ret
            exact ⟨rfl, below_then hb0 hz (Nat.le_refl _)⟩
        · have hh := has_bad v (s := s) (c := c) (.inr (.inl (by omega)))
          rw [hh] at qh
          have fa := has_bad a (s := s) (c := c) (.inr (.inl (by omega)))
          have zd : (Try.prog.info? 35).map (·.size) = some (dC s c).size := size_dot
          go_wp2_with (first
            | (with_reducible refine wpList_load_row rfl 24 (.tmp 3) rfl _ rfl 24 (vC v) _ _ g1 Try.underlying24 rfl zv ?_)
            | (with_reducible refine wpList_load_row rfl 35 (.tmp 5) rfl _ rfl 35 (dC s c) _ _ g2 Try.underlying35 rfl zd ?_)
            | fail)
          refine (qh wr).mono ?_
          rintro e w5 ⟨rfl, h5⟩
          replace g1 := hup _ _ _ _ h5 g1
          replace g2 := hup _ _ _ _ h5 g2
          replace g3 := hup _ _ _ _ h5 g3
          replace hb0 := below_then hb0 h5 (Nat.le_refl _)
          clear h5 qh
          go_wp2_with fail
          refine dots_b2 v a w.heap.size (w.heap.size + 1) p m c s w5 hv hri.len sv hri.sm mw hri.lack l2 fa (eq_true hs0) (eq_false (by omega)) (fun W h => hup _ W _ _ h g1) (fun W h => hup _ W _ _ h g3) (fun W h => hup _ W _ _ h g2)
            (fun W h => by rw [cell_of_row _ _ _ _ _ _ (hup _ W _ _ h g2)]; rfl) (fun W h => by rw [cell_of_row _ _ _ _ _ _ (hup _ W _ _ h g2)]; rfl) fun wz => ?_
          intros
          rename_i hz
          go_wp2_with fail
          go_ret
          exact ⟨rfl, below_then hb0 hz (Nat.le_refl _)⟩
      · have hh := has_bad v (s := s) (c := c) (.inl (by omega))
        rw [hh] at qh
        have fa := has_bad a (s := s) (c := c) (.inl (by omega))
        have zd : (Try.prog.info? 35).map (·.size) = some (dC s c).size := size_dot
        go_wp2_with (first
          | (with_reducible refine wpList_load_row rfl 24 (.tmp 3) rfl _ rfl 24 (vC v) _ _ g1 Try.underlying24 rfl zv ?_)
          | (with_reducible refine wpList_load_row rfl 35 (.tmp 5) rfl _ rfl 35 (dC s c) _ _ g2 Try.underlying35 rfl zd ?_)
          | fail)
        refine (qh wr).mono ?_
        rintro e w5 ⟨rfl, h5⟩
        replace g1 := hup _ _ _ _ h5 g1
        replace g2 := hup _ _ _ _ h5 g2
        replace g3 := hup _ _ _ _ h5 g3
        replace hb0 := below_then hb0 h5 (Nat.le_refl _)
        clear h5 qh
        go_wp2_with fail
        refine dots_b1 v a w.heap.size (w.heap.size + 1) p m c s w5 hv hri.len sv hri.sm mw hri.lack l2 fa (eq_false (by omega)) (fun W h => hup _ W _ _ h g1) (fun W h => hup _ W _ _ h g3) (fun W h => hup _ W _ _ h g2)
          (fun W h => by rw [cell_of_row _ _ _ _ _ _ (hup _ W _ _ h g2)]; rfl) (fun W h => by rw [cell_of_row _ _ _ _ _ _ (hup _ W _ _ h g2)]; rfl) fun wz => ?_
        intros
        rename_i hz
        go_wp2_with fail
        go_ret
        exact ⟨rfl, below_then hb0 hz (Nat.le_refl _)⟩
theorem vectorDots_walk (v : List Nat) (A : Option Addr) (n cp : Nat) (l : List UInt8) (s c : Int) (w : World) (hv : VecOK v) (hr : ByteRow w A n cp l) (_ : (-9223372036854775808 ≤ s ∧ s ≤ 9223372036854775807) ∧ (-9223372036854775808 ≤ c ∧ c ≤ 9223372036854775807)) :
    Calls Try.prog 5 #[.agg (vC v), .slice A n cp, .agg (dC s c)] w fun e w' => e = .returned (.bool true) ∧ Below w.heap.size w w' := dots_list v hv.1 hv.2 A n cp l s c w hr
end Go.Proofs.Ytfifbjlmbdgmjaa
