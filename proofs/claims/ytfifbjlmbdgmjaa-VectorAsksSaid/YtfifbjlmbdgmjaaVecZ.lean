/- The law VectorAsks, walked. -/
import Derived.Test.YtfifbjlmbdgmjaaVecGm
import Derived.Test.YtfifbjlmbdgmjaaVecGn
namespace Go.Proofs.Ytfifbjlmbdgmjaa
open Go.RowKit

theorem addV_length (v : List Nat) (hv : v.length = 16) (s c : Int) : (addV v s c).length = 16 := by
  unfold addV
  split
  · simpa using hv
  · rfl
set_option maxRecDepth 20000 in
set_option maxHeartbeats 8000000 in
theorem asks_list (a b : List Nat) (oka : VecOK a) (okb : VecOK b) (A : Option Addr) (n cp : Nat) (L : List (List Nat)) (s c site : Int) (w : World) (hr : VecRow w A n cp L) :
    Calls Try.prog 6 #[.agg (vC a), .agg (vC b), .slice A n cp, .agg (dC s c), .int .i64 site] w fun e w' => e = .returned (.bool true) ∧ Below w.heap.size w w' := by
  obtain ⟨ha, sa⟩ := oka
  obtain ⟨hb, sb⟩ := okb
  obtain ⟨hln, hcap, hmax, hok, LR⟩ := hr
  have hLv : ∀ v ∈ L, v.length = 16 := fun v hv => (hok v hv).1
  clear hok
  obtain ⟨Z, hz0, hZs⟩ : ∃ Z : Array Value, (Try.prog.info? 24).bind (fun i => i.zero.map Value.cells) = some Z ∧ Z.size = 16 := ⟨vC z16, zero_vec, by rw [vC_size]; rfl⟩
  have hup : ∀ (w0 W : World) g o, Below w0.heap.size w0 W → w0.heap[g]? = some o → W.heap[g]? = some o := fun w0 W g o h hg => (h.block _ (lt_of_get hg)).trans hg
  have za := vec_size ha
  have zb := vec_size hb
  have zd : (Try.prog.info? 35).map (·.size) = some (dC s c).size := size_dot
  obtain ⟨w1, hw1⟩ : ∃ w1, w1 = ((w.alloc (.cells (vC a) 24)).alloc (.cells (vC b) 24)).alloc (.cells (dC s c) 35) := ⟨_, rfl⟩
  obtain ⟨g5, g6, g8, hb0⟩ : w1.heap[w.heap.size]? = some (.cells (vC a) 24 (0, 0)) ∧ w1.heap[w.heap.size + 1]? = some (.cells (vC b) 24 (0, 0)) ∧ w1.heap[w.heap.size + 1 + 1]? = some (.cells (dC s c) 35 (0, 0)) ∧ Below w.heap.size w w1 := by
    obtain ⟨w0, hw0⟩ : ∃ w0, w0 = (w.alloc (.cells (vC a) 24)).alloc (.cells (vC b) 24) := ⟨_, rfl⟩
    obtain ⟨k1, k2, k3⟩ := two_blocks _ _ _ w0 hw0
    rw [← hw0] at hw1
    have kb : Below w0.heap.size w0 w1 := by rw [hw1]; exact (Below.refl _ w0).alloc (Nat.le_refl _) _
    have ks : w0.heap.size = w.heap.size + 1 + 1 := by rw [hw0, World.size_alloc, World.size_alloc]
    refine ⟨hup _ _ _ _ kb k1, hup _ _ _ _ kb k2, ?_, below_then k3 kb (Nat.le_refl _)⟩
    rw [hw1, ← ks]
    exact heap_alloc_new _ _
  have qn := next_any a ha sa site
  have qr := rnext_any a ha sa site
  unfold dC at qn qr
  obtain ⟨p1, e1⟩ : ∃ p, nextS a site = p := ⟨_, rfl⟩
  obtain ⟨p2, e2⟩ : ∃ p, nextC a site = p := ⟨_, rfl⟩
  obtain ⟨x1, e3⟩ : ∃ p, nextE a site = p := ⟨_, rfl⟩
  rw [e1, e2, e3] at qn qr
  have qa := add_any a ha sa s c
  have qb := radd_any a ha sa s c
  have hNl := addV_length a ha s c
  obtain ⟨N, e4⟩ : ∃ p, addV a s c = p := ⟨_, rfl⟩
  obtain ⟨x2, e5⟩ : ∃ p, addE a s c = p := ⟨_, rfl⟩
  rw [e4, e5] at qa qb
  rw [e4] at hNl
  clear e1 e2 e3 e4 e5
  have zN := vec_size hNl
  have hNZ : (vC N).size = Z.size := by rw [vC_size, hNl, hZs]
  have hN1 := vC_one N
  go_enter Try.func6, Try.ntmps6
  by_cases h20 : 20 < n
  · go_wp2_with fail
    rw [show (((w.alloc (.cells (vC a) 24)).alloc (.cells (vC b) 24)).alloc (.cells (dC s c) 35)) = w1 from hw1.symm]
    go_ret
    exact ⟨rfl, hb0⟩
  have g5' := g5
  rw [hw1] at g5'
  go_wp2_with (first
    | (with_reducible refine wpList_load_row rfl 24 (.tmp 5) rfl _ rfl 24 (vC a) _ _ g5' Try.underlying24 rfl za ?_)
    | fail)
  rw [← hw1]
  clear hw1 g5'
  refine (qn w1).mono ?_
  clear qn
  rintro e w2 ⟨rfl, h2⟩
  replace g5 := hup _ _ _ _ h2 g5
  replace g6 := hup _ _ _ _ h2 g6
  replace g8 := hup _ _ _ _ h2 g8
  replace hb0 := below_then hb0 h2 (Nat.le_refl _)
  clear h2
  have g11 : (w2.alloc (.cells #[.int .i64 p1, .int .i64 p2] 35)).heap[w2.heap.size]? = some (.cells (dC p1 p2) 35 (0, 0)) := heap_alloc_new _ _
  have h3 : Below w2.heap.size w2 (w2.alloc (.cells #[.int .i64 p1, .int .i64 p2] 35)) := (Below.refl _ w2).alloc (Nat.le_refl _) _
  replace g5 := hup _ _ _ _ h3 g5
  replace g6 := hup _ _ _ _ h3 g6
  replace g8 := hup _ _ _ _ h3 g8
  replace hb0 := below_then hb0 h3 (Nat.le_refl _)
  clear h3
  go_wp2_with (first
    | (with_reducible refine wpList_load_row rfl 24 (.tmp 5) rfl _ rfl 24 (vC a) _ _ g5 Try.underlying24 rfl za ?_)
    | fail)
  refine (qr _).mono ?_
  clear qr
  rintro e w4 ⟨rfl, h4⟩
  replace g5 := hup _ _ _ _ h4 g5
  replace g6 := hup _ _ _ _ h4 g6
  replace g8 := hup _ _ _ _ h4 g8
  replace g11 := hup _ _ _ _ h4 g11
  replace hb0 := below_then hb0 h4 (Nat.le_refl _)
  clear h4
  have g13 : (w4.alloc (.cells #[.int .i64 p1, .int .i64 p2] 35)).heap[w4.heap.size]? = some (.cells (dC p1 p2) 35 (0, 0)) := heap_alloc_new _ _
  have h5 : Below w4.heap.size w4 (w4.alloc (.cells #[.int .i64 p1, .int .i64 p2] 35)) := (Below.refl _ w4).alloc (Nat.le_refl _) _
  replace g5 := hup _ _ _ _ h5 g5
  replace g6 := hup _ _ _ _ h5 g6
  replace g8 := hup _ _ _ _ h5 g8
  replace g11 := hup _ _ _ _ h5 g11
  replace hb0 := below_then hb0 h5 (Nat.le_refl _)
  clear h5
  go_wp2_with (first
    | (with_reducible refine wpList_load_row rfl 24 (.tmp 5) rfl _ rfl 24 (vC a) _ _ g5 Try.underlying24 rfl za ?_)
    | (with_reducible refine wpList_load_row rfl 35 (.tmp 8) rfl _ rfl 35 (dC s c) _ _ g8 Try.underlying35 rfl zd ?_)
    | fail)
  refine (qa _).mono ?_
  clear qa
  rintro e w6 ⟨rfl, h6⟩
  replace g5 := hup _ _ _ _ h6 g5
  replace g6 := hup _ _ _ _ h6 g6
  replace g8 := hup _ _ _ _ h6 g8
  replace g11 := hup _ _ _ _ h6 g11
  replace g13 := hup _ _ _ _ h6 g13
  replace hb0 := below_then hb0 h6 (Nat.le_refl _)
  clear h6
  have q15 : (w6.alloc (.cells Z 24)).heap[w6.heap.size]? = some (.cells Z 24 (0, 0)) := heap_alloc_new _ _
  have h7 : Below w6.heap.size w6 ((w6.alloc (.cells Z 24)).setRow w6.heap.size (vC N)) := below_setRow ((Below.refl _ w6).alloc (Nat.le_refl _) _) (Nat.le_refl _) _
  have g15 := setRow_heap _ w6.heap.size Z (vC N) _ _ q15
  replace g5 := hup _ _ _ _ h7 g5
  replace g6 := hup _ _ _ _ h7 g6
  replace g8 := hup _ _ _ _ h7 g8
  replace g11 := hup _ _ _ _ h7 g11
  replace g13 := hup _ _ _ _ h7 g13
  replace hb0 := below_then hb0 h7 (Nat.le_refl _)
  clear h7
  go_wp2_with (first
    | (with_reducible refine wpList_load_row rfl 24 (.tmp 5) rfl _ rfl 24 (vC a) _ _ g5 Try.underlying24 rfl za ?_)
    | (with_reducible refine wpList_load_row rfl 35 (.tmp 8) rfl _ rfl 35 (dC s c) _ _ g8 Try.underlying35 rfl zd ?_)
    | (with_reducible refine wpList_alloc_z rfl 24 rfl Z hz0 ?_)
    | (with_reducible refine wpList_store_z rfl 24 (.tmp 15) (.tmp 42) rfl _ rfl (vC N) rfl Z _ q15 hNZ zN hN1 ?_)
    | fail)
  refine (qb _).mono ?_
  clear qb q15
  rintro e w8 ⟨rfl, h8⟩
  replace g5 := hup _ _ _ _ h8 g5
  replace g6 := hup _ _ _ _ h8 g6
  replace g8 := hup _ _ _ _ h8 g8
  replace g11 := hup _ _ _ _ h8 g11
  replace g13 := hup _ _ _ _ h8 g13
  replace g15 := hup _ _ _ _ h8 g15
  replace hb0 := below_then hb0 h8 (Nat.le_refl _)
  clear h8
  have l5 := lt_of_get g5
  have l6 := lt_of_get g6
  have l8 := lt_of_get g8
  have l11 := lt_of_get g11
  have l13 := lt_of_get g13
  have l15 := lt_of_get g15
  have q17 : (w8.alloc (.cells Z 24)).heap[w8.heap.size]? = some (.cells Z 24 (0, 0)) := heap_alloc_new _ _
  have h9 : Below w8.heap.size w8 ((w8.alloc (.cells Z 24)).setRow w8.heap.size (vC N)) := below_setRow ((Below.refl _ w8).alloc (Nat.le_refl _) _) (Nat.le_refl _) _
  have g17 := setRow_heap _ w8.heap.size Z (vC N) _ _ q17
  replace g5 := hup _ _ _ _ h9 g5
  replace g6 := hup _ _ _ _ h9 g6
  replace g8 := hup _ _ _ _ h9 g8
  replace g11 := hup _ _ _ _ h9 g11
  replace g13 := hup _ _ _ _ h9 g13
  replace g15 := hup _ _ _ _ h9 g15
  replace hb0 := below_then hb0 h9 (Nat.le_refl _)
  clear h9
  obtain ⟨w9, hw9⟩ : ∃ w9, w9 = ((w8.alloc (.cells Z 24)).setRow w8.heap.size (vC N)).alloc (.cells #[] 24) := ⟨_, rfl⟩
  have hs9 : ((w8.alloc (.cells Z 24)).setRow w8.heap.size (vC N)).heap.size = w8.heap.size + 1 := by simp [World.setRow]
  have h10 : Below ((w8.alloc (.cells Z 24)).setRow w8.heap.size (vC N)).heap.size ((w8.alloc (.cells Z 24)).setRow w8.heap.size (vC N)) w9 := by rw [hw9]; exact (Below.refl _ _).alloc (Nat.le_refl _) _
  have own0 : w9.ownsRow (w8.heap.size + 1) 24 16 (.slice (some ⟨w8.heap.size + 1, 0, none⟩) 0 0) 0 [] := by
    refine ⟨rfl, .inr ⟨w8.heap.size + 1, 0, #[], rfl, Nat.le_refl _, ?_, Nat.le_refl _, by unfold maxLen; omega, rfl, rfl⟩⟩
    rw [hw9, ← hs9]
    exact heap_alloc_new _ _
  have hz9 : w8.heap.size + 1 ≤ w9.heap.size := by rw [← hs9]; exact h10.size
  replace g5 := hup _ _ _ _ h10 g5
  replace g6 := hup _ _ _ _ h10 g6
  replace g8 := hup _ _ _ _ h10 g8
  replace g11 := hup _ _ _ _ h10 g11
  replace g13 := hup _ _ _ _ h10 g13
  replace g15 := hup _ _ _ _ h10 g15
  replace g17 := hup _ _ _ _ h10 g17
  replace hb0 := below_then hb0 h10 (Nat.le_refl _)
  clear h10
  have LRw := LR.below hb0
  have hvl := vecs_length L hLv
  have a1 : (vecs L).length = n * 16 := by rw [hvl, hln, Nat.mul_comm]
  have a2 : 0 + n ≤ maxLen := by unfold maxLen; omega
  have a3 : (0 + n) * 64 ≤ 140737488355328 := by omega
  rw [hw9] at own0 LRw hz9
  have own1 := own0
  rw [show (Value.slice (some ⟨w8.heap.size + 1, 0, none⟩) 0 0) = .slice (some ⟨((w8.alloc (.cells Z 24)).setRow w8.heap.size (vC N)).heap.size, 0, none⟩) 0 0 from by rw [hs9]] at own1
  go_wp2_with (first
    | (with_reducible refine wpList_alloc_z rfl 24 rfl Z hz0 ?_)
    | (with_reducible refine wpList_store_z rfl 24 (.tmp 17) (.tmp 48) rfl _ rfl (vC N) rfl Z _ q17 hNZ zN hN1 ?_)
    | (at_builtin; refine wpList_app elt_vec rfl (.tmp 50) (.tmp 51) rfl (w8.heap.size + 1) _ 0 [] rfl own0 A n cp (vecs L) rfl a1 LRw (vecs_one L) a2 a3 hz9 ?_; intro v' w10 ho hgr)
    | (at_builtin; refine wpList_app elt_vec rfl (.tmp 50) (.tmp 51) rfl (w8.heap.size + 1) _ 0 [] rfl own1 A n cp (vecs L) rfl a1 LRw (vecs_one L) a2 a3 hz9 ?_; intro v' w10 ho hgr)
    | fail)
  rw [← hw9] at own0 hgr hz9
  have hbg := below_grown (Below.refl (w8.heap.size + 1) w9) own0 hgr hz9 (Nat.le_refl _)
  replace hb0 : Below w.heap.size w w10 := hb0.trans (hbg.mono (by omega))
  clear hgr own1 LRw a1 a2 a3 hvl hs9 hw9 q17 own0
  replace g5 := (hbg.block _ (by omega)).trans g5
  replace g6 := (hbg.block _ (by omega)).trans g6
  replace g8 := (hbg.block _ (by omega)).trans g8
  replace g11 := (hbg.block _ (by omega)).trans g11
  replace g13 := (hbg.block _ (by omega)).trans g13
  replace g15 := (hbg.block _ (by omega)).trans g15
  replace g17 := (hbg.block _ (by omega)).trans g17
  clear hbg hz9
  simp only [Nat.zero_add, List.nil_append] at ho
  obtain ⟨Ao, co, rfl, hco1, hco2, LO, _⟩ := RdC.of_own ho
  clear ho
  obtain ⟨mg, e6⟩ : ∃ m, foldK max L n = m := ⟨_, rfl⟩
  obtain ⟨mt, e7⟩ : ∃ m, foldK min L n = m := ⟨_, rfl⟩
  have hmg := foldK_length max L hLv n (by omega)
  have hmt := foldK_length min L hLv n (by omega)
  have qm := merge_row Ao n co L hln hLv (by omega) w10 LO
  have qt := fun W h => meet_row Ao n co L hln hLv (by omega) W h
  rw [e6] at hmg qm
  rw [e7] at hmt
  simp only [e7] at qt
  have zg := vec_size hmg
  have zt := vec_size hmt
  have hgZ : (vC mg).size = Z.size := by rw [vC_size, hmg, hZs]
  have htZ : (vC mt).size = Z.size := by rw [vC_size, hmt, hZs]
  have hg1 := vC_one mg
  have ht1 := vC_one mt
  have E6 := Lib.hid e6
  have E7 := Lib.hid e7
  clear e6 e7
  refine qm.mono ?_
  clear qm
  rintro e w11 ⟨rfl, h11⟩
  replace LO := LO.below h11
  replace g5 := hup _ _ _ _ h11 g5
  replace g6 := hup _ _ _ _ h11 g6
  replace g8 := hup _ _ _ _ h11 g8
  replace g11 := hup _ _ _ _ h11 g11
  replace g13 := hup _ _ _ _ h11 g13
  replace g15 := hup _ _ _ _ h11 g15
  replace g17 := hup _ _ _ _ h11 g17
  replace hb0 := below_then hb0 h11 (Nat.le_refl _)
  clear h11
  go_wp2_with fail
  refine (qt w11 LO).mono ?_
  clear qt
  rintro e w12 ⟨rfl, h12⟩
  replace LO := LO.below h12
  replace g5 := hup _ _ _ _ h12 g5
  replace g6 := hup _ _ _ _ h12 g6
  replace g8 := hup _ _ _ _ h12 g8
  replace g11 := hup _ _ _ _ h12 g11
  replace g13 := hup _ _ _ _ h12 g13
  replace g15 := hup _ _ _ _ h12 g15
  replace g17 := hup _ _ _ _ h12 g17
  replace hb0 := below_then hb0 h12 (Nat.le_refl _)
  clear h12
  have k20 : ((w12.alloc (.cells Z 24)).alloc (.cells Z 24)).heap[w12.heap.size]? = some (.cells Z 24 (0, 0)) := heap_alloc2_old _ _ _
  have k21 : ((w12.alloc (.cells Z 24)).alloc (.cells Z 24)).heap[w12.heap.size + 1]? = some (.cells Z 24 (0, 0)) := heap_alloc2_new _ _ _
  have hk : Below w12.heap.size w12 ((w12.alloc (.cells Z 24)).alloc (.cells Z 24)) := ((Below.refl _ w12).alloc (Nat.le_refl _) _).alloc (by simp) _
  have hss : (w12.alloc (.cells Z 24)).heap.size = w12.heap.size + 1 := World.size_alloc _ _
  have k22 := (setRow_other ((w12.alloc (.cells Z 24)).alloc (.cells Z 24)) w12.heap.size (w12.heap.size + 1) (vC mg) (by omega)).trans k21
  have k22' := k22
  rw [← hss] at k22'
  have k23 := setRow_heap _ w12.heap.size Z (vC mg) _ _ k20
  have g21 := setRow_heap _ (w12.heap.size + 1) Z (vC mt) _ _ k22
  have g20 := (setRow_other (((w12.alloc (.cells Z 24)).alloc (.cells Z 24)).setRow w12.heap.size (vC mg)) (w12.heap.size + 1) w12.heap.size (vC mt) (by omega)).trans k23
  have h13 := below_setRow (below_setRow hk (Nat.le_refl _) (vC mg)) (show w12.heap.size ≤ w12.heap.size + 1 by omega) (vC mt)
  clear k21 k22 k23 hk
  replace LO := LO.below h13
  replace g5 := hup _ _ _ _ h13 g5
  replace g6 := hup _ _ _ _ h13 g6
  replace g8 := hup _ _ _ _ h13 g8
  replace g11 := hup _ _ _ _ h13 g11
  replace g13 := hup _ _ _ _ h13 g13
  replace g15 := hup _ _ _ _ h13 g15
  replace g17 := hup _ _ _ _ h13 g17
  replace hb0 := below_then hb0 h13 (Nat.le_refl _)
  clear h13
  go_wp2_with (first
    | (with_reducible refine wpList_alloc_z rfl 24 rfl Z hz0 ?_)
    | (with_reducible refine wpList_store_z rfl 24 (.tmp 20) (.tmp 54) rfl _ rfl (vC mg) rfl Z _ k20 hgZ zg hg1 ?_)
    | (with_reducible refine wpList_store_z rfl 24 (.tmp 21) (.tmp 56) rfl _ rfl (vC mt) rfl Z _ k22' htZ zt ht1 ?_)
    | fail)
  obtain ⟨w13, hw13⟩ : ∃ w13, w13 = (((w12.alloc (.cells Z 24)).alloc (.cells Z 24)).setRow w12.heap.size (vC mg)).setRow (w12.heap.size + 1) (vC mt) := ⟨_, rfl⟩
  rw [← hw13] at g5 g6 g8 g11 g13 g15 g17 g20 g21 LO hb0 ⊢
  clear hw13 k20 k22' hss
  go_loopw [59] (fun i wr => ∃ k : Nat, k ≤ n ∧ i = .int .i64 k ∧ Below w13.heap.size w13 wr) (fun i _ => n - (intOf i).toNat)
  case atStart => exact ⟨0, by omega, rfl, Below.refl _ _⟩
  case round =>
    obtain ⟨k, hk, rfl, hbr⟩ := hrel
    by_cases hlt : k < n
    · have hkL : k < L.length := by omega
      obtain ⟨v, hvk⟩ : ∃ v, v = L[k] := ⟨_, rfl⟩
      have hvl : v.length = 16 := by rw [hvk]; exact hLv _ (List.getElem_mem _)
      obtain ⟨al, rfl, hx0⟩ := LR (k * 16 + 0) _ (vecs_get L hLv k 0 hkL (by omega) (by rw [← hvk]; omega))
      obtain ⟨ao, rfl, hx1⟩ := LO (k * 16 + 0) _ (vecs_get L hLv k 0 hkL (by omega) (by rw [← hvk]; omega))
      have hbw := below_then hb0 hbr (Nat.le_refl _)
      have cL : ∀ j (hj : j < v.length), wr.cell? ((al.add (k * 16)).add j) = some (.int .u32 (v[j] : Int)) := fun j hj => by
        subst hvk
        obtain ⟨_, e, h⟩ := LR (k * 16 + j) _ (vecs_get L hLv k j hkL (by omega) hj)
        cases e
        rw [addr_add_add]
        exact (hbw.cell (World.block_lt_of_cell? w _ h)).trans h
      have cO : ∀ j (hj : j < v.length), wr.cell? ((ao.add (k * 16)).add j) = some (.int .u32 (v[j] : Int)) := fun j hj => by
        subst hvk
        obtain ⟨_, e, h⟩ := LO (k * 16 + j) _ (vecs_get L hLv k j hkL (by omega) hj)
        cases e
        rw [addr_add_add]
        exact (hbr.cell (World.block_lt_of_cell? w13 _ h)).trans h
      clear hx0 hx1 hvk
      go_wp2_with fail
      refine asks12 v ao al n co cp k wr hvl (by omega) (by omega) (fun W h => load_vec W _ v hvl fun j hj => (h.cell (World.block_lt_of_cell? wr _ (cO j hj))).trans (cO j hj)) (fun W h => load_vec W _ v hvl fun j hj => (h.cell (World.block_lt_of_cell? wr _ (cL j hj))).trans (cL j hj)) fun wy hy => ?_
      go_wp2_with fail
      go_roundw
      case rel => exact ⟨k + 1, by omega, by go_num, below_then hbr hy (Nat.le_refl _)⟩
      case measure => simp [intOf]; omega
    · obtain rfl : k = n := by omega
      have hbw := below_then hb0 hbr (Nat.le_refl _)
      replace g5 := hup _ _ _ _ hbr g5
      replace g6 := hup _ _ _ _ hbr g6
      replace g8 := hup _ _ _ _ hbr g8
      replace g11 := hup _ _ _ _ hbr g11
      replace g13 := hup _ _ _ _ hbr g13
      replace g15 := hup _ _ _ _ hbr g15
      replace g17 := hup _ _ _ _ hbr g17
      replace g20 := hup _ _ _ _ hbr g20
      replace g21 := hup _ _ _ _ hbr g21
      go_wp2_with fail
      refine asks15 a b N mg mt L A k cp s c p1 p2 x1 x2 (cmpV a b) w.heap.size (w.heap.size + 1) (w.heap.size + 1 + 1) w2.heap.size w4.heap.size w6.heap.size w8.heap.size w12.heap.size (w12.heap.size + 1) (lackV a b) (hasV a s c) (decide (maxV a b = b)) wr ha hb hNl hmg hmt sa sb hln hLv (by omega)
        (fun W h => LR.below (below_then hbw h (Nat.le_refl _))) E6.out E7.out rfl rfl rfl rfl (fun W h => hup _ W _ _ h g5) (fun W h => hup _ W _ _ h g6) (fun W h => hup _ W _ _ h g15) (fun W h => hup _ W _ _ h g17) (fun W h => hup _ W _ _ h g20) (fun W h => hup _ W _ _ h g21) (fun W h => hup _ W _ _ h g8) (fun W h => hup _ W _ _ h g11) (fun W h => hup _ W _ _ h g13) fun wz => ?_
      intros
      rename_i hz
      go_wp2_with fail
      go_ret
      exact ⟨rfl, below_then hbw hz (Nat.le_refl _)⟩
theorem vectorAsks_walk (a b : List Nat) (A : Option Addr) (n cp : Nat) (L : List (List Nat)) (s c site : Int) (w : World) (ha : VecOK a) (hb : VecOK b) (hr : VecRow w A n cp L) (_ : (-9223372036854775808 ≤ s ∧ s ≤ 9223372036854775807) ∧ (-9223372036854775808 ≤ c ∧ c ≤ 9223372036854775807)) (_ : -9223372036854775808 ≤ site ∧ site ≤ 9223372036854775807) :
    Calls Try.prog 6 #[.agg (vC a), .agg (vC b), .slice A n cp, .agg (dC s c), .int .i64 site] w fun e w' => e = .returned (.bool true) ∧ Below w.heap.size w w' := asks_list a b ha hb A n cp L s c site w hr
end Go.Proofs.Ytfifbjlmbdgmjaa
