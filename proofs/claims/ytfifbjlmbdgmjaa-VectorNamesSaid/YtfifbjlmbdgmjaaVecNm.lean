/- The law VectorNames, walked (printed by gen_vecnames.py). -/
import Derived.Test.YtfifbjlmbdgmjaaVecGn

namespace Go.Proofs.Ytfifbjlmbdgmjaa
open Go.RowKit
attribute [local go_sem] Oper.semAt_some

set_option maxRecDepth 200000 in
set_option maxHeartbeats 64000000 in
theorem vectorNames_walk (w : World) : Calls Try.prog 9 #[] w fun e w' => e = .returned (.bool true) ∧ Below w.heap.size w w' := by
  obtain ⟨Z, hz0, hZs, hZ1, HZ⟩ : ∃ Z : Array Value, (Try.prog.info? 24).bind (fun i => i.zero.map Value.cells) = some Z ∧ Z.size = 16 ∧ (∀ u ∈ Z.toList, u.oneCell' = true) ∧ Hid (vC z16 = Z) := ⟨vC z16, zero_vec, by rw [vC_size]; rfl, vC_one z16, rfl⟩
  have E0 := fun W => run_eq_vec W (padV []) (padV []) rfl rfl
  simp only [decide_true] at E0
  go_enter Try.func9, Try.ntmps9
  have hb0 := Below.refl w.heap.size w
  go_wp2_with fail
  refine (of_any _ 3 3 [2, 0, 1] rfl (by omega) _ (rd_u32 [2, 0, 1] (heap_alloc_new _ _))).mono ?_
  rintro e w1 ⟨rfl, h1⟩
  have hs1 : Below w.heap.size w w1 := below_then (below_al (Below.refl w.heap.size w) _) h1 (Nat.le_refl _)
  have hb1 := below_then hb0 hs1 (Nat.le_refl _)
  clear h1 hs1 hb0
  go_wp2_with fail
  refine (encode_any (padV [2, 0, 1]) rfl (by unfold small; decide) _).mono ?_
  rintro e w2 ⟨r2, rfl, hn2⟩
  obtain ⟨A2, c2, rfl, _, _, hr2, _⟩ := RdC.of_own hn2.1
  have hs2 : Below w1.heap.size w1 w2 := hn2.2
  have hb2 := below_then hb1 hs2 (Nat.le_refl _)
  have st := str_rd (c := c2) (n := 4) hr2 (by rw [enc_a]; rfl)
  rw [enc_a, (show bstr [3, 2, 0, 1] = ⟨#[3, 2, 0, 1]⟩ from rfl)] at st
  rw [enc_a]
  clear hs2 hn2 hr2 hb1
  go_wp2_with fail
  refine (of_any none 0 0 [] rfl (by omega) _ (RdC.nil _ _)).mono ?_
  rintro e w3 ⟨rfl, h3⟩
  have hs3 : Below w2.heap.size w2 w3 := below_then (Below.refl w2.heap.size w2) h3 (Nat.le_refl _)
  have hb3 := below_then hb2 hs3 (Nat.le_refl _)
  clear h3 hs3 hb2
  clear st
  go_wp2_with fail
  refine (encode_any (padV []) rfl (by unfold small; decide) _).mono ?_
  rintro e w4 ⟨r4, rfl, hn4⟩
  obtain ⟨A4, c4, rfl, _, _, hr4, _⟩ := RdC.of_own hn4.1
  have hs4 : Below w3.heap.size w3 w4 := hn4.2
  have hb4 := below_then hb3 hs4 (Nat.le_refl _)
  have st := str_rd (c := c4) (n := 1) hr4 (by rw [enc_b]; rfl)
  rw [enc_b, (show bstr [0] = ⟨#[0]⟩ from rfl)] at st
  rw [enc_b]
  clear hs4 hn4 hr4 hb3
  go_wp2_with fail
  refine (of_any _ 2 2 [0, 300] rfl (by omega) _ (rd_u32 [0, 300] (heap_alloc_new _ _))).mono ?_
  rintro e w5 ⟨rfl, h5⟩
  have hs5 : Below w4.heap.size w4 w5 := below_then (below_al (Below.refl w4.heap.size w4) _) h5 (Nat.le_refl _)
  have hb5 := below_then hb4 hs5 (Nat.le_refl _)
  clear h5 hs5 hb4
  clear st
  go_wp2_with fail
  refine (encode_any (padV [0, 300]) rfl (by unfold small; decide) _).mono ?_
  rintro e w6 ⟨r6, rfl, hn6⟩
  obtain ⟨A6, c6, rfl, _, _, hr6, _⟩ := RdC.of_own hn6.1
  have hs6 : Below w5.heap.size w5 w6 := hn6.2
  have hb6 := below_then hb5 hs6 (Nat.le_refl _)
  have st := str_rd (c := c6) (n := 4) hr6 (by rw [enc_c]; rfl)
  rw [enc_c, (show bstr [2, 0, 172, 2] = ⟨#[2, 0, 172, 2]⟩ from rfl)] at st
  rw [enc_c]
  clear hs6 hn6 hr6 hb5
  go_upto_region 2 with fail
  clear st
  go_wp2_with fail
  refine (of_any _ 1 1 [5] rfl (by omega) _ (rd_u32 [5] (heap_alloc_new _ _))).mono ?_
  rintro e w7 ⟨rfl, h7⟩
  have hs7 : Below w6.heap.size w6 w7 := below_then (below_al (Below.refl w6.heap.size w6) _) h7 (Nat.le_refl _)
  have hb7 := below_then hb6 hs7 (Nat.le_refl _)
  clear h7 hs7 hb6
  go_wp2_with fail
  have q := next_any (padV [5]) rfl (by unfold small; decide) (0) w7
  rw [(by decide +kernel : nextS (padV [5]) (0) = 0)] at q
  rw [(by decide +kernel : nextC (padV [5]) (0) = 6)] at q
  rw [(by decide +kernel : nextE (padV [5]) (0) = 0)] at q
  try unfold dC at q
  refine q.mono ?_
  clear q
  rintro e w8 ⟨rfl, h8⟩
  have hs8 : Below w7.heap.size w7 w8 := below_then (Below.refl w7.heap.size w7) h8 (Nat.le_refl _)
  have hb8 := below_then hb7 hs8 (Nat.le_refl _)
  clear h8 hs8 hb7
  go_upto_region 3 with fail
  obtain ⟨w9, hw9⟩ : ∃ w9, w9 = w8.alloc (.cells #[.int .i64 0, .int .i64 6] 35) := ⟨_, rfl⟩
  rw [← hw9]
  have hs9 : Below w8.heap.size w8 w9 := by rw [hw9]; exact (Below.refl _ _).alloc (Nat.le_refl _) _
  have HB2 : w9.heap[w8.heap.size]? = some (.cells #[.int .i64 0, .int .i64 6] 35 (0, 0)) := by rw [hw9]; exact heap_alloc_new _ _
  have hb9 := below_then hb8 hs9 (Nat.le_refl _)
  clear hs9 hw9 hb8
  have hbB29 := Below.refl w9.heap.size w9
  go_wp2_with fail
  refine (of_any _ 1 1 [4294967295] rfl (by omega) _ (rd_u32 [4294967295] (heap_alloc_new _ _))).mono ?_
  rintro e w10 ⟨rfl, h10⟩
  have hs10 : Below w9.heap.size w9 w10 := below_then (below_al (Below.refl w9.heap.size w9) _) h10 (Nat.le_refl _)
  have hb10 := below_then hb9 hs10 (Nat.le_refl _)
  have hbB210 := below_then hbB29 hs10 (Nat.le_refl _)
  clear h10 hs10 hb9 hbB29
  go_wp2_with fail
  have q := next_any (padV [4294967295]) rfl (by unfold small; decide) (0) w10
  rw [(by decide +kernel : nextS (padV [4294967295]) (0) = 0)] at q
  rw [(by decide +kernel : nextC (padV [4294967295]) (0) = 0)] at q
  rw [(by decide +kernel : nextE (padV [4294967295]) (0) = 60)] at q
  try unfold dC at q
  refine q.mono ?_
  clear q
  rintro e w11 ⟨rfl, h11⟩
  have hs11 : Below w10.heap.size w10 w11 := below_then (Below.refl w10.heap.size w10) h11 (Nat.le_refl _)
  have hb11 := below_then hb10 hs11 (Nat.le_refl _)
  have hbB211 := below_then hbB210 hs11 (Nat.le_refl _)
  clear h11 hs11 hb10 hbB210
  go_upto_region 4 with fail
  obtain ⟨w12, hw12⟩ : ∃ w12, w12 = w11.alloc (.cells #[.int .i64 0, .int .i64 0] 35) := ⟨_, rfl⟩
  rw [← hw12]
  have hs12 : Below w11.heap.size w11 w12 := by rw [hw12]; exact (Below.refl _ _).alloc (Nat.le_refl _) _
  have hb12 := below_then hb11 hs12 (Nat.le_refl _)
  have hbB212 := below_then hbB211 hs12 (Nat.le_refl _)
  clear hs12 hw12 hb11 hbB211
  go_wp2_with fail
  refine (of_any none 0 0 [] rfl (by omega) _ (RdC.nil _ _)).mono ?_
  rintro e w13 ⟨rfl, h13⟩
  have hs13 : Below w12.heap.size w12 w13 := below_then (Below.refl w12.heap.size w12) h13 (Nat.le_refl _)
  have hb13 := below_then hb12 hs13 (Nat.le_refl _)
  have hbB213 := below_then hbB212 hs13 (Nat.le_refl _)
  clear h13 hs13 hb12 hbB212
  go_wp2_with fail
  have q := next_any (padV []) rfl (by unfold small; decide) (16) w13
  rw [(by decide +kernel : nextS (padV []) (16) = 0)] at q
  rw [(by decide +kernel : nextC (padV []) (16) = 0)] at q
  rw [(by decide +kernel : nextE (padV []) (16) = 50)] at q
  try unfold dC at q
  refine q.mono ?_
  clear q
  rintro e w14 ⟨rfl, h14⟩
  have hs14 : Below w13.heap.size w13 w14 := below_then (Below.refl w13.heap.size w13) h14 (Nat.le_refl _)
  have hb14 := below_then hb13 hs14 (Nat.le_refl _)
  have hbB214 := below_then hbB213 hs14 (Nat.le_refl _)
  clear h14 hs14 hb13 hbB213
  go_upto_region 5 with fail
  obtain ⟨w15, hw15⟩ : ∃ w15, w15 = w14.alloc (.cells #[.int .i64 0, .int .i64 0] 35) := ⟨_, rfl⟩
  rw [← hw15]
  have hs15 : Below w14.heap.size w14 w15 := by rw [hw15]; exact (Below.refl _ _).alloc (Nat.le_refl _) _
  have hb15 := below_then hb14 hs15 (Nat.le_refl _)
  have hbB215 := below_then hbB214 hs15 (Nat.le_refl _)
  clear hs15 hw15 hb14 hbB214
  go_wp2_with fail
  refine (of_any none 0 0 [] rfl (by omega) _ (RdC.nil _ _)).mono ?_
  rintro e w16 ⟨rfl, h16⟩
  have hs16 : Below w15.heap.size w15 w16 := below_then (Below.refl w15.heap.size w15) h16 (Nat.le_refl _)
  have hb16 := below_then hb15 hs16 (Nat.le_refl _)
  have hbB216 := below_then hbB215 hs16 (Nat.le_refl _)
  clear h16 hs16 hb15 hbB215
  go_wp2_with fail
  have q := next_any (padV []) rfl (by unfold small; decide) (-1) w16
  rw [(by decide +kernel : nextS (padV []) (-1) = 0)] at q
  rw [(by decide +kernel : nextC (padV []) (-1) = 0)] at q
  rw [(by decide +kernel : nextE (padV []) (-1) = 50)] at q
  try unfold dC at q
  refine q.mono ?_
  clear q
  rintro e w17 ⟨rfl, h17⟩
  have hs17 : Below w16.heap.size w16 w17 := below_then (Below.refl w16.heap.size w16) h17 (Nat.le_refl _)
  have hb17 := below_then hb16 hs17 (Nat.le_refl _)
  have hbB217 := below_then hbB216 hs17 (Nat.le_refl _)
  clear h17 hs17 hb16 hbB216
  go_upto_region 6 with fail
  obtain ⟨w18, hw18⟩ : ∃ w18, w18 = w17.alloc (.cells #[.int .i64 0, .int .i64 0] 35) := ⟨_, rfl⟩
  rw [← hw18]
  have hs18 : Below w17.heap.size w17 w18 := by rw [hw18]; exact (Below.refl _ _).alloc (Nat.le_refl _) _
  have hb18 := below_then hb17 hs18 (Nat.le_refl _)
  have hbB218 := below_then hbB217 hs18 (Nat.le_refl _)
  clear hs18 hw18 hb17 hbB217
  go_wp2_with fail
  refine (of_any _ 1 1 [5] rfl (by omega) _ (rd_u32 [5] (heap_alloc_new _ _))).mono ?_
  rintro e w19 ⟨rfl, h19⟩
  have hs19 : Below w18.heap.size w18 w19 := below_then (below_al (Below.refl w18.heap.size w18) _) h19 (Nat.le_refl _)
  have hb19 := below_then hb18 hs19 (Nat.le_refl _)
  have hbB219 := below_then hbB218 hs19 (Nat.le_refl _)
  clear h19 hs19 hb18 hbB218
  go_wp2_with fail
  have q := add_any (padV [5]) rfl (by unfold small; decide) 1 2 w19
  rw [(by decide +kernel : addV (padV [5]) 1 2 = (padV []))] at q
  rw [(by decide +kernel : addE (padV [5]) 1 2 = 61)] at q
  try unfold dC at q
  refine q.mono ?_
  clear q
  rintro e w20 ⟨rfl, h20⟩
  have hs20 : Below w19.heap.size w19 w20 := below_then (Below.refl w19.heap.size w19) h20 (Nat.le_refl _)
  have hb20 := below_then hb19 hs20 (Nat.le_refl _)
  have hbB220 := below_then hbB219 hs20 (Nat.le_refl _)
  clear h20 hs20 hb19 hbB219
  have zp := vec_size (show (padV []).length = 16 from rfl)
  have hzz : (vC (padV [])).size = Z.size := by rw [vC_size, hZs]; rfl
  go_upto_region 7 with (first
    | (with_reducible refine wpList_alloc_z rfl 24 rfl Z hz0 ?_)
    | (with_reducible refine wpList_store_z rfl 24 (.tmp 10) (.tmp 78) rfl _ rfl (vC (padV [])) rfl Z _ (heap_alloc_new _ _) hzz zp (vC_one _) ?_)
    | fail)
  clear zp hzz
  obtain ⟨w21, hw21⟩ : ∃ w21, w21 = (w20.alloc (.cells Z 24)).setRow w20.heap.size (vC (padV [])) := ⟨_, rfl⟩
  rw [← hw21]
  have hs21 : Below w20.heap.size w20 w21 := by rw [hw21]; exact below_setRow ((Below.refl _ _).alloc (Nat.le_refl _) _) (Nat.le_refl _) _
  have hb21 := below_then hb20 hs21 (Nat.le_refl _)
  have hbB221 := below_then hbB220 hs21 (Nat.le_refl _)
  clear hs21 hw21 hb20 hbB220
  go_wp2_with fail
  refine (of_any _ 1 1 [5] rfl (by omega) _ (rd_u32 [5] (heap_alloc_new _ _))).mono ?_
  rintro e w22 ⟨rfl, h22⟩
  have hs22 : Below w21.heap.size w21 w22 := below_then (below_al (Below.refl w21.heap.size w21) _) h22 (Nat.le_refl _)
  have hb22 := below_then hb21 hs22 (Nat.le_refl _)
  have hbB222 := below_then hbB221 hs22 (Nat.le_refl _)
  clear h22 hs22 hb21 hbB221
  go_wp2_with fail
  have q := add_any (padV [5]) rfl (by unfold small; decide) 1 1 w22
  rw [(by decide +kernel : addV (padV [5]) 1 1 = (padV [5, 1]))] at q
  rw [(by decide +kernel : addE (padV [5]) 1 1 = 0)] at q
  try unfold dC at q
  refine q.mono ?_
  clear q
  rintro e w23 ⟨rfl, h23⟩
  have hs23 : Below w22.heap.size w22 w23 := below_then (Below.refl w22.heap.size w22) h23 (Nat.le_refl _)
  have hb23 := below_then hb22 hs23 (Nat.le_refl _)
  have hbB223 := below_then hbB222 hs23 (Nat.le_refl _)
  clear h23 hs23 hb22 hbB222
  have zp := vec_size (show (padV [5, 1]).length = 16 from rfl)
  have hzz : (vC (padV [5, 1])).size = Z.size := by rw [vC_size, hZs]; rfl
  go_upto_region 8 with (first
    | (with_reducible refine wpList_alloc_z rfl 24 rfl Z hz0 ?_)
    | (with_reducible refine wpList_store_z rfl 24 (.tmp 12) (.tmp 85) rfl _ rfl (vC (padV [5, 1])) rfl Z _ (heap_alloc_new _ _) hzz zp (vC_one _) ?_)
    | fail)
  clear zp hzz
  obtain ⟨w24, hw24⟩ : ∃ w24, w24 = (w23.alloc (.cells Z 24)).setRow w23.heap.size (vC (padV [5, 1])) := ⟨_, rfl⟩
  rw [← hw24]
  have hs24 : Below w23.heap.size w23 w24 := by rw [hw24]; exact below_setRow ((Below.refl _ _).alloc (Nat.le_refl _) _) (Nat.le_refl _) _
  have HB12 : w24.heap[w23.heap.size]? = some (.cells (vC (padV [5, 1])) 24 (0, 0)) := by rw [hw24]; exact setRow_heap _ _ _ _ _ _ (heap_alloc_new _ _)
  have hb24 := below_then hb23 hs24 (Nat.le_refl _)
  have hbB224 := below_then hbB223 hs24 (Nat.le_refl _)
  clear hs24 hw24 hb23 hbB223
  have hbB1224 := Below.refl w24.heap.size w24
  go_wp2_with fail
  refine (of_any _ 1 1 [5] rfl (by omega) _ (rd_u32 [5] (heap_alloc_new _ _))).mono ?_
  rintro e w25 ⟨rfl, h25⟩
  have hs25 : Below w24.heap.size w24 w25 := below_then (below_al (Below.refl w24.heap.size w24) _) h25 (Nat.le_refl _)
  have hb25 := below_then hb24 hs25 (Nat.le_refl _)
  have hbB225 := below_then hbB224 hs25 (Nat.le_refl _)
  have hbB1225 := below_then hbB1224 hs25 (Nat.le_refl _)
  clear h25 hs25 hb24 hbB224 hbB1224
  go_wp2_with fail
  have q := add_any (padV [5]) rfl (by unfold small; decide) 0 5 w25
  rw [(by decide +kernel : addV (padV [5]) 0 5 = (padV []))] at q
  rw [(by decide +kernel : addE (padV [5]) 0 5 = 61)] at q
  try unfold dC at q
  refine q.mono ?_
  clear q
  rintro e w26 ⟨rfl, h26⟩
  have hs26 : Below w25.heap.size w25 w26 := below_then (Below.refl w25.heap.size w25) h26 (Nat.le_refl _)
  have hb26 := below_then hb25 hs26 (Nat.le_refl _)
  have hbB226 := below_then hbB225 hs26 (Nat.le_refl _)
  have hbB1226 := below_then hbB1225 hs26 (Nat.le_refl _)
  clear h26 hs26 hb25 hbB225 hbB1225
  have zp := vec_size (show (padV []).length = 16 from rfl)
  have hzz : (vC (padV [])).size = Z.size := by rw [vC_size, hZs]; rfl
  go_upto_region 9 with (first
    | (with_reducible refine wpList_alloc_z rfl 24 rfl Z hz0 ?_)
    | (with_reducible refine wpList_store_z rfl 24 (.tmp 14) (.tmp 92) rfl _ rfl (vC (padV [])) rfl Z _ (heap_alloc_new _ _) hzz zp (vC_one _) ?_)
    | fail)
  clear zp hzz
  obtain ⟨w27, hw27⟩ : ∃ w27, w27 = (w26.alloc (.cells Z 24)).setRow w26.heap.size (vC (padV [])) := ⟨_, rfl⟩
  rw [← hw27]
  have hs27 : Below w26.heap.size w26 w27 := by rw [hw27]; exact below_setRow ((Below.refl _ _).alloc (Nat.le_refl _) _) (Nat.le_refl _) _
  have hb27 := below_then hb26 hs27 (Nat.le_refl _)
  have hbB227 := below_then hbB226 hs27 (Nat.le_refl _)
  have hbB1227 := below_then hbB1226 hs27 (Nat.le_refl _)
  clear hs27 hw27 hb26 hbB226 hbB1226
  go_wp2_with fail
  refine (of_any _ 1 1 [4294967295] rfl (by omega) _ (rd_u32 [4294967295] (heap_alloc_new _ _))).mono ?_
  rintro e w28 ⟨rfl, h28⟩
  have hs28 : Below w27.heap.size w27 w28 := below_then (below_al (Below.refl w27.heap.size w27) _) h28 (Nat.le_refl _)
  have hb28 := below_then hb27 hs28 (Nat.le_refl _)
  have hbB228 := below_then hbB227 hs28 (Nat.le_refl _)
  have hbB1228 := below_then hbB1227 hs28 (Nat.le_refl _)
  clear h28 hs28 hb27 hbB227 hbB1227
  go_wp2_with fail
  have q := add_any (padV [4294967295]) rfl (by unfold small; decide) 0 4294967296 w28
  rw [(by decide +kernel : addV (padV [4294967295]) 0 4294967296 = (padV []))] at q
  rw [(by decide +kernel : addE (padV [4294967295]) 0 4294967296 = 50)] at q
  try unfold dC at q
  refine q.mono ?_
  clear q
  rintro e w29 ⟨rfl, h29⟩
  have hs29 : Below w28.heap.size w28 w29 := below_then (Below.refl w28.heap.size w28) h29 (Nat.le_refl _)
  have hb29 := below_then hb28 hs29 (Nat.le_refl _)
  have hbB229 := below_then hbB228 hs29 (Nat.le_refl _)
  have hbB1229 := below_then hbB1228 hs29 (Nat.le_refl _)
  clear h29 hs29 hb28 hbB228 hbB1228
  have zp := vec_size (show (padV []).length = 16 from rfl)
  have hzz : (vC (padV [])).size = Z.size := by rw [vC_size, hZs]; rfl
  go_upto_region 10 with (first
    | (with_reducible refine wpList_alloc_z rfl 24 rfl Z hz0 ?_)
    | (with_reducible refine wpList_store_z rfl 24 (.tmp 16) (.tmp 99) rfl _ rfl (vC (padV [])) rfl Z _ (heap_alloc_new _ _) hzz zp (vC_one _) ?_)
    | fail)
  clear zp hzz
  obtain ⟨w30, hw30⟩ : ∃ w30, w30 = (w29.alloc (.cells Z 24)).setRow w29.heap.size (vC (padV [])) := ⟨_, rfl⟩
  rw [← hw30]
  have hs30 : Below w29.heap.size w29 w30 := by rw [hw30]; exact below_setRow ((Below.refl _ _).alloc (Nat.le_refl _) _) (Nat.le_refl _) _
  have hb30 := below_then hb29 hs30 (Nat.le_refl _)
  have hbB230 := below_then hbB229 hs30 (Nat.le_refl _)
  have hbB1230 := below_then hbB1229 hs30 (Nat.le_refl _)
  clear hs30 hw30 hb29 hbB229 hbB1229
  go_wp2_with fail
  refine (of_any _ 1 1 [4294967294] rfl (by omega) _ (rd_u32 [4294967294] (heap_alloc_new _ _))).mono ?_
  rintro e w31 ⟨rfl, h31⟩
  have hs31 : Below w30.heap.size w30 w31 := below_then (below_al (Below.refl w30.heap.size w30) _) h31 (Nat.le_refl _)
  have hb31 := below_then hb30 hs31 (Nat.le_refl _)
  have hbB231 := below_then hbB230 hs31 (Nat.le_refl _)
  have hbB1231 := below_then hbB1230 hs31 (Nat.le_refl _)
  clear h31 hs31 hb30 hbB230 hbB1230
  go_wp2_with fail
  have q := add_any (padV [4294967294]) rfl (by unfold small; decide) 0 4294967295 w31
  rw [(by decide +kernel : addV (padV [4294967294]) 0 4294967295 = (padV [4294967295]))] at q
  rw [(by decide +kernel : addE (padV [4294967294]) 0 4294967295 = 0)] at q
  try unfold dC at q
  refine q.mono ?_
  clear q
  rintro e w32 ⟨rfl, h32⟩
  have hs32 : Below w31.heap.size w31 w32 := below_then (Below.refl w31.heap.size w31) h32 (Nat.le_refl _)
  have hb32 := below_then hb31 hs32 (Nat.le_refl _)
  have hbB232 := below_then hbB231 hs32 (Nat.le_refl _)
  have hbB1232 := below_then hbB1231 hs32 (Nat.le_refl _)
  clear h32 hs32 hb31 hbB231 hbB1231
  have zp := vec_size (show (padV [4294967295]).length = 16 from rfl)
  have hzz : (vC (padV [4294967295])).size = Z.size := by rw [vC_size, hZs]; rfl
  go_upto_region 11 with (first
    | (with_reducible refine wpList_alloc_z rfl 24 rfl Z hz0 ?_)
    | (with_reducible refine wpList_store_z rfl 24 (.tmp 18) (.tmp 106) rfl _ rfl (vC (padV [4294967295])) rfl Z _ (heap_alloc_new _ _) hzz zp (vC_one _) ?_)
    | fail)
  clear zp hzz
  obtain ⟨w33, hw33⟩ : ∃ w33, w33 = (w32.alloc (.cells Z 24)).setRow w32.heap.size (vC (padV [4294967295])) := ⟨_, rfl⟩
  rw [← hw33]
  have hs33 : Below w32.heap.size w32 w33 := by rw [hw33]; exact below_setRow ((Below.refl _ _).alloc (Nat.le_refl _) _) (Nat.le_refl _) _
  have HB18 : w33.heap[w32.heap.size]? = some (.cells (vC (padV [4294967295])) 24 (0, 0)) := by rw [hw33]; exact setRow_heap _ _ _ _ _ _ (heap_alloc_new _ _)
  have hb33 := below_then hb32 hs33 (Nat.le_refl _)
  have hbB233 := below_then hbB232 hs33 (Nat.le_refl _)
  have hbB1233 := below_then hbB1232 hs33 (Nat.le_refl _)
  clear hs33 hw33 hb32 hbB232 hbB1232
  have hbB1833 := Below.refl w33.heap.size w33
  refine vn11 w8.heap.size w23.heap.size w32.heap.size (padV [5, 1]) (padV [4294967295]) w33 rfl rfl rfl rfl (fun W hb => ((below_then hbB1233 hb (Nat.le_refl _)).block _ (lt_of_get HB12)).trans HB12) (fun W hb => ((below_then hbB1833 hb (Nat.le_refl _)).block _ (lt_of_get HB18)).trans HB18) (fun W hb => ((below_then hbB233 hb (Nat.le_refl _)).block _ (lt_of_get HB2)).trans HB2) ?_
  intro w34
  intros
  rename_i hs34
  have hb34 := below_then hb33 hs34 (Nat.le_refl _)
  clear hs34 hb33 hbB233 hbB1233 hbB1833
  clear HB2 HB12 HB18
  go_wp2_with fail
  refine (from_any _ 3 3 [2, 1, 0] rfl (by omega) _ (rd_b (l := [2, 1, 0]) (heap_alloc_new _ _) rfl)).mono ?_
  rintro e w35 ⟨gs, vs, rfl, _, hS, h35, _⟩
  have hs35 : Below w34.heap.size w34 w35 := below_then (below_al (Below.refl w34.heap.size w34) _) h35 (Nat.le_refl _)
  have hgs : w34.heap.size ≤ gs := Nat.le_trans (below_al (Below.refl w34.heap.size w34) _).size (by assumption)
  have hb35 := below_then hb34 hs35 (Nat.le_refl _)
  clear h35 hs35
  go_wp2_with fail
  have q := decode_any gs [2, 1, 0] vs w35 hS
  rw [dec_a] at q
  simp only at q
  refine q.mono ?_
  clear q
  rintro e w36 ⟨rfl, v36, _, hsx⟩
  have hb36 := below_keptB hb34 hb35 hsx.2 hgs
  clear hsx hgs hS hb35 hb34
  have zp := vec_size (show z16.length = 16 from rfl)
  have hzz : (vC z16).size = Z.size := by rw [vC_size, hZs]; rfl
  go_upto_region 13 with (first
    | (with_reducible refine wpList_alloc_z rfl 24 rfl Z hz0 ?_)
    | (with_reducible refine wpList_store_z rfl 24 (.tmp 21) (.tmp 163) rfl _ rfl (vC z16) rfl Z _ (heap_alloc_new _ _) hzz zp (vC_one _) ?_)
    | fail)
  clear zp hzz
  obtain ⟨w37, hw37⟩ : ∃ w37, w37 = (w36.alloc (.cells Z 24)).setRow w36.heap.size (vC z16) := ⟨_, rfl⟩
  rw [← hw37]
  have hs37 : Below w36.heap.size w36 w37 := by rw [hw37]; exact below_setRow ((Below.refl _ _).alloc (Nat.le_refl _) _) (Nat.le_refl _) _
  have hb37 := below_then hb36 hs37 (Nat.le_refl _)
  clear hs37 hw37 hb36
  go_wp2_with fail
  refine (from_any _ 1 1 [17] rfl (by omega) _ (rd_b (l := [17]) (heap_alloc_new _ _) rfl)).mono ?_
  rintro e w38 ⟨gs, vs, rfl, _, hS, h38, _⟩
  have hs38 : Below w37.heap.size w37 w38 := below_then (below_al (Below.refl w37.heap.size w37) _) h38 (Nat.le_refl _)
  have hgs : w37.heap.size ≤ gs := Nat.le_trans (below_al (Below.refl w37.heap.size w37) _).size (by assumption)
  have hb38 := below_then hb37 hs38 (Nat.le_refl _)
  clear h38 hs38
  go_wp2_with fail
  have q := decode_any gs [17] vs w38 hS
  rw [dec_b] at q
  simp only at q
  refine q.mono ?_
  clear q
  rintro e w39 ⟨rfl, v39, _, hsx⟩
  have hb39 := below_keptB hb37 hb38 hsx.2 hgs
  clear hsx hgs hS hb38 hb37
  have zp := vec_size (show z16.length = 16 from rfl)
  have hzz : (vC z16).size = Z.size := by rw [vC_size, hZs]; rfl
  go_upto_region 14 with (first
    | (with_reducible refine wpList_alloc_z rfl 24 rfl Z hz0 ?_)
    | (with_reducible refine wpList_store_z rfl 24 (.tmp 23) (.tmp 169) rfl _ rfl (vC z16) rfl Z _ (heap_alloc_new _ _) hzz zp (vC_one _) ?_)
    | fail)
  clear zp hzz
  obtain ⟨w40, hw40⟩ : ∃ w40, w40 = (w39.alloc (.cells Z 24)).setRow w39.heap.size (vC z16) := ⟨_, rfl⟩
  rw [← hw40]
  have hs40 : Below w39.heap.size w39 w40 := by rw [hw40]; exact below_setRow ((Below.refl _ _).alloc (Nat.le_refl _) _) (Nat.le_refl _) _
  have hb40 := below_then hb39 hs40 (Nat.le_refl _)
  clear hs40 hw40 hb39
  go_wp2_with fail
  refine (from_any _ 1 1 [1] rfl (by omega) _ (rd_b (l := [1]) (heap_alloc_new _ _) rfl)).mono ?_
  rintro e w41 ⟨gs, vs, rfl, _, hS, h41, _⟩
  have hs41 : Below w40.heap.size w40 w41 := below_then (below_al (Below.refl w40.heap.size w40) _) h41 (Nat.le_refl _)
  have hgs : w40.heap.size ≤ gs := Nat.le_trans (below_al (Below.refl w40.heap.size w40) _).size (by assumption)
  have hb41 := below_then hb40 hs41 (Nat.le_refl _)
  clear h41 hs41
  go_wp2_with fail
  have q := decode_any gs [1] vs w41 hS
  rw [dec_c] at q
  simp only at q
  refine q.mono ?_
  clear q
  rintro e w42 ⟨rfl, v42, _, hsx⟩
  have hb42 := below_keptB hb40 hb41 hsx.2 hgs
  clear hsx hgs hS hb41 hb40
  have zp := vec_size (show z16.length = 16 from rfl)
  have hzz : (vC z16).size = Z.size := by rw [vC_size, hZs]; rfl
  go_upto_region 15 with (first
    | (with_reducible refine wpList_alloc_z rfl 24 rfl Z hz0 ?_)
    | (with_reducible refine wpList_store_z rfl 24 (.tmp 25) (.tmp 175) rfl _ rfl (vC z16) rfl Z _ (heap_alloc_new _ _) hzz zp (vC_one _) ?_)
    | fail)
  clear zp hzz
  obtain ⟨w43, hw43⟩ : ∃ w43, w43 = (w42.alloc (.cells Z 24)).setRow w42.heap.size (vC z16) := ⟨_, rfl⟩
  rw [← hw43]
  have hs43 : Below w42.heap.size w42 w43 := by rw [hw43]; exact below_setRow ((Below.refl _ _).alloc (Nat.le_refl _) _) (Nat.le_refl _) _
  have hb43 := below_then hb42 hs43 (Nat.le_refl _)
  clear hs43 hw43 hb42
  go_wp2_with fail
  refine (decode_nil w43).mono ?_
  rintro e w44 ⟨rfl, h44⟩
  have hs44 : Below w43.heap.size w43 w44 := below_then (Below.refl w43.heap.size w43) h44 (Nat.le_refl _)
  have hb44 := below_then hb43 hs44 (Nat.le_refl _)
  clear h44 hs44 hb43
  have zp := vec_size (show z16.length = 16 from rfl)
  have hzz : (vC z16).size = Z.size := by rw [vC_size, hZs]; rfl
  go_upto_region 16 with (first
    | (with_reducible refine wpList_alloc_z rfl 24 rfl Z hz0 ?_)
    | (with_reducible refine wpList_store_z rfl 24 (.tmp 27) (.tmp 179) rfl _ rfl (vC z16) rfl Z _ (heap_alloc_new _ _) hzz zp (vC_one _) ?_)
    | fail)
  clear zp hzz
  obtain ⟨w45, hw45⟩ : ∃ w45, w45 = (w44.alloc (.cells Z 24)).setRow w44.heap.size (vC z16) := ⟨_, rfl⟩
  rw [← hw45]
  have hs45 : Below w44.heap.size w44 w45 := by rw [hw45]; exact below_setRow ((Below.refl _ _).alloc (Nat.le_refl _) _) (Nat.le_refl _) _
  have hb45 := below_then hb44 hs45 (Nat.le_refl _)
  clear hs45 hw45 hb44
  go_wp2_with fail
  refine (from_any _ 2 2 [0, 9] rfl (by omega) _ (rd_b (l := [0, 9]) (heap_alloc_new _ _) rfl)).mono ?_
  rintro e w46 ⟨gs, vs, rfl, _, hS, h46, _⟩
  have hs46 : Below w45.heap.size w45 w46 := below_then (below_al (Below.refl w45.heap.size w45) _) h46 (Nat.le_refl _)
  have hgs : w45.heap.size ≤ gs := Nat.le_trans (below_al (Below.refl w45.heap.size w45) _).size (by assumption)
  have hb46 := below_then hb45 hs46 (Nat.le_refl _)
  clear h46 hs46
  go_wp2_with fail
  have q := decode_any gs [0, 9] vs w46 hS
  rw [dec_d] at q
  simp only at q
  refine q.mono ?_
  clear q
  rintro e w47 ⟨rfl, v47, _, hsx⟩
  have hb47 := below_keptB hb45 hb46 hsx.2 hgs
  clear hsx hgs hS hb46 hb45
  have zp := vec_size (show (padV []).length = 16 from rfl)
  have hzz : (vC (padV [])).size = Z.size := by rw [vC_size, hZs]; rfl
  go_upto_region 17 with (first
    | (with_reducible refine wpList_alloc_z rfl 24 rfl Z hz0 ?_)
    | (with_reducible refine wpList_store_z rfl 24 (.tmp 29) (.tmp 185) rfl _ rfl (vC (padV [])) rfl Z _ (heap_alloc_new _ _) hzz zp (vC_one _) ?_)
    | fail)
  clear zp hzz
  obtain ⟨w48, hw48⟩ : ∃ w48, w48 = (w47.alloc (.cells Z 24)).setRow w47.heap.size (vC (padV [])) := ⟨_, rfl⟩
  rw [← hw48]
  have hs48 : Below w47.heap.size w47 w48 := by rw [hw48]; exact below_setRow ((Below.refl _ _).alloc (Nat.le_refl _) _) (Nat.le_refl _) _
  have HB29 : w48.heap[w47.heap.size]? = some (.cells (vC (padV [])) 24 (0, 0)) := by rw [hw48]; exact setRow_heap _ _ _ _ _ _ (heap_alloc_new _ _)
  have hb48 := below_then hb47 hs48 (Nat.le_refl _)
  clear hs48 hw48 hb47
  have hbB2948 := Below.refl w48.heap.size w48
  refine vn17 w47.heap.size (padV []) w48 rfl rfl (fun W hb => ((below_then hbB2948 hb (Nat.le_refl _)).block _ (lt_of_get HB29)).trans HB29) ?_
  intro w49
  intros
  rename_i hs49
  have hb49 := below_then hb48 hs49 (Nat.le_refl _)
  clear hs49 hb48 hbB2948
  clear HB29
  go_wp2_with fail
  refine (of_any _ 1 1 [3] rfl (by omega) _ (rd_u32 [3] (heap_alloc_new _ _))).mono ?_
  rintro e w50 ⟨rfl, h50⟩
  have hs50 : Below w49.heap.size w49 w50 := below_then (below_al (Below.refl w49.heap.size w49) _) h50 (Nat.le_refl _)
  have hb50 := below_then hb49 hs50 (Nat.le_refl _)
  clear h50 hs50 hb49
  go_wp2_with fail
  have q := has_any (padV [3]) rfl (by unfold small; decide) 0 3 w50
  rw [(by decide +kernel : hasV (padV [3]) 0 3 = true)] at q
  try unfold dC at q
  refine q.mono ?_
  clear q
  rintro e w51 ⟨rfl, h51⟩
  have hs51 : Below w50.heap.size w50 w51 := below_then (Below.refl w50.heap.size w50) h51 (Nat.le_refl _)
  have hb51 := below_then hb50 hs51 (Nat.le_refl _)
  clear h51 hs51 hb50
  go_wp2_with fail
  refine (of_any _ 1 1 [3] rfl (by omega) _ (rd_u32 [3] (heap_alloc_new _ _))).mono ?_
  rintro e w52 ⟨rfl, h52⟩
  have hs52 : Below w51.heap.size w51 w52 := below_then (below_al (Below.refl w51.heap.size w51) _) h52 (Nat.le_refl _)
  have hb52 := below_then hb51 hs52 (Nat.le_refl _)
  clear h52 hs52 hb51
  go_wp2_with fail
  have q := has_any (padV [3]) rfl (by unfold small; decide) 0 4 w52
  rw [(by decide +kernel : hasV (padV [3]) 0 4 = false)] at q
  try unfold dC at q
  refine q.mono ?_
  clear q
  rintro e w53 ⟨rfl, h53⟩
  have hs53 : Below w52.heap.size w52 w53 := below_then (Below.refl w52.heap.size w52) h53 (Nat.le_refl _)
  have hb53 := below_then hb52 hs53 (Nat.le_refl _)
  clear h53 hs53 hb52
  go_wp2_with fail
  refine (of_any _ 1 1 [3] rfl (by omega) _ (rd_u32 [3] (heap_alloc_new _ _))).mono ?_
  rintro e w54 ⟨rfl, h54⟩
  have hs54 : Below w53.heap.size w53 w54 := below_then (below_al (Below.refl w53.heap.size w53) _) h54 (Nat.le_refl _)
  have hb54 := below_then hb53 hs54 (Nat.le_refl _)
  clear h54 hs54 hb53
  go_wp2_with fail
  have q := has_any (padV [3]) rfl (by unfold small; decide) 0 0 w54
  rw [(by decide +kernel : hasV (padV [3]) 0 0 = false)] at q
  try unfold dC at q
  refine q.mono ?_
  clear q
  rintro e w55 ⟨rfl, h55⟩
  have hs55 : Below w54.heap.size w54 w55 := below_then (Below.refl w54.heap.size w54) h55 (Nat.le_refl _)
  have hb55 := below_then hb54 hs55 (Nat.le_refl _)
  clear h55 hs55 hb54
  go_wp2_with fail
  refine (of_any _ 1 1 [3] rfl (by omega) _ (rd_u32 [3] (heap_alloc_new _ _))).mono ?_
  rintro e w56 ⟨rfl, h56⟩
  have hs56 : Below w55.heap.size w55 w56 := below_then (below_al (Below.refl w55.heap.size w55) _) h56 (Nat.le_refl _)
  have hb56 := below_then hb55 hs56 (Nat.le_refl _)
  clear h56 hs56 hb55
  go_wp2_with fail
  have q := has_any (padV [3]) rfl (by unfold small; decide) 16 1 w56
  rw [(by decide +kernel : hasV (padV [3]) 16 1 = false)] at q
  try unfold dC at q
  refine q.mono ?_
  clear q
  rintro e w57 ⟨rfl, h57⟩
  have hs57 : Below w56.heap.size w56 w57 := below_then (Below.refl w56.heap.size w56) h57 (Nat.le_refl _)
  have hb57 := below_then hb56 hs57 (Nat.le_refl _)
  clear h57 hs57 hb56
  go_wp2_with fail
  refine (of_any _ 2 2 [1, 9] rfl (by omega) _ (rd_u32 [1, 9] (heap_alloc_new _ _))).mono ?_
  rintro e w58 ⟨rfl, h58⟩
  have hs58 : Below w57.heap.size w57 w58 := below_then (below_al (Below.refl w57.heap.size w57) _) h58 (Nat.le_refl _)
  have hb58 := below_then hb57 hs58 (Nat.le_refl _)
  clear h58 hs58 hb57
  go_wp2_with fail
  refine (of_any _ 2 2 [3, 2] rfl (by omega) _ (rd_u32 [3, 2] (heap_alloc_new _ _))).mono ?_
  rintro e w59 ⟨rfl, h59⟩
  have hs59 : Below w58.heap.size w58 w59 := below_then (below_al (Below.refl w58.heap.size w58) _) h59 (Nat.le_refl _)
  have hb59 := below_then hb58 hs59 (Nat.le_refl _)
  clear h59 hs59 hb58
  go_wp2_with fail
  have q := lacks_any (padV [1, 9]) (padV [3, 2]) rfl rfl (by unfold small; decide) (by unfold small; decide) w59
  rw [(by decide +kernel : lackV (padV [1, 9]) (padV [3, 2]) = 2)] at q
  refine q.mono ?_
  clear q
  rintro e w60 ⟨rfl, h60⟩
  have hs60 : Below w59.heap.size w59 w60 := below_then (Below.refl w59.heap.size w59) h60 (Nat.le_refl _)
  have hb60 := below_then hb59 hs60 (Nat.le_refl _)
  clear h60 hs60 hb59
  go_wp2_with fail
  refine (of_any _ 1 1 [2] rfl (by omega) _ (rd_u32 [2] (heap_alloc_new _ _))).mono ?_
  rintro e w61 ⟨rfl, h61⟩
  have hs61 : Below w60.heap.size w60 w61 := below_then (below_al (Below.refl w60.heap.size w60) _) h61 (Nat.le_refl _)
  have hb61 := below_then hb60 hs61 (Nat.le_refl _)
  clear h61 hs61 hb60
  go_wp2_with fail
  refine (of_any _ 1 1 [1] rfl (by omega) _ (rd_u32 [1] (heap_alloc_new _ _))).mono ?_
  rintro e w62 ⟨rfl, h62⟩
  have hs62 : Below w61.heap.size w61 w62 := below_then (below_al (Below.refl w61.heap.size w61) _) h62 (Nat.le_refl _)
  have hb62 := below_then hb61 hs62 (Nat.le_refl _)
  clear h62 hs62 hb61
  go_wp2_with fail
  have q := compare_any (padV [2]) (padV [1]) rfl rfl w62
  rw [(by decide +kernel : cmpV (padV [2]) (padV [1]) = 2)] at q
  refine q.mono ?_
  clear q
  rintro e w63 ⟨rfl, h63⟩
  have hs63 : Below w62.heap.size w62 w63 := below_then (Below.refl w62.heap.size w62) h63 (Nat.le_refl _)
  have hb63 := below_then hb62 hs63 (Nat.le_refl _)
  clear h63 hs63 hb62
  go_wp2_with fail
  refine (of_any _ 1 1 [2] rfl (by omega) _ (rd_u32 [2] (heap_alloc_new _ _))).mono ?_
  rintro e w64 ⟨rfl, h64⟩
  have hs64 : Below w63.heap.size w63 w64 := below_then (below_al (Below.refl w63.heap.size w63) _) h64 (Nat.le_refl _)
  have hb64 := below_then hb63 hs64 (Nat.le_refl _)
  clear h64 hs64 hb63
  go_wp2_with fail
  refine (of_any _ 1 1 [2] rfl (by omega) _ (rd_u32 [2] (heap_alloc_new _ _))).mono ?_
  rintro e w65 ⟨rfl, h65⟩
  have hs65 : Below w64.heap.size w64 w65 := below_then (below_al (Below.refl w64.heap.size w64) _) h65 (Nat.le_refl _)
  have hb65 := below_then hb64 hs65 (Nat.le_refl _)
  clear h65 hs65 hb64
  go_wp2_with fail
  have q := compare_any (padV [2]) (padV [2]) rfl rfl w65
  rw [(by decide +kernel : cmpV (padV [2]) (padV [2]) = 0)] at q
  refine q.mono ?_
  clear q
  rintro e w66 ⟨rfl, h66⟩
  have hs66 : Below w65.heap.size w65 w66 := below_then (Below.refl w65.heap.size w65) h66 (Nat.le_refl _)
  have hb66 := below_then hb65 hs66 (Nat.le_refl _)
  clear h66 hs66 hb65
  go_wp2_with fail
  refine (of_any none 0 0 [] rfl (by omega) _ (RdC.nil _ _)).mono ?_
  rintro e w67 ⟨rfl, h67⟩
  have hs67 : Below w66.heap.size w66 w67 := below_then (Below.refl w66.heap.size w66) h67 (Nat.le_refl _)
  have hb67 := below_then hb66 hs67 (Nat.le_refl _)
  clear h67 hs67 hb66
  go_wp2_with fail
  refine (of_any none 0 0 [] rfl (by omega) _ (RdC.nil _ _)).mono ?_
  rintro e w68 ⟨rfl, h68⟩
  have hs68 : Below w67.heap.size w67 w68 := below_then (Below.refl w67.heap.size w67) h68 (Nat.le_refl _)
  have hb68 := below_then hb67 hs68 (Nat.le_refl _)
  clear h68 hs68 hb67
  go_wp2_with fail
  have q := atmost_any (padV []) (padV []) rfl rfl w68
  rw [(by decide +kernel : decide (maxV (padV []) (padV []) = (padV [])) = true)] at q
  refine q.mono ?_
  clear q
  rintro e w69 ⟨rfl, h69⟩
  have hs69 : Below w68.heap.size w68 w69 := below_then (Below.refl w68.heap.size w68) h69 (Nat.le_refl _)
  have hb69 := below_then hb68 hs69 (Nat.le_refl _)
  clear h69 hs69 hb68
  go_wp2_with fail
  refine (of_any _ 1 1 [1] rfl (by omega) _ (rd_u32 [1] (heap_alloc_new _ _))).mono ?_
  rintro e w70 ⟨rfl, h70⟩
  have hs70 : Below w69.heap.size w69 w70 := below_then (below_al (Below.refl w69.heap.size w69) _) h70 (Nat.le_refl _)
  have hb70 := below_then hb69 hs70 (Nat.le_refl _)
  clear h70 hs70 hb69
  go_wp2_with fail
  refine (of_any _ 2 2 [0, 9] rfl (by omega) _ (rd_u32 [0, 9] (heap_alloc_new _ _))).mono ?_
  rintro e w71 ⟨rfl, h71⟩
  have hs71 : Below w70.heap.size w70 w71 := below_then (below_al (Below.refl w70.heap.size w70) _) h71 (Nat.le_refl _)
  have hb71 := below_then hb70 hs71 (Nat.le_refl _)
  clear h71 hs71 hb70
  go_wp2_with fail
  have q := atmost_any (padV [1]) (padV [0, 9]) rfl rfl w71
  rw [(by decide +kernel : decide (maxV (padV [1]) (padV [0, 9]) = (padV [0, 9])) = false)] at q
  refine q.mono ?_
  clear q
  rintro e w72 ⟨rfl, h72⟩
  have hs72 : Below w71.heap.size w71 w72 := below_then (Below.refl w71.heap.size w71) h72 (Nat.le_refl _)
  have hb72 := below_then hb71 hs72 (Nat.le_refl _)
  clear h72 hs72 hb71
  go_wp2_with fail
  have q := merge_row none 0 0 [] rfl (fun v hv => by cases hv) (by omega) w72 (RdC.nil _ _)
  rw [(by decide +kernel : foldK max [] 0 = padV [])] at q
  refine q.mono ?_
  clear q
  rintro e w73 ⟨rfl, h73⟩
  have hs73 : Below w72.heap.size w72 w73 := below_then (Below.refl w72.heap.size w72) h73 (Nat.le_refl _)
  have hb73 := below_then hb72 hs73 (Nat.le_refl _)
  clear h73 hs73 hb72
  go_wp2_with fail
  refine (of_any none 0 0 [] rfl (by omega) _ (RdC.nil _ _)).mono ?_
  rintro e w74 ⟨rfl, h74⟩
  have hs74 : Below w73.heap.size w73 w74 := below_then (Below.refl w73.heap.size w73) h74 (Nat.le_refl _)
  have hb74 := below_then hb73 hs74 (Nat.le_refl _)
  clear h74 hs74 hb73
  go_wp2_with fail
  have q := meet_row none 0 0 [] rfl (fun v hv => by cases hv) (by omega) w74 (RdC.nil _ _)
  rw [(by decide +kernel : foldK min [] 0 = padV [])] at q
  refine q.mono ?_
  clear q
  rintro e w75 ⟨rfl, h75⟩
  have hs75 : Below w74.heap.size w74 w75 := below_then (Below.refl w74.heap.size w74) h75 (Nat.le_refl _)
  have hb75 := below_then hb74 hs75 (Nat.le_refl _)
  clear h75 hs75 hb74
  go_wp2_with fail
  refine (of_any none 0 0 [] rfl (by omega) _ (RdC.nil _ _)).mono ?_
  rintro e w76 ⟨rfl, h76⟩
  have hs76 : Below w75.heap.size w75 w76 := below_then (Below.refl w75.heap.size w75) h76 (Nat.le_refl _)
  have hb76 := below_then hb75 hs76 (Nat.le_refl _)
  clear h76 hs76 hb75
  go_wp2_with fail
  refine (alive_any w76).mono ?_
  rintro e w77 ⟨rfl, h77⟩
  have hs77 : Below w76.heap.size w76 w77 := below_then (Below.refl w76.heap.size w76) h77 (Nat.le_refl _)
  have hb77 := below_then hb76 hs77 (Nat.le_refl _)
  clear h77 hs77 hb76
  go_wp2_with fail
  go_ret
  exact ⟨rfl, hb77⟩
end Go.Proofs.Ytfifbjlmbdgmjaa
