/- The reference's Set. -/
import Derived.Test.YtcdnbidenaljlaaSetGe
namespace Go.Proofs.Ytcdnbidenaljlaa
open Go.RowKit

set_option linter.unusedVariables false
set_option maxRecDepth 100000 in
set_option maxHeartbeats 4000000 in
theorem rset_any (A : Option Addr) (n c : Nat) (L : List (List UInt8)) (hL : L.length = n) (hn : n ≤ 1000) (h32 : ∀ x ∈ L, x.length = 32) (w : World) (hr : RdIds w A L) :
    Calls Try.prog 12 #[.slice A n c] w fun e w' => ∃ v O, e = .returned v ∧ IsSet O L ∧ O.length ≤ n ∧ w'.ownsRow w.heap.size 23 32 v O.length (idsC O) ∧ Below w.heap.size w w' := by
  have hni : (n : Int) ≤ 1000 := by omega
  have US := Try.underlying32
  have SZ := Try.sizeOf23
  go_enter Try.func12, Try.ntmps12
  go_wp2_with fail
  go_loopw [3, 4] (fun v i wr => ∃ (k : Nat) (O : List (List UInt8)), k ≤ n ∧ i = .int .i64 (k : Int) ∧ IsSet O (L.take k) ∧ O.length ≤ k ∧ wr.ownsRow w.heap.size 23 32 v O.length (idsC O) ∧ Below w.heap.size w wr) (fun _ i _ => n - (intOf i).toNat)
  case atStart => exact ⟨0, [], by omega, rfl, isSet_nil, Nat.le_refl _, World.ownsRow_nil _ _ _ _, Below.refl _ _⟩
  case round =>
    obtain ⟨k, O, hk, rfl, hset, hOk, hown, gb⟩ := hrel
    by_cases hlt : k < n
    · have hhL : k < L.length := by omega
      have hki : (k : Int) < (n : Int) := by omega
      obtain ⟨g, o, hA, hrg⟩ := hr k hhL
      have hlh : L[k].length = 32 := h32 _ (List.getElem_mem hhL)
      have h32O := hset.len32 fun x hx => h32 x (List.mem_of_mem_take hx)
      have hrgW := range_below hrg gb
      obtain ⟨A3, c3, rfl, hm3, hcm3, hrd3, hri3⟩ := ids_of_own h32O hown
      obtain ⟨m, hm⟩ : ∃ m, m = O.length := ⟨_, rfl⟩
      have HM := Lib.hid hm
      rw [← hm] at hown hm3 hOk ⊢
      have hmi : (m : Int) ≤ 1000 := by omega
      obtain ⟨x, hx⟩ : ∃ x, x = L[k] := ⟨_, rfl⟩
      rw [← hx] at hlh hrgW hrg
      have HX := Lib.hid hx
      have hSi : (Try.prog.info? 23).map (·.size) = some (u8v x).length := by rw [u8v_length, hlh]; exact size_id
      have hhas := rhasid_any A3 m c3 O hm.symm (by omega) h32O wr hri3 x hlh
      obtain ⟨bo, hbo⟩ : ∃ bo, bo = decide (x ∈ O) := ⟨_, rfl⟩
      rw [← hbo] at hhas
      have HBO := Lib.hid hbo
      have hag : (u8v x).toArray = idC x := rfl
      have HS := Lib.hid hset
      subst hA
      clear hbo hx hm hset
      cases bo with
      | true =>
        go_wp2_with (first
          | (with_reducible refine wpList_load_mid rfl 23 (.tmp 17) rfl g (o + k * 32) rfl (u8v x) _ hrgW Try.underlying23 rfl hSi ?_; rw [hag])
          | (go_at_call 15; refine hhas.mono ?_; rintro e w2 ⟨rfl, hb2⟩)
          | fail)
        refine ⟨⟨k + 1, O, by omega, rfl, HS.out.skip hhL (by rw [← HX.out]; exact of_decide_eq_true HBO.out.symm), by rw [← HM.out]; omega, by rw [← HM.out]; exact own_below hown hb2, below_then gb hb2 (Nat.le_refl _)⟩, by simp [intOf]; omega⟩
      | false =>
        go_wp2_with (first
          | (with_reducible refine wpList_load_mid rfl 23 (.tmp 17) rfl g (o + k * 32) rfl (u8v x) _ hrgW Try.underlying23 rfl hSi ?_; rw [hag])
          | (go_at_call 15; refine hhas.mono ?_; rintro e w2 ⟨rfl, hb2⟩)
          | fail)
        have gb2 := below_then gb hb2 (Nat.le_refl _)
        have hown2 := own_below hown hb2
        have hrd2 := hrd3.below hb2
        have hri2 := hri3.below hb2
        have hrg2 := range_below hrgW hb2
        clear hhas hown hrd3 hri3 hrgW gb hb2
        go_loopw [6] (fun s6 wq => ∃ t : Nat, t ≤ m ∧ s6 = .int .i64 (t : Int) ∧ (∀ i (hi : i < O.length), i < t → Lib.compareBytes O[i] x < 0) ∧ Below w2.heap.size w2 wq) (fun s6 _ => m - (intOf s6).toNat)
        case atStart => exact ⟨0, Nat.zero_le _, rfl, fun i _ h => by omega, Below.refl _ _⟩
        case round =>
          obtain ⟨t, htm, rfl, hlo, gq⟩ := hrel
          have HLO := Lib.hid hlo
          by_cases hlt2 : t < m
          · have htO : t < O.length := by rw [← HM.out]; exact hlt2
            have hti : (t : Int) < (m : Int) := by omega
            obtain ⟨g3, o3, hA3, hrg3⟩ := hri2 t htO
            have hl3 : O[t].length = 32 := h32O _ (List.getElem_mem htO)
            obtain ⟨y, hy⟩ : ∃ y, y = O[t] := ⟨_, rfl⟩
            rw [← hy] at hrg3 hl3
            have HY := Lib.hid hy
            have hSi3 : (Try.prog.info? 23).map (·.size) = some (u8v y).length := by rw [u8v_length, hl3]; exact size_id
            have h1 : ∀ W, Below wr.heap.size wr W → W.rangeAt g (o + k * 32) (u8v x) := fun W hW => range_below (range_below hrg2 gq) hW
            have h2 : ∀ W, Below wr.heap.size wr W → W.rangeAt g3 (o3 + t * 32) (u8v y) := fun W hW => range_below (range_below hrg3 gq) hW
            have hcmp : ∀ W, Below wr.heap.size wr W → Calls Try.prog 10 #[.agg (u8v y).toArray, .agg (u8v x).toArray] W fun e w' => e = .returned (.int .i64 (Lib.compareBytes y x)) ∧ Below W.heap.size W w' := fun W _ => rcompare_any y x hl3 hlh W
            obtain ⟨xv, hxv⟩ : ∃ xv, xv = Lib.compareBytes y x := ⟨_, rfl⟩
            rw [← hxv] at hcmp
            have HXV := Lib.hid hxv
            subst hA3
            clear hy hxv hlo
            go_upto_region 8 with (fail)
            refine rs8t g o n c k g3 o3 m c3 t (u8v x) (u8v y) xv wr hki hti h1 hSi h2 hSi3 hcmp fun w3 hb3 => ?_
            have gq3 := below_then gq hb3 (Nat.le_refl _)
            clear h1 h2 hcmp gq hb3
            by_cases hneg : xv < 0
            · go_wp2_with fail
              refine ⟨⟨t + 1, by omega, rfl, fun i hi hit => ?_, gq3⟩, by simp [intOf]; omega⟩
              by_cases e : i = t
              · subst e; rw [← HY.out, ← HXV.out]; exact hneg
              · exact HLO.out i hi (by omega)
            · have hhi : Hid (∀ h : t < O.length, ¬ Lib.compareBytes O[t] x < 0) := Lib.hid fun h => by rw [← HY.out, ← HXV.out]; exact hneg
              go_upto_region 10 with (fail)
              have gq4 := below_then gb2 gq3 (by have := gb2.size; omega)
              have hown3 := own_below hown2 gq3
              have hrd3 := hrd2.below gq3
              have hrg4 := range_below hrg2 gq3
              have hxl : (idsC O).length = m * 32 := by rw [idsC_length O h32O, ← HM.out]
              have hxt : ((idsC O).take (t * 32)).length = t * 32 := by rw [List.length_take, hxl, Nat.min_eq_left (Nat.mul_le_mul_right _ htm)]
              have hx1 : ∀ u ∈ (idsC O).take (t * 32), u.oneCell' = true := fun u hu => idsC_one O u (List.mem_of_mem_take hu)
              have hs3 : ∀ W : World, (Instr.slice 32 (.slice (some ⟨g3, o3, none⟩) m c3) none (some (.int .i64 (t : Int))) none).run Try.prog W = .ok (.slice (some ⟨g3, o3, none⟩) t c3) W := fun W => run_sub_h (P := Try.prog) W 32 (some ⟨g3, o3, none⟩) m c3 32 US (SZ W) t t rfl (by omega)
              obtain ⟨dm, hdm⟩ : ∃ dm, dm = m - t := ⟨_, rfl⟩
              obtain ⟨dc, hdc⟩ : ∃ dc, dc = c3 - t := ⟨_, rfl⟩
              have hs4 : ∀ W : World, (Instr.slice 32 (.slice (some ⟨g3, o3, none⟩) m c3) (some (.int .i64 (t : Int))) none none).run Try.prog W = .ok (.slice (subA (some ⟨g3, o3, none⟩) c3 t 32) dm dc) W := fun W => by rw [hdm, hdc]; exact run_sub_l (P := Try.prog) W 32 (some ⟨g3, o3, none⟩) m c3 32 US (SZ W) t t rfl htm
              have hd1 : ∀ u ∈ (idsC O).drop (t * 32), u.oneCell' = true := fun u hu => idsC_one O u (List.mem_of_mem_drop hu)
              have hdl : ((idsC O).drop (t * 32)).length = dm * 32 := by rw [List.length_drop, hxl, hdm, Nat.sub_mul]
              have hfin : Hid ([] ++ (idsC O).take (t * 32) ++ u8v x ++ (idsC O).drop (t * 32) = idsC (O.take t ++ [x] ++ O.drop t)) := Lib.hid (by
                have e1 := idsC_take O h32O [] t (by rw [← HM.out]; exact htm)
                have e2 := idsC_drop O h32O [] t (by rw [← HM.out]; exact htm)
                rw [List.append_nil] at e1 e2
                rw [e1, e2, List.append_nil, List.nil_append, idsC_app, idsC_app]
                simp [idsC])
              obtain ⟨XT, hXT⟩ : ∃ XT, XT = (idsC O).take (t * 32) := ⟨_, rfl⟩
              obtain ⟨XD, hXD⟩ : ∃ XD, XD = (idsC O).drop (t * 32) := ⟨_, rfl⟩
              have hrT : RdC w3 (some ⟨g3, o3, none⟩) XT := by rw [hXT]; exact hrd3.take _
              have hrD : RdC w3 (subA (some ⟨g3, o3, none⟩) c3 t 32) XD := by rw [hXD]; exact hrd3.drop c3 t 32 (by rw [hxl]; exact Nat.mul_le_mul_right _ hm3)
              rw [← hXT] at hx1 hxt hfin
              rw [← hXD] at hd1 hdl hfin
              clear hXT hXD hrd3 hxl gq3
              go_upto_region 11 with (fail)
              refine rs11 g o n c k m c3 t w3.heap.size (some ⟨g3, o3, none⟩) x XT w3 rfl hki (by omega) hxt hlh (fun W hW => range_below hrg4 hW) hSi hx1 (fun W hW => hrT.below hW) hs3 fun w4 r7 r43 r48 r49 hb4 hr7 => ?_
              have hrD4 := hrD.below hb4
              have gq5 := below_then gq4 hb4 (by have := gq4.size; omega)
              have hu : dm ≤ 1000 := by omega
              have HDM := Lib.hid hdm
              clear hdm hdc
              have hb4s := hb4.size
              have hB3 : w.heap.size ≤ w3.heap.size := gq4.size
              clear hb4 hs3 hown3
              go_wp2_with (first
                | (at_builtin; go_loud (refine wpList_app elt_id rfl (.tmp 50) (.tmp 53) rfl w3.heap.size r7 (0 + t + 1) _ rfl hr7 (subA (some ⟨g3, o3, none⟩) c3 t 32) dm dc XD rfl hdl hrD4 hd1 (by unfold maxLen; omega) (by omega) (by first | exact hb4s | omega) ?_; intro v' w' ho hg; have hbn := below_grown gq5 hr7 hg gq5.size (by first | exact hB3 | omega)))
                | fail)
              have e1 : (O.take t ++ [x] ++ O.drop t).length = 0 + t + 1 + dm := by
                have := HM.out
                have := HDM.out
                simp only [List.length_append, List.length_take, List.length_drop, List.length_singleton]
                omega
              rw [hfin.out, ← e1] at ho
              refine ⟨⟨k + 1, O.take t ++ [x] ++ O.drop t, by omega, rfl, ?_, ?_, own_mono3 ho (by first | exact hB3 | omega), hbn⟩, by simp [intOf]; omega⟩
              · have := HS.out.ins hhL (fun y hy => h32 y hy) (by rw [← HX.out]; exact of_decide_eq_false HBO.out.symm) (by rw [← HM.out]; exact htm) (by rw [← HX.out]; exact HLO.out) (by rw [← HX.out]; exact hhi.out)
                rwa [← HX.out] at this
              · have := HDM.out
                rw [e1]; omega
          · have hhi : Hid (∀ h : t < O.length, ¬ Lib.compareBytes O[t] x < 0) := Lib.hid fun h => by rw [← HM.out] at h; omega
            obtain rfl : t = m := by omega
            clear hlo
            go_upto_region 8 with (fail)
            refine rs8f t c3 k _ A3 wr fun w3 hb3 => ?_
            have gq3 := below_then gq hb3 (Nat.le_refl _)
            have hti : True := trivial
            clear gq hb3
            go_upto_region 10 with (fail)
            have gq4 := below_then gb2 gq3 (by have := gb2.size; omega)
            have hown3 := own_below hown2 gq3
            have hrd3 := hrd2.below gq3
            have hrg4 := range_below hrg2 gq3
            have hxl : (idsC O).length = t * 32 := by rw [idsC_length O h32O, ← HM.out]
            have hxt : ((idsC O).take (t * 32)).length = t * 32 := by rw [List.length_take, hxl, Nat.min_eq_left (Nat.mul_le_mul_right _ htm)]
            have hx1 : ∀ u ∈ (idsC O).take (t * 32), u.oneCell' = true := fun u hu => idsC_one O u (List.mem_of_mem_take hu)
            have hs3 : ∀ W : World, (Instr.slice 32 (.slice A3 t c3) none (some (.int .i64 (t : Int))) none).run Try.prog W = .ok (.slice A3 t c3) W := fun W => run_sub_h (P := Try.prog) W 32 A3 t c3 32 US (SZ W) t t rfl (by omega)
            obtain ⟨dm, hdm⟩ : ∃ dm, dm = t - t := ⟨_, rfl⟩
            obtain ⟨dc, hdc⟩ : ∃ dc, dc = c3 - t := ⟨_, rfl⟩
            have hs4 : ∀ W : World, (Instr.slice 32 (.slice A3 t c3) (some (.int .i64 (t : Int))) none none).run Try.prog W = .ok (.slice (subA A3 c3 t 32) dm dc) W := fun W => by rw [hdm, hdc]; exact run_sub_l (P := Try.prog) W 32 A3 t c3 32 US (SZ W) t t rfl htm
            have hd1 : ∀ u ∈ (idsC O).drop (t * 32), u.oneCell' = true := fun u hu => idsC_one O u (List.mem_of_mem_drop hu)
            have hdl : ((idsC O).drop (t * 32)).length = dm * 32 := by rw [List.length_drop, hxl, hdm, Nat.sub_mul]
            have hfin : Hid ([] ++ (idsC O).take (t * 32) ++ u8v x ++ (idsC O).drop (t * 32) = idsC (O.take t ++ [x] ++ O.drop t)) := Lib.hid (by
              have e1 := idsC_take O h32O [] t (by rw [← HM.out]; exact htm)
              have e2 := idsC_drop O h32O [] t (by rw [← HM.out]; exact htm)
              rw [List.append_nil] at e1 e2
              rw [e1, e2, List.append_nil, List.nil_append, idsC_app, idsC_app]
              simp [idsC])
            obtain ⟨XT, hXT⟩ : ∃ XT, XT = (idsC O).take (t * 32) := ⟨_, rfl⟩
            obtain ⟨XD, hXD⟩ : ∃ XD, XD = (idsC O).drop (t * 32) := ⟨_, rfl⟩
            have hrT : RdC w3 A3 XT := by rw [hXT]; exact hrd3.take _
            have hrD : RdC w3 (subA A3 c3 t 32) XD := by rw [hXD]; exact hrd3.drop c3 t 32 (by rw [hxl]; exact Nat.mul_le_mul_right _ hm3)
            rw [← hXT] at hx1 hxt hfin
            rw [← hXD] at hd1 hdl hfin
            clear hXT hXD hrd3 hxl gq3
            go_upto_region 11 with (fail)
            refine rs11 g o n c k t c3 t w3.heap.size A3 x XT w3 rfl hki (by omega) hxt hlh (fun W hW => range_below hrg4 hW) hSi hx1 (fun W hW => hrT.below hW) hs3 fun w4 r7 r43 r48 r49 hb4 hr7 => ?_
            have hrD4 := hrD.below hb4
            have gq5 := below_then gq4 hb4 (by have := gq4.size; omega)
            have hu : dm ≤ 1000 := by omega
            have HDM := Lib.hid hdm
            clear hdm hdc
            have hb4s := hb4.size
            have hB3 : w.heap.size ≤ w3.heap.size := gq4.size
            clear hb4 hs3 hown3
            go_wp2_with (first
              | (at_builtin; go_loud (refine wpList_app elt_id rfl (.tmp 50) (.tmp 53) rfl w3.heap.size r7 (0 + t + 1) _ rfl hr7 (subA A3 c3 t 32) dm dc XD rfl hdl hrD4 hd1 (by unfold maxLen; omega) (by omega) (by first | exact hb4s | omega) ?_; intro v' w' ho hg; have hbn := below_grown gq5 hr7 hg gq5.size (by first | exact hB3 | omega)))
              | fail)
            have e1 : (O.take t ++ [x] ++ O.drop t).length = 0 + t + 1 + dm := by
              have := HM.out
              have := HDM.out
              simp only [List.length_append, List.length_take, List.length_drop, List.length_singleton]
              omega
            rw [hfin.out, ← e1] at ho
            refine ⟨⟨k + 1, O.take t ++ [x] ++ O.drop t, by omega, rfl, ?_, ?_, own_mono3 ho (by first | exact hB3 | omega), hbn⟩, by simp [intOf]; omega⟩
            · have := HS.out.ins hhL (fun y hy => h32 y hy) (by rw [← HX.out]; exact of_decide_eq_false HBO.out.symm) (by rw [← HM.out]; exact htm) (by rw [← HX.out]; exact HLO.out) (by rw [← HX.out]; exact hhi.out)
              rwa [← HX.out] at this
            · have := HDM.out
              rw [e1]; omega
    · obtain rfl : k = n := by omega
      rw [List.take_of_length_le (by omega)] at hset
      go_wp2_with fail
      go_ret
      exact ⟨_, O, rfl, hset, hOk, hown, gb⟩
end Go.Proofs.Ytcdnbidenaljlaa
