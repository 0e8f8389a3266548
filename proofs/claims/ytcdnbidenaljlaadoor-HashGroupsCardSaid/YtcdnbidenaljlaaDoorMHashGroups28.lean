/- The law HashGroups, walked. -/
import Derived.Test.YtcdnbidenaljlaaDoorMHashGroups27
import Derived.Test.YtcdnbidenaljlaaDoorMHashGroups25
import Derived.Test.YtcdnbidenaljlaaDoorMHashGroups14
namespace Go.Proofs.YtcdnbidenaljlaaDoor
open Go.RowKit

theorem lessL_rise {L M : List (List UInt8)} (h : Rise L) : Rise (lessL L M) := rise_pw.2 ((rise_pw.1 h).sublist List.filter_sublist)
theorem mem_lessL {L M : List (List UInt8)} {x : List UInt8} : x ∈ lessL L M ↔ x ∈ L ∧ x ∉ M := by simp [lessL]
set_option linter.unusedVariables false
set_option maxRecDepth 100000 in
set_option maxHeartbeats 4000000 in
theorem hashGroups_walk (A : Option Addr) (n c : Nat) (L : List (List UInt8)) (A2 : Option Addr) (n2 c2 : Nat) (M : List (List UInt8)) (w : World) (h0 : IdRow w A n c L) (h1 : IdRow w A2 n2 c2 M) (hT : TabsOK w) :
    Calls Tryd.prog 6 #[.slice A n c, .slice A2 n2 c2] w fun e w' => e = .returned (.bool true) ∧ Below w.heap.size w w' := by
  obtain ⟨hL, hnc, hcm, h32, hr⟩ := h0
  obtain ⟨hM, hnc2, hcm2, h322, hr2⟩ := h1
  have hrL := RdIds.of_rd h32 hr
  obtain ⟨Z, hZ0, hZs⟩ : ∃ Z : Array Value, (Tryd.prog.info? 25).bind (fun i => i.zero.map Value.cells) = some Z ∧ Z.size = 32 := ⟨_, zero_id, by rw [idC_size]; rfl⟩
  go_enter Tryd.func6, Tryd.ntmps6
  go_wp2_with fail
  refine (alive_any w hT).mono ?_
  rintro e w1 ⟨rfl, hb1⟩
  by_cases h40 : 40 < n
  · go_wp2_with fail
    go_ret
    exact ⟨rfl, hb1⟩
  by_cases h41 : 40 < n2
  · go_wp2_with fail
    go_ret
    exact ⟨rfl, hb1⟩
  go_wp2_with fail
  refine (set_any A n c L hL h32 (by omega) w1 (hr.below hb1)).mono ?_
  rintro e w2 ⟨v2, Oa, rfl, hOa, hla, ho2, hb2⟩
  have hs2 := set_any A2 n2 c2 M hM h322 (by omega) w2 ((hr2.below hb1).below hb2)
  go_wp2_with fail
  refine hs2.mono ?_
  rintro e w3 ⟨v3, Ob, rfl, hOb, hlb, ho3, hb3⟩
  have h32a := hOa.len32 h32
  have h32b := hOb.len32 h322
  obtain ⟨A4, c4, rfl, -, hcm4, hd4, hi4⟩ := ids_of_own h32a ho2
  obtain ⟨A5, c5, rfl, -, -, hd5, hi5⟩ := ids_of_own h32b ho3
  replace hi4 := hi4.below hb3
  have hbW := below_then (below_then hb1 hb2 (Nat.le_refl _)) hb3 (Nat.le_refl _)
  clear hs2 ho2 ho3 hd4 hd5 hb1 hb2 hb3
  obtain ⟨na, hna⟩ : ∃ na, na = Oa.length := ⟨_, rfl⟩
  obtain ⟨nb, hnb⟩ : ∃ nb, nb = Ob.length := ⟨_, rfl⟩
  rw [← hna] at hla ⊢
  rw [← hnb] at hlb ⊢
  have hnai : (na : Int) ≤ 40 := by omega
  have HNA := Lib.hid hna
  have HNB := Lib.hid hnb
  clear hna hnb
  go_wp2_with fail
  go_loopw [35] (fun s wr => ∃ k : Nat, k ≤ na ∧ s = .int .i64 (k : Int) ∧ Below w3.heap.size w3 wr) (fun s _ => na - (intOf s).toNat)
  case atStart => exact ⟨0, Nat.zero_le _, rfl, Below.refl _ _⟩
  case round =>
    obtain ⟨k, hk, rfl, gb⟩ := hrel
    by_cases hlt : k < na
    · have hkO : k < Oa.length := by rw [← HNA.out]; exact hlt
      have hki : (k : Int) < (na : Int) := by omega
      obtain ⟨g, o, hA4, hrg⟩ := hi4 k hkO
      have hlh : Oa[k].length = 32 := h32a _ (List.getElem_mem hkO)
      have hmem : Oa[k] ∈ L := (hOa.mem _).1 (List.getElem_mem hkO)
      have hld : ∀ W, Below wr.heap.size wr W → W.rangeAt g (o + k * 32) (u8v Oa[k]) := fun W hW => range_below (range_below hrg gb) hW
      have hSi : (Tryd.prog.info? 25).map (·.size) = some (u8v Oa[k]).length := by rw [u8v_length, hlh]; exact size_id
      have hhas : ∀ W, Below wr.heap.size wr W → Calls Tryd.prog 18 #[.slice A n c, .agg (u8v Oa[k]).toArray] W fun e w' => e = .returned (.bool true) ∧ Below W.heap.size W w' := fun W hW => by
        have h := rhasid_any A n c L hL (by omega) h32 W (((hrL.below hbW).below gb).below hW) Oa[k] hlh
        rw [decide_eq_true hmem] at h
        exact h
      by_cases hk0 : k = 0
      · subst hk0
        subst hA4
        go_upto_region 8 with (fail)
        refine hg8z g o na c4 n c A (u8v Oa[0]) wr (by omega) hld hSi hhas fun w4 hb4 => ?_
        go_wp2_with fail
        exact ⟨⟨0 + 1, by omega, rfl, below_then gb hb4 (Nat.le_refl _)⟩, by simp [intOf]; omega⟩
      · have hq : k - 1 < Oa.length := by omega
        have hqi : ((k - 1 : Nat) : Int) < (na : Int) := by omega
        have hpos : 0 < k := by omega
        have hsub : IntKind.i64.wrap ((k : Int) - 1) = ((k - 1 : Nat) : Int) := by
          simp only [IntKind.wrap, IntKind.bits, IntKind.signed]
          simp
          omega
        obtain ⟨g', o', hA4', hrg'⟩ := hi4 (k - 1) hq
        rw [hA4] at hA4'
        cases hA4'
        have hlq : Oa[k - 1].length = 32 := h32a _ (List.getElem_mem hq)
        have hld2 : ∀ W, Below wr.heap.size wr W → W.rangeAt g (o + (k - 1) * 32) (u8v Oa[k - 1]) := fun W hW => range_below (range_below hrg' gb) hW
        have hSi2 : (Tryd.prog.info? 25).map (·.size) = some (u8v Oa[k - 1]).length := by rw [u8v_length, hlq]; exact size_id
        have hxv : Lib.compareBytes Oa[k - 1] Oa[k] < 0 := hOa.rise (k - 1) k hq hkO (by omega)
        have hcmp : ∀ W, Below wr.heap.size wr W → Calls Tryd.prog 16 #[.agg (u8v Oa[k - 1]).toArray, .agg (u8v Oa[k]).toArray] W fun e w' => e = .returned (.int .i64 (Lib.compareBytes Oa[k - 1] Oa[k])) ∧ Below W.heap.size W w' := fun W _ => compare_any Oa[k - 1] Oa[k] hlq hlh W
        subst hA4
        obtain ⟨kq, hkq⟩ : ∃ kq, kq = k - 1 := ⟨_, rfl⟩
        generalize u8v Oa[k] = S at hld hSi hhas hcmp
        generalize Lib.compareBytes Oa[k - 1] Oa[k] = xv at hxv hcmp
        generalize u8v Oa[k - 1] = S2 at hld2 hSi2 hcmp
        rw [← hkq] at hld2 hqi hsub
        clear hkq
        go_upto_region 8 with (fail)
        refine hg8p g o na c4 k kq n c A S S2 xv wr hki hqi hpos hxv hsub hld hSi hld2 hSi2 hcmp hhas fun w4 hb4 => ?_
        go_wp2_with fail
        exact ⟨⟨k + 1, by omega, rfl, below_then gb hb4 (Nat.le_refl _)⟩, by simp [intOf]; omega⟩
    · obtain rfl : na = k := by omega
      have hni : (n : Int) ≤ 40 := by omega
      replace hi4 := hi4.below gb
      replace hi5 := hi5.below gb
      replace hbW := below_then hbW gb (Nat.le_refl _)
      clear gb
      go_wp2_with fail
      go_loopw [65] (fun s wq => ∃ k : Nat, k ≤ n ∧ s = .int .i64 (k : Int) ∧ Below wr.heap.size wr wq) (fun s _ => n - (intOf s).toNat)
      case atStart => exact ⟨0, Nat.zero_le _, rfl, Below.refl _ _⟩
      case round =>
        obtain ⟨k, hk, rfl, gb⟩ := hrel
        by_cases hlt : k < n
        · have hhK : k < L.length := by omega
          have hki : (k : Int) < (n : Int) := by omega
          obtain ⟨g, o, hA8, hrg⟩ := hrL k hhK
          have hlh : L[k].length = 32 := h32 _ (List.getElem_mem hhK)
          have hmem : L[k] ∈ Oa := (hOa.mem _).2 (List.getElem_mem hhK)
          have hrgW := range_below (range_below hrg hbW) gb
          generalize L[k] = x at hlh hrgW hrg hmem
          have hSi : (Tryd.prog.info? 25).map (·.size) = some (u8v x).length := by rw [u8v_length, hlh]; exact size_id
          obtain ⟨Y, hY, hYs, hY1⟩ : ∃ Y : Array Value, Hid (Y = idC x) ∧ Y.size = 32 ∧ (∀ u ∈ Y.toList, u.oneCell' = true) := ⟨_, rfl, by rw [idC_size, hlh], by simpa [idC] using u8v_one x⟩
          have hYi : (Tryd.prog.info? 25).map (·.size) = some Y.size := by rw [hYs]; exact size_id
          have hYz : Y.size = Z.size := by rw [hYs, hZs]
          have hag : (u8v x).toArray = Y := by rw [hY.out]; rfl
          have qn : (wr.alloc (.cells Z 25)).heap[wr.heap.size]? = some (.cells Z 25 (0, 0)) := heap_alloc_new _ _
          obtain ⟨w13, hw13⟩ : ∃ w13, w13 = (wr.alloc (.cells Z 25)).setRow wr.heap.size Y := ⟨_, rfl⟩
          have hb13 : Below wr.heap.size wr w13 := by rw [hw13]; exact below_setRow ((Below.refl _ wr).alloc (Nat.le_refl _) _) (Nat.le_refl _) Y
          have q13 : w13.heap[wr.heap.size]? = some (.cells Y 25 (0, 0)) := by rw [hw13]; exact setRow_heap _ _ _ _ _ _ qn
          have gb13 := below_then gb hb13 (Nat.le_refl _)
          have hx1 := hashas_any A4 na c4 Oa HNA.out.symm (by omega) h32a hOa.rise w13 (hi4.below gb13) x hlh
          rw [← hY.out, decide_eq_true hmem] at hx1
          have HW13 := Lib.hid hw13
          subst hA8
          clear hw13 hY hmem
          go_upto_region 14 with (first
            | (with_reducible refine wpList_load_mid rfl 25 (.tmp 67) rfl g (o + k * 32) rfl (u8v x) _ hrgW Tryd.underlying25 rfl hSi ?_; rw [hag])
            | (with_reducible refine wpList_alloc_z rfl 25 rfl Z hZ0 ?_)
            | (with_reducible refine wpList_store_z rfl 25 (.tmp 10) (.tmp 68) rfl _ rfl Y rfl Z _ qn hYz hYi hY1 ?_)
            | fail)
          rw [← HW13.out]
          go_wp2_with (first
            | (with_reducible refine wpList_load_row rfl 25 (.tmp 10) rfl _ rfl 25 Y _ _ q13 Tryd.underlying25 rfl hYi ?_)
            | (go_at_call 19; refine hx1.mono ?_; rintro e w14 ⟨rfl, hb14⟩)
            | fail)
          exact ⟨⟨k + 1, by omega, rfl, below_then gb13 hb14 (Nat.le_refl _)⟩, by simp [intOf]; omega⟩
        · obtain rfl : n = k := by omega
          replace hi4 := hi4.below gb
          replace hi5 := hi5.below gb
          replace hbW := below_then hbW gb (Nat.le_refl _)
          have h32l := lessL_32 (L2 := Ob) h32a
          have hll : (lessL Oa Ob).length ≤ na := by rw [HNA.out]; exact List.length_filter_le _ _
          have hl1 := less_any A4 na c4 Oa HNA.out.symm (by omega) h32a A5 nb c5 Ob HNB.out.symm (by omega) h32b hOb.rise wr hi4 hi5
          clear gb
          go_wp2_with fail
          refine hl1.mono ?_
          rintro e w15 ⟨v15, rfl, ho15, hb15⟩
          obtain ⟨D, hD⟩ : ∃ D, D = lessL Oa Ob := ⟨_, rfl⟩
          have hDr : Rise D := by rw [hD]; exact lessL_rise hOa.rise
          rw [← hD] at ho15 h32l hll
          have HD := Lib.hid hD
          clear hD hl1
          obtain ⟨A15, c15, rfl, -, -, hd15, hi15⟩ := ids_of_own h32l ho15
          obtain ⟨nd, hnd⟩ : ∃ nd, nd = D.length := ⟨_, rfl⟩
          rw [← hnd] at hll ⊢
          have HND := Lib.hid hnd
          clear hnd ho15
          replace hi4 := hi4.below hb15
          replace hi5 := hi5.below hb15
          replace hbW := below_then hbW hb15 (Nat.le_refl _)
          have hl2 := less_any A4 na c4 Oa HNA.out.symm (by omega) h32a A15 nd c15 D HND.out.symm (by omega) h32l hDr w15 hi4 hi15
          have h32t := lessL_32 (L2 := D) h32a
          have hlt2 : (lessL Oa D).length ≤ na := by rw [HNA.out]; exact List.length_filter_le _ _
          clear hb15
          go_wp2_with fail
          refine hl2.mono ?_
          rintro e w16 ⟨v16, rfl, ho16, hb16⟩
          obtain ⟨G, hG⟩ : ∃ G, G = lessL Oa D := ⟨_, rfl⟩
          rw [← hG] at ho16 h32t hlt2
          have HG := Lib.hid hG
          clear hG hl2
          obtain ⟨A16, c16, rfl, -, -, hd16, hi16⟩ := ids_of_own h32t ho16
          obtain ⟨ng, hng⟩ : ∃ ng, ng = G.length := ⟨_, rfl⟩
          rw [← hng] at hlt2 ⊢
          have HNG := Lib.hid hng
          clear hng ho16
          replace hi4 := hi4.below hb16
          replace hi5 := hi5.below hb16
          replace hd15 := hd15.below hb16
          replace hbW := below_then hbW hb16 (Nat.le_refl _)
          have hngi : (ng : Int) ≤ 40 := by omega
          clear hb16
          go_wp2_with fail
          go_loopw [82] (fun s wz => ∃ k : Nat, k ≤ ng ∧ s = .int .i64 (k : Int) ∧ Below w16.heap.size w16 wz) (fun s _ => ng - (intOf s).toNat)
          case atStart => exact ⟨0, Nat.zero_le _, rfl, Below.refl _ _⟩
          case round =>
            obtain ⟨k, hk, rfl, gb⟩ := hrel
            by_cases hlt : k < ng
            · have hhK : k < G.length := by rw [← HNG.out]; exact hlt
              have hki : (k : Int) < (ng : Int) := by omega
              obtain ⟨g, o, hA8, hrg⟩ := hi16 k hhK
              have hlh : G[k].length = 32 := h32t _ (List.getElem_mem hhK)
              have hGm : ∀ y ∈ G, y ∈ Oa ∧ y ∉ D := fun y hy => mem_lessL.1 (by rw [← HG.out]; exact hy)
              have hmem : G[k] ∈ Ob := by
                have h2 := hGm _ (List.getElem_mem hhK)
                exact Classical.byContradiction fun h3 => h2.2 (by rw [HD.out]; exact mem_lessL.2 ⟨h2.1, h3⟩)
              clear hGm
              have hrgW := range_below hrg gb
              generalize G[k] = x at hlh hrgW hrg hmem
              have hSi : (Tryd.prog.info? 25).map (·.size) = some (u8v x).length := by rw [u8v_length, hlh]; exact size_id
              obtain ⟨Y, hY, hYs, hY1⟩ : ∃ Y : Array Value, Hid (Y = idC x) ∧ Y.size = 32 ∧ (∀ u ∈ Y.toList, u.oneCell' = true) := ⟨_, rfl, by rw [idC_size, hlh], by simpa [idC] using u8v_one x⟩
              have hYi : (Tryd.prog.info? 25).map (·.size) = some Y.size := by rw [hYs]; exact size_id
              have hYz : Y.size = Z.size := by rw [hYs, hZs]
              have hag : (u8v x).toArray = Y := by rw [hY.out]; rfl
              have qn : (wr.alloc (.cells Z 25)).heap[wr.heap.size]? = some (.cells Z 25 (0, 0)) := heap_alloc_new _ _
              obtain ⟨w13, hw13⟩ : ∃ w13, w13 = (wr.alloc (.cells Z 25)).setRow wr.heap.size Y := ⟨_, rfl⟩
              have hb13 : Below wr.heap.size wr w13 := by rw [hw13]; exact below_setRow ((Below.refl _ wr).alloc (Nat.le_refl _) _) (Nat.le_refl _) Y
              have q13 : w13.heap[wr.heap.size]? = some (.cells Y 25 (0, 0)) := by rw [hw13]; exact setRow_heap _ _ _ _ _ _ qn
              have gb13 := below_then gb hb13 (Nat.le_refl _)
              have hx1 := hashas_any A5 nb c5 Ob HNB.out.symm (by omega) h32b hOb.rise w13 (hi5.below gb13) x hlh
              rw [← hY.out, decide_eq_true hmem] at hx1
              have HW13 := Lib.hid hw13
              subst hA8
              clear hw13 hY hmem
              go_upto_region 22 with (first
                | (with_reducible refine wpList_load_mid rfl 25 (.tmp 84) rfl g (o + k * 32) rfl (u8v x) _ hrgW Tryd.underlying25 rfl hSi ?_; rw [hag])
                | (with_reducible refine wpList_alloc_z rfl 25 rfl Z hZ0 ?_)
                | (with_reducible refine wpList_store_z rfl 25 (.tmp 14) (.tmp 85) rfl _ rfl Y rfl Z _ qn hYz hYi hY1 ?_)
                | fail)
              rw [← HW13.out]
              go_wp2_with (first
                | (with_reducible refine wpList_load_row rfl 25 (.tmp 14) rfl _ rfl 25 Y _ _ q13 Tryd.underlying25 rfl hYi ?_)
                | (go_at_call 19; refine hx1.mono ?_; rintro e w14 ⟨rfl, hb14⟩)
                | fail)
              exact ⟨⟨k + 1, by omega, rfl, below_then gb13 hb14 (Nat.le_refl _)⟩, by simp [intOf]; omega⟩
            · obtain rfl : ng = k := by omega
              replace hi4 := hi4.below gb
              replace hd15 := hd15.below gb
              have hd16w := hd16.below gb
              replace hbW := below_then hbW gb (Nat.le_refl _)
              have hl3 := less_any A4 na c4 Oa HNA.out.symm (by omega) h32a A4 na c4 Oa HNA.out.symm (by omega) h32a hOa.rise wr hi4 hi4
              have hE : lessL Oa Oa = [] := List.eq_nil_iff_forall_not_mem.2 fun x hx => (mem_lessL.1 hx).2 (mem_lessL.1 hx).1
              rw [hE] at hl3
              clear gb hE
              go_wp2_with fail
              refine hl3.mono ?_
              rintro e w17 ⟨v17, rfl, ho17, hb17⟩
              obtain ⟨A17, c17, rfl, -, -, -, -⟩ := ids_of_own (L := []) (by simp) ho17
              clear ho17 hl3
              obtain ⟨w18, hw18⟩ : ∃ w18, w18 = w17.alloc (.cells #[] 25) := ⟨_, rfl⟩
              have hb18 : Below w17.heap.size w17 w18 := by rw [hw18]; exact (Below.refl _ _).alloc (Nat.le_refl _) _
              have ho18 : w18.ownsRow w17.heap.size 25 32 (.slice (some ⟨w17.heap.size, 0, none⟩) 0 0) 0 [] := ⟨rfl, .inr ⟨w17.heap.size, 0, #[], rfl, Nat.le_refl _, by rw [hw18]; exact heap_alloc_new _ _, by omega, by unfold maxLen; omega, rfl, rfl⟩⟩
              have hrD := (hd15.below hb17).below hb18
              have hlenD : (idsC D).length = nd * 32 := by rw [idsC_length D h32l, HND.out]
              have hlenG : (idsC G).length = ng * 32 := by rw [idsC_length G h32t, HNG.out]
              have hrG0 := (hd16w.below hb17).below hb18
              have HW18 := Lib.hid hw18
              have HLD := Lib.hid hlenD
              have HLG := Lib.hid hlenG
              clear hw18 hlenD hlenG
              have hkB : w17.heap.size ≤ w18.heap.size := hb18.size
              go_wp2_with (first
                | (at_builtin; (rw [← HW18.out]; refine wpList_appG elt_id rfl (.tmp 100) (.tmp 101) rfl w17.heap.size _ 0 [] rfl ho18 A15 nd c15 (idsC D) rfl HLD.out hrD (idsC_one D) (by unfold maxLen; omega) (by omega) hkB ?_; intro v19 w19 ho19 hg19; have hb19 := below_grown hb18 ho18 hg19 hkB (Nat.le_refl _); have hrG := (hd16w.below hb17).below hb19))
                | (at_builtin; (refine wpList_appG elt_id rfl (.tmp 102) (.tmp 103) rfl w17.heap.size v19 (0 + nd) ([] ++ idsC D) rfl ho19 A16 ng c16 (idsC G) rfl HLG.out hrG (idsC_one G) (by unfold maxLen; omega) (by omega) hb19.size ?_; intro v20 w20 ho20 hg20; have hb20 := below_grown hb19 ho19 hg20 hb19.size (Nat.le_refl _)))
                | fail)
              rw [List.nil_append, ← idsC_app, Nat.zero_add] at ho20
              have h32dg : ∀ x ∈ D ++ G, x.length = 32 := fun x hx => (List.mem_append.1 hx).elim (h32l x) (h32t x)
              obtain ⟨A20, c20, rfl, -, -, hd20, -⟩ := ids_of_own h32dg ho20
              have hmm : ∀ x, x ∈ Oa ↔ x ∈ D ++ G := fun x => by
                rw [List.mem_append, HG.out, mem_lessL]
                constructor
                · intro h
                  by_cases h2 : x ∈ D
                  · exact .inl h2
                  · exact .inr ⟨h, h2⟩
                · rintro (h | h)
                  · rw [HD.out] at h
                    exact (mem_lessL.1 h).1
                  · exact h.1
              have hDG : (D ++ G).length = nd + ng := by rw [List.length_append, HND.out, HNG.out]
              have hsF := set_any A20 (nd + ng) c20 (D ++ G) hDG h32dg (by omega) w20 hd20
              have hbT := below_then (below_then hb17 hb20 (Nat.le_refl _)) (Below.refl _ _) (Nat.le_refl _)
              have HDG := Lib.hid hDG
              clear hDG
              refine hsF.mono ?_
              rintro e w21 ⟨v21, Of, rfl, hOf, hlf, ho21, hb21⟩
              have hOf2 : IsSet Oa (D ++ G) := ⟨hOa.rise, hmm⟩
              obtain rfl := hOf.uniq hOf2
              obtain ⟨A21, c21, rfl, -, -, -, hi21⟩ := ids_of_own h32a ho21
              have hsm := rsame_any A21 na c21 Of HNA.out.symm (by omega) h32a A4 na c4 Of HNA.out.symm (by omega) h32a w21 hi21 ((hi4.below hbT).below hb21)
              rw [decide_eq_true rfl] at hsm
              rw [← HNA.out]
              clear ho21 hsF
              go_wp2_with fail
              refine hsm.mono ?_
              rintro e w22 ⟨rfl, hb22⟩
              go_wp2_with fail
              go_ret
              exact ⟨rfl, below_then (below_then (below_then hbW hbT (Nat.le_refl _)) hb21 (Nat.le_refl _)) hb22 (Nat.le_refl _)⟩
end Go.Proofs.YtcdnbidenaljlaaDoor
