/- The law HashSets, walked (hash.Set's contract is an argument). -/
import Derived.Test.YtcdnbidenaljlaaSetGf
import Derived.Test.YtcdnbidenaljlaaSetR
namespace Go.Proofs.Ytcdnbidenaljlaa
open Go.RowKit

/-- What hash.Set's contract says. -/
def SetC : Prop := ∀ (A : Option Addr) (n c : Nat) (L : List (List UInt8)) (_ : L.length = n) (_ : ∀ x ∈ L, x.length = 32) (_ : n ≤ 1000000) (w : World) (_ : RdC w A (idsC L)),
    Calls Try.prog 11 #[.slice A n c] w fun e w' => ∃ v O, e = .returned v ∧ IsSet O L ∧ O.length ≤ n ∧ w'.ownsRow w.heap.size 23 32 v O.length (idsC O) ∧ Below w.heap.size w w'
theorem rsame_true (A : Option Addr) (n c : Nat) (A2 : Option Addr) (c2 : Nat) (L : List (List UInt8)) (hL : L.length = n) (hn : n ≤ 1000000) (h32 : ∀ x ∈ L, x.length = 32) (w : World) (hr : RdIds w A L) (hr2 : RdIds w A2 L) :
    Calls Try.prog 13 #[.slice A n c, .slice A2 n c2] w fun e w' => e = .returned (.bool true) ∧ Below w.heap.size w w' := by
  have h := rsame_any A n c L hL hn h32 A2 n c2 L hL hn h32 w hr hr2
  rw [decide_eq_true rfl] at h
  exact h
set_option linter.unusedVariables false
set_option maxRecDepth 100000 in
set_option maxHeartbeats 4000000 in
theorem hashSets_list (HSC : SetC) (A : Option Addr) (n c : Nat) (L : List (List UInt8)) (A2 : Option Addr) (n2 c2 : Nat) (M : List (List UInt8)) (id : List UInt8) (w : World) (h0 : IdRow w A n c L) (h1 : IdRow w A2 n2 c2 M) (hid : id.length = 32) :
    Calls Try.prog 4 #[.slice A n c, .slice A2 n2 c2, .agg (idC id)] w fun e w' => e = .returned (.bool true) ∧ Below w.heap.size w w' := by
  obtain ⟨hL, hnc, hcm, h32, hr⟩ := h0
  obtain ⟨hM, hnc2, hcm2, h322, hr2⟩ := h1
  have hb1 : Below w.heap.size w (w.alloc (.cells (idC id) 23)) := (Below.refl _ w).alloc (Nat.le_refl _) _
  have hgi : (w.alloc (.cells (idC id) 23)).heap[w.heap.size]? = some (.cells (idC id) 23 (0, 0)) := heap_alloc_new _ _
  obtain ⟨X, hX, hXs⟩ : ∃ X : Array Value, X = idC id ∧ X.size = 32 := ⟨_, rfl, by rw [idC_size, hid]⟩
  rw [← hX] at hb1 hgi ⊢
  have HX := Lib.hid hX
  have hXi : (Try.prog.info? 23).map (·.size) = some X.size := by rw [hXs]; exact size_id
  clear hX
  go_enter Try.func4, Try.ntmps4
  by_cases h40 : 40 < n
  · go_wp2_with fail
    go_ret
    exact ⟨rfl, hb1⟩
  by_cases h41 : 40 < n2
  · go_wp2_with fail
    go_ret
    exact ⟨rfl, hb1⟩
  go_upto_region 3 with (fail)
  obtain ⟨w1, hw1⟩ : ∃ w1, w1 = w.alloc (.cells X 23) := ⟨_, rfl⟩
  rw [← hw1] at hb1 hgi ⊢
  clear hw1
  obtain ⟨w2, hw2⟩ : ∃ w2, w2 = w1.alloc (.cells #[] 23) := ⟨_, rfl⟩
  have hb2 : Below w1.heap.size w1 w2 := by rw [hw2]; exact (Below.refl _ _).alloc (Nat.le_refl _) _
  have ho2 : w2.ownsRow w1.heap.size 23 32 (.slice (some ⟨w1.heap.size, 0, none⟩) 0 0) 0 [] := ⟨rfl, .inr ⟨w1.heap.size, 0, #[], rfl, Nat.le_refl _, by rw [hw2]; exact heap_alloc_new _ _, by omega, by unfold maxLen; omega, rfl, rfl⟩⟩
  have hrA := (hr.below hb1).below hb2
  have hlen : (idsC L).length = n * 32 := by rw [idsC_length L h32, hL]
  have HW2 := Lib.hid hw2
  have HLN := Lib.hid hlen
  clear hw2 hlen
  go_upto_region 4 with (first
    | (at_builtin; rw [← HW2.out]; refine wpList_app elt_id rfl (.tmp 22) (.tmp 23) rfl w1.heap.size _ 0 [] rfl ho2 A n c (idsC L) rfl HLN.out hrA (idsC_one L) (by unfold maxLen; omega) (by omega) hb2.size ?_; intro v3 w3 ho3 hg3)
    | fail)
  rw [Nat.zero_add, List.nil_append] at ho3
  have hb3 := below_then hb1 (below_grown hb2 ho2 hg3 hb2.size (Nat.le_refl _)) (Nat.le_refl _)
  have hgi3 := ((below_grown hb2 ho2 hg3 hb2.size (Nat.le_refl _)).block _ (lt_of_get hgi)).trans hgi
  obtain ⟨A3, c3, rfl, -, -, hd3, hi3⟩ := ids_of_own h32 ho3
  clear hrA ho3 hg3 ho2 hb2 hgi hb1
  have hs1 := HSC A3 n c3 L hL h32 (by omega) w3 hd3
  have hrM := hr2.below hb3
  go_wp2_with fail
  refine hs1.mono ?_
  rintro e w4 ⟨v4, Oa, rfl, hOa, hla, ho4, hb4⟩
  have hs2 := HSC A2 n2 c2 M hM h322 (by omega) w4 (hrM.below hb4)
  go_wp2_with fail
  refine hs2.mono ?_
  rintro e w5 ⟨v5, Ob, rfl, hOb, hlb, ho5, hb5⟩
  have h32a := hOa.len32 h32
  have h32b := hOb.len32 h322
  obtain ⟨A4, c4, rfl, -, -, hd4, hi4⟩ := ids_of_own h32a ho4
  obtain ⟨A5, c5, rfl, -, -, hd5, hi5⟩ := ids_of_own h32b ho5
  replace hi4 := hi4.below hb5
  have hb45 := below_then hb4 hb5 (Nat.le_refl _)
  replace hgi3 := (hb45.block _ (lt_of_get hgi3)).trans hgi3
  replace hi3 := hi3.below hb45
  replace hb3 := below_then hb3 hb45 (Nat.le_refl _)
  have hrL := RdIds.of_rd h32 hr
  have hrM2 := RdIds.of_rd h322 hr2
  clear hs1 hs2 ho4 ho5 hb4 hb5 hb45 hd4 hd5 hd3 hrM HLN HW2
  have hs1 := rset_any A n c L hL (by omega) h32 w5 (hrL.below hb3)
  go_wp2_with fail
  refine hs1.mono ?_
  rintro e w6 ⟨v6, Ox, rfl, hOx, hlx, ho6, hb6⟩
  have hs2 := rset_any A2 n2 c2 M hM (by omega) h322 w6 ((hrM2.below hb3).below hb6)
  go_wp2_with fail
  refine hs2.mono ?_
  rintro e w7 ⟨v7, Oy, rfl, hOy, hly, ho7, hb7⟩
  obtain rfl := hOx.uniq hOa
  obtain rfl := hOy.uniq hOb
  obtain ⟨A6, c6, rfl, -, -, -, hi6⟩ := ids_of_own h32a ho6
  obtain ⟨A7, c7, rfl, -, -, -, hi7⟩ := ids_of_own h32b ho7
  replace hi6 := hi6.below hb7
  have hb67 := below_then hb6 hb7 (Nat.le_refl _)
  replace hgi3 := (hb67.block _ (lt_of_get hgi3)).trans hgi3
  replace hi3 := hi3.below hb67
  replace hi4 := hi4.below hb67
  replace hi5 := hi5.below hb67
  replace hb3 := below_then hb3 hb67 (Nat.le_refl _)
  clear hs1 hs2 ho6 ho7 hb6 hb7 hb67 hOx hOy hlx hly
  obtain ⟨na, hna⟩ : ∃ na, na = Ox.length := ⟨_, rfl⟩
  obtain ⟨nb, hnb⟩ : ∃ nb, nb = Oy.length := ⟨_, rfl⟩
  rw [← hna] at hla ⊢
  rw [← hnb] at hlb ⊢
  have HNA := Lib.hid hna
  have HNB := Lib.hid hnb
  clear hna hnb
  have hs1 := fun W (hW : Below w7.heap.size w7 W) => rsame_true A4 na c4 A6 c6 Ox HNA.out.symm (by omega) h32a W (hi4.below hW) (hi6.below hW)
  have hs2 := fun W (hW : Below w7.heap.size w7 W) => rsame_true A5 nb c5 A7 c7 Oy HNB.out.symm (by omega) h32b W (hi5.below hW) (hi7.below hW)
  have hs3 := fun W (hW : Below w7.heap.size w7 W) => rsame_true A3 n c3 A c L hL (by omega) h32 W (hi3.below hW) ((hrL.below hb3).below hW)
  go_wp2_with fail
  refine (hs1 _ (Below.refl _ _)).mono ?_
  rintro e w8 ⟨rfl, hb8⟩
  go_wp2_with fail
  refine (hs2 _ hb8).mono ?_
  rintro e w9 ⟨rfl, hb9⟩
  have hb89 := below_then hb8 hb9 (Nat.le_refl _)
  go_wp2_with fail
  refine (hs3 _ hb89).mono ?_
  rintro e w10 ⟨rfl, hb10⟩
  go_upto_region 8 with (fail)
  have hbA := below_then hb89 hb10 (Nat.le_refl _)
  have hgiA := (hbA.block _ (lt_of_get hgi3)).trans hgi3
  have hbW := below_then hb3 hbA (Nat.le_refl _)
  clear hb8 hb9 hb10 hb89 hs1 hs2 hs3
  obtain ⟨w11, hw11⟩ : ∃ w11, w11 = w10.alloc (.cells X 23) := ⟨_, rfl⟩
  have hb11 : Below w10.heap.size w10 w11 := by rw [hw11]; exact (Below.refl _ _).alloc (Nat.le_refl _) _
  have hl1 : (idsC [id]).length = 1 * 32 := idsC_length [id] (by simpa using hid)
  have hXl : X.toList = idsC [id] := by rw [HX.out]; simp [idsC, idC]
  have ho11 : w11.ownsRow w10.heap.size 23 32 (.slice (some ⟨w10.heap.size, 0, none⟩) 1 1) 1 (idsC [id]) := ⟨hl1, .inr ⟨w10.heap.size, 1, X, rfl, Nat.le_refl _, by rw [hw11]; exact heap_alloc_new _ _, by omega, by unfold maxLen; omega, by rw [hXs], by rw [← hXl, List.take_of_length_le (by rw [Array.length_toList, hXs]; omega)]⟩⟩
  have hrM11 := ((hr2.below hbW).below hb11)
  have hlenM : (idsC M).length = n2 * 32 := by rw [idsC_length M h322, hM]
  have HLM := Lib.hid hlenM
  have HW11 := Lib.hid hw11
  clear hw11 hlenM hl1 hXl
  have h32m : ∀ x ∈ [id] ++ M, x.length = 32 := fun x hx => by
    rcases List.mem_append.1 hx with h | h
    · rw [List.mem_singleton.1 h]; exact hid
    · exact h322 x h
  obtain ⟨kk, hkk⟩ : ∃ kk, kk = 1 + n2 := ⟨_, rfl⟩
  have hkki : (kk : Int) ≤ 41 := by omega
  have HKK := Lib.hid hkk
  clear hkk
  go_wp2_with (first
    | (with_reducible refine wpList_load_row rfl 23 (.tmp 5) rfl _ rfl 23 X _ _ hgiA Try.underlying23 rfl hXi ?_)
    | (with_reducible refine wpList_id1 rfl (.tmp 49) rfl X id HX.out hid rfl ?_; rw [← HW11.out])
    | (at_builtin; refine wpList_app elt_id rfl (.tmp 50) (.tmp 51) rfl w10.heap.size _ 1 (idsC [id]) rfl ho11 A2 n2 c2 (idsC M) rfl HLM.out hrM11 (idsC_one M) (by unfold maxLen; omega) (by omega) hb11.size ?_; intro v12 w12 ho12 hg12; rw [← idsC_app, ← HKK.out] at ho12; have hb12 := below_grown hb11 ho11 hg12 hb11.size (Nat.le_refl _); obtain ⟨A8, c8, rfl, -, -, -, hi8⟩ := ids_of_own h32m ho12)
    | fail)
  replace hbA := below_then hbA hb12 (Nat.le_refl _)
  replace hbW := below_then hbW hb12 (Nat.le_refl _)
  clear ho12 hg12 ho11 hb11 hb12 HLM HW11 hgiA hgi3
  obtain ⟨K, hK⟩ : ∃ K, K = [id] ++ M := ⟨_, rfl⟩
  have hKk : Hid (K.length = kk) := Lib.hid (by rw [hK, List.length_append, hM, HKK.out]; rfl)
  rw [← hK] at h32m hi8
  clear hK
  replace hi4 := hi4.below hbA
  replace hi5 := hi5.below hbA
  replace hi6 := hi6.below hbA
  replace hi7 := hi7.below hbA
  obtain ⟨Z, hZ0, hZs⟩ : ∃ Z : Array Value, (Try.prog.info? 23).bind (fun i => i.zero.map Value.cells) = some Z ∧ Z.size = 32 := ⟨_, zero_id, by rw [idC_size]; rfl⟩
  go_loopw [54] (fun s wr => ∃ k : Nat, k ≤ kk ∧ s = .int .i64 (k : Int) ∧ Below w12.heap.size w12 wr) (fun s _ => kk - (intOf s).toNat)
  case atStart => exact ⟨0, Nat.zero_le _, rfl, Below.refl _ _⟩
  case round =>
    obtain ⟨k, hk, rfl, gb⟩ := hrel
    by_cases hlt : k < kk
    · have hhK : k < K.length := by rw [hKk.out]; exact hlt
      have hki : (k : Int) < (kk : Int) := by omega
      obtain ⟨g, o, hA8, hrg⟩ := hi8 k hhK
      have hlh : K[k].length = 32 := h32m _ (List.getElem_mem hhK)
      have hrgW := range_below hrg gb
      generalize K[k] = x at hlh hrgW hrg
      have hSi : (Try.prog.info? 23).map (·.size) = some (u8v x).length := by rw [u8v_length, hlh]; exact size_id
      obtain ⟨Y, hY, hYs, hY1⟩ : ∃ Y : Array Value, Hid (Y = idC x) ∧ Y.size = 32 ∧ (∀ u ∈ Y.toList, u.oneCell' = true) := ⟨_, rfl, by rw [idC_size, hlh], by simpa [idC] using u8v_one x⟩
      have hYi : (Try.prog.info? 23).map (·.size) = some Y.size := by rw [hYs]; exact size_id
      have hYz : Y.size = Z.size := by rw [hYs, hZs]
      have hag : (u8v x).toArray = Y := by rw [hY.out]; rfl
      have qn : (wr.alloc (.cells Z 23)).heap[wr.heap.size]? = some (.cells Z 23 (0, 0)) := heap_alloc_new _ _
      obtain ⟨w13, hw13⟩ : ∃ w13, w13 = (wr.alloc (.cells Z 23)).setRow wr.heap.size Y := ⟨_, rfl⟩
      have hb13 : Below wr.heap.size wr w13 := by rw [hw13]; exact below_setRow ((Below.refl _ wr).alloc (Nat.le_refl _) _) (Nat.le_refl _) Y
      have q13 : w13.heap[wr.heap.size]? = some (.cells Y 23 (0, 0)) := by rw [hw13]; exact setRow_heap _ _ _ _ _ _ qn
      have gb13 := below_then gb hb13 (Nat.le_refl _)
      have hx1 := fun W (hW : Below w13.heap.size w13 W) => hashas_any A4 na c4 Ox HNA.out.symm (by omega) h32a hOa.rise W ((hi4.below gb13).below hW) x hlh
      have hx2 := fun W (hW : Below w13.heap.size w13 W) => rhasid_any A6 na c6 Ox HNA.out.symm (by omega) h32a W ((hi6.below gb13).below hW) x hlh
      rw [← hY.out] at hx1 hx2
      obtain ⟨bo, hbo⟩ : ∃ bo, bo = decide (x ∈ Ox) := ⟨_, rfl⟩
      rw [← hbo] at hx1 hx2
      have HW13 := Lib.hid hw13
      subst hA8
      clear hbo hw13 hY
      go_upto_region 11 with (first
        | (with_reducible refine wpList_load_mid rfl 23 (.tmp 56) rfl g (o + k * 32) rfl (u8v x) _ hrgW Try.underlying23 rfl hSi ?_; rw [hag])
        | (with_reducible refine wpList_alloc_z rfl 23 rfl Z hZ0 ?_)
        | (with_reducible refine wpList_store_z rfl 23 (.tmp 13) (.tmp 57) rfl _ rfl Y rfl Z _ qn hYz hYi hY1 ?_)
        | fail)
      rw [← HW13.out]
      refine hs11 wr.heap.size na c4 na c6 A4 A6 Y bo w13 hYi hx1 hx2 (fun W hW => (hW.block _ (lt_of_get q13)).trans q13) fun w14 hb14 => ?_
      go_wp2_with fail
      exact ⟨⟨k + 1, by omega, rfl, below_then gb13 hb14 (Nat.le_refl _)⟩, by simp [intOf]; omega⟩
    · obtain rfl : k = kk := by omega
      have hl1 := fun W (hW : Below wr.heap.size wr W) => less_any A4 na c4 Ox HNA.out.symm (by omega) h32a A5 nb c5 Oy HNB.out.symm (by omega) h32b hOb.rise W ((hi4.below gb).below hW) ((hi5.below gb).below hW)
      have hl2 := fun W (hW : Below wr.heap.size wr W) => rless_any A6 na c6 Ox HNA.out.symm (by omega) h32a A7 nb c7 Oy HNB.out.symm (by omega) h32b W ((hi6.below gb).below hW) ((hi7.below gb).below hW)
      have h32l := lessL_32 (L2 := Oy) h32a
      have hll : (lessL Ox Oy).length ≤ na := by rw [HNA.out]; exact List.length_filter_le _ _
      have gb4 := hi4.below gb
      have gb6 := hi6.below gb
      go_wp2_with fail
      refine (hl1 _ (Below.refl _ _)).mono ?_
      rintro e w15 ⟨v15, rfl, ho15, hb15⟩
      obtain ⟨A15, c15, rfl, -, -, -, hi15⟩ := ids_of_own h32l ho15
      go_wp2_with fail
      refine (hl2 _ hb15).mono ?_
      rintro e w16 ⟨v16, rfl, ho16, hb16⟩
      obtain ⟨A16, c16, rfl, -, -, -, hi16⟩ := ids_of_own h32l ho16
      go_wp2_with fail
      refine (rsame_true A15 _ c15 A16 c16 _ rfl (by omega) h32l w16 (hi15.below hb16) hi16).mono ?_
      rintro e w17 ⟨rfl, hb17⟩
      go_wp2_with fail
      refine (rsame_true A4 na c4 A6 c6 Ox HNA.out.symm (by omega) h32a w17 (((gb4.below hb15).below hb16).below hb17) (((gb6.below hb15).below hb16).below hb17)).mono ?_
      rintro e w18 ⟨rfl, hb18⟩
      go_wp2_with fail
      go_ret
      exact ⟨rfl, below_then (below_then (below_then (below_then (below_then hbW gb (Nat.le_refl _)) hb15 (Nat.le_refl _)) hb16 (Nat.le_refl _)) hb17 (Nat.le_refl _)) hb18 (Nat.le_refl _)⟩
end Go.Proofs.Ytcdnbidenaljlaa
