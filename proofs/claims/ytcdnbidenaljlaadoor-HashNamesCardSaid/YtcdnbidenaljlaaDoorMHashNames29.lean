/- The law HashNames, walked (printed by gen_hnames.py). -/
import Derived.Test.YtcdnbidenaljlaaDoorMHashNames17
import Derived.Test.YtcdnbidenaljlaaDoorMHashNames15
import Derived.Test.YtcdnbidenaljlaaDoorMHashNames28
import Derived.Test.YtcdnbidenaljlaaDoorMHashNames19
import Derived.Test.YtcdnbidenaljlaaDoorMHashNames27
namespace Go.Proofs.YtcdnbidenaljlaaDoor
open Go.RowKit
set_option linter.unusedVariables false
def msgL : List UInt8 := [97, 98, 99, 100, 98, 99, 100, 101, 99, 100, 101, 102, 100, 101, 102, 103, 101, 102, 103, 104, 102, 103, 104, 105, 103, 104, 105, 106, 104, 105, 106, 107, 105, 106, 107, 108, 106, 107, 108, 109, 107, 108, 109, 110, 108, 109, 110, 111, 109, 110, 111, 112, 110, 111, 112, 113]
def longT : List UInt8 := [50, 52, 56, 100, 54, 97, 54, 49, 100, 50, 48, 54, 51, 56, 98, 56, 101, 53, 99, 48, 50, 54, 57, 51, 48, 99, 51, 101, 54, 48, 51, 57, 97, 51, 51, 99, 101, 52, 53, 57, 54, 52, 102, 102, 50, 49, 54, 55, 102, 54, 101, 99, 101, 100, 100, 52, 49, 57, 100, 98, 48, 54, 99, 49]
def oneI : List UInt8 := 1 :: List.replicate 31 0
def otherI : List UInt8 := 0 :: 9 :: List.replicate 30 0
theorem sha_two : textB (sha msgL) = longT := by decide +kernel
theorem prs_abc : parseL abcT = sha [97, 98, 99] := by decide +kernel
theorem pre_abc : parseE abcT = 0 := by decide +kernel
theorem pre_up : parseE (Lib.toUpperA abcT) = 30 := by decide +kernel
theorem up_len : (Lib.toUpperA abcT).length ≤ 100 := by decide +kernel
theorem pre_d1 : parseE (abcT.drop 1) = 30 := by decide +kernel
theorem pre_p0 : parseE (abcT ++ [48]) = 30 := by decide +kernel
theorem pre_nil : parseE [] = 30 := by decide +kernel
theorem pre_g : parseE (103 :: abcT.drop 1) = 30 := by decide +kernel
theorem one_built : ∀ w, (Instr.build 25 #[(0, .int .u8 1)]).run Tryd.prog w = .ok (.agg (idC oneI)) w := fun _ => by kernel_rfl
theorem other_built : ∀ w, (Instr.build 25 #[(0, .int .u8 0), (1, .int .u8 9)]).run Tryd.prog w = .ok (.agg (idC otherI)) w := fun _ => by kernel_rfl
theorem cmp_oo : Lib.compareBytes oneI otherI = 1 := by decide +kernel
theorem cmp_ot : Lib.compareBytes otherI oneI = -1 := by decide +kernel
theorem set_oo : IsSet [otherI, oneI] [oneI, otherI, oneI] := ⟨rise_pw.2 (List.pairwise_cons.2 ⟨fun x hx => by
    obtain rfl := List.mem_singleton.1 hx
    unfold Ltc
    rw [cmp_ot]
    decide, List.pairwise_singleton _ _⟩), fun x => by
    simp only [List.mem_cons, List.not_mem_nil, or_false]
    constructor
    · rintro (h | h)
      · exact .inr (.inl h)
      · exact .inl h
    · rintro (h | h | h)
      · exact .inr h
      · exact .inl h
      · exact .inr h⟩
theorem sha_not : sha [97, 98, 99] ∉ [otherI, oneI] := by decide +kernel
theorem less_oo : lessL [otherI, oneI] [oneI] = [otherI] := by decide +kernel
theorem id_box (l : List UInt8) (h : l.length = 32) (Z : Array Value) (hZs : Z.size = 32) : ∃ V : Array Value, Hid (V = idC l) ∧ (∀ u ∈ V.toList, u.oneCell' = true) ∧ (Tryd.prog.info? 25).map (·.size) = some V.size ∧ V.size = Z.size :=
  ⟨_, rfl, by simpa [idC] using u8v_one l, by rw [idC_size, h]; exact size_id, by rw [idC_size, h, hZs]⟩
theorem of_lit (b b2 k : Nat) (l : List UInt8) (hk : l.length = k) (hk2 : k ≤ 1000) (W : World) (t t2 : TypeId) (fr fr2 : Nat × Nat) (g0 : W.heap[b]? = some (.cells (u8v l).toArray t fr)) (g1 : W.heap[b2]? = some (.cells #[.slice (some ⟨b, 0, none⟩) k k] t2 fr2)) (hT : TabsOK W) :
    Calls Tryd.prog 11 #[.slice (some ⟨b2, 0, none⟩) 1 1] W fun e w' => e = .returned (.agg (idC (sha l))) ∧ Below W.heap.size W w' := by
  have h := of_any (some ⟨b2, 0, none⟩) 1 1 [⟨some ⟨b, 0, none⟩, k, k, l⟩] rfl (by omega) W (fun j u hj => ⟨_, rfl, by
      rw [addr_add_plain, Nat.zero_add, cell_of_row _ _ _ _ _ _ g1, ← hj, ← Array.getElem?_toList]; rfl⟩) (fun s hs => by
      obtain rfl := List.mem_singleton.1 hs
      exact ⟨hk, Nat.le_refl _, fun j u hj => ⟨_, rfl, by rw [addr_add_plain, Nat.zero_add, cell_of_row _ _ _ _ _ _ g0, ← hj, ← Array.getElem?_toList]⟩⟩) hT (show (flat _).length ≤ 800000 by simp [flat]; omega)
  have e : flat [⟨some ⟨b, 0, none⟩, k, k, l⟩] = l := by simp [flat]
  rw [e] at h
  exact h
theorem wpList_build_w {P : Program} {ops : Array Oper} {rest : List Oper} {o : Oper} {a : Act} {w : World} {Q : Exit → Act → World → Prop} (hgd : o.guard = none) (ty : TypeId) (args : Array (Nat × Operand)) (ho : o.op = .build ty args) (vs : Array (Nat × Value)) (he : args = vs.map fun x => (x.1, .const x.2)) (V : Array Value) (hr : (Instr.build ty vs).run P w = .ok (.agg V) w)
    (h : wpList P ops Q rest (a.put o.dst (.agg V)) w) : wpList P ops Q (o :: rest) a w := by
  refine wpList_plain hgd fun K hK => ?_
  unfold Oper.wp execOp
  simp only [ho, Sem.run_bind]
  have he2 : args.map (fun x => (x.1, a.eval x.2)) = vs := by
    subst he
    rw [Array.map_map]
    exact (Array.map_congr_left fun x _ => rfl).trans (Array.map_id _)
  rw [show (args.map fun x => (x.1, a.eval x.2)) = vs from he2, hr]
  exact hK _ _ h
theorem wpList_ids3 {ops : Array Oper} {rest : List Oper} {o : Oper} {a : Act} {w : World} {Q : Exit → Act → World → Prop} (hgd : o.guard = none) (x0 x1 x2 : Operand) (ho : o.op = .buildSlice 47 3 #[(0, x0), (1, x1), (2, x2)]) (l0 l1 l2 : List UInt8) (hl : ∀ y ∈ [l0, l1, l2], y.length = 32) (h0 : a.eval x0 = .agg (idC l0)) (h1 : a.eval x1 = .agg (idC l1)) (h2 : a.eval x2 = .agg (idC l2))
    (h : wpList Tryd.prog ops Q rest (a.put o.dst (.slice (some ⟨w.heap.size, 0, none⟩) 3 3)) (w.alloc (.cells (idsC [l0, l1, l2]).toArray 25))) : wpList Tryd.prog ops Q (o :: rest) a w :=
  wpList_ids hgd [l0, l1, l2] hl (by simp) (by simp) 3 rfl _ ho (by simp [h0, h1, h2]) h
theorem rd_ids {W : World} {b : Nat} {L : List (List UInt8)} {t : TypeId} {fr : Nat × Nat} (h : W.heap[b]? = some (.cells (idsC L).toArray t fr)) : RdC W (some ⟨b, 0, none⟩) (idsC L) := fun j u hj => ⟨_, rfl, by
  rw [addr_add_plain, Nat.zero_add, cell_of_row _ _ j _ _ _ h]
  simpa using hj⟩
theorem rd_u8 {W : World} {b : Nat} {l : List UInt8} {t : TypeId} {fr : Nat × Nat} (h : W.heap[b]? = some (.cells (u8v l).toArray t fr)) : RdC W (some ⟨b, 0, none⟩) (u8v l) := fun j u hj => ⟨_, rfl, by
  rw [addr_add_plain, Nat.zero_add, cell_of_row _ _ j _ _ _ h]
  simpa using hj⟩
theorem parse_k (s : List UInt8) (hs : s.length ≤ 100) (E : Int) (hE : parseE s = E) (V : Array Value) (hV : V = idC (parseL s)) (w : World) :
    Calls Tryd.prog 14 #[.string (bstr s)] w fun e w' => e = .returned (.tuple #[.agg V, .int .i64 E]) ∧ Below w.heap.size w w' := by
  have h := parse_any s hs w
  rw [hE, ← hV] at h
  exact h
theorem slice1_abc (W : World) : (Instr.slice 9 (.string ⟨#[98, 97, 55, 56, 49, 54, 98, 102, 56, 102, 48, 49, 99, 102, 101, 97, 52, 49, 52, 49, 52, 48, 100, 101, 53, 100, 97, 101, 50, 50, 50, 51, 98, 48, 48, 51, 54, 49, 97, 51, 57, 54, 49, 55, 55, 97, 57, 99, 98, 52, 49, 48, 102, 102, 54, 49, 102, 50, 48, 48, 49, 53, 97, 100]⟩) (some (.int .i64 1)) none none).run Tryd.prog W = .ok (.string (bstr (abcT.drop 1))) W := by kernel_rfl
set_option maxRecDepth 100000 in
set_option maxHeartbeats 16000000 in
theorem hashNames_walk (w : World) (hT : TabsOK w) :
    Calls Tryd.prog 7 #[] w fun e w' => e = .returned (.bool true) ∧ Below w.heap.size w w' := by
  obtain ⟨Z, hZ0, hZs⟩ : ∃ Z : Array Value, (Tryd.prog.info? 25).bind (fun i => i.zero.map Value.cells) = some Z ∧ Z.size = 32 := ⟨_, zero_id, by rw [idC_size]; rfl⟩
  have kc := fun (w : World) (C : Array Value) (n c : Nat) => Lib.run_convert_bytes_const (P := Tryd.prog) w 22 5 C n c Tryd.underlying22 Tryd.underlying5
  have hs1 := slice1_abc
  obtain ⟨w1, hw1⟩ : ∃ w1, w1 = (w.alloc (.cells #[.int .u8 97, .int .u8 98, .int .u8 99, .int .u8 100, .int .u8 98, .int .u8 99, .int .u8 100, .int .u8 101, .int .u8 99, .int .u8 100, .int .u8 101, .int .u8 102, .int .u8 100, .int .u8 101, .int .u8 102, .int .u8 103, .int .u8 101, .int .u8 102, .int .u8 103, .int .u8 104, .int .u8 102, .int .u8 103, .int .u8 104, .int .u8 105, .int .u8 103, .int .u8 104, .int .u8 105, .int .u8 106, .int .u8 104, .int .u8 105, .int .u8 106, .int .u8 107, .int .u8 105, .int .u8 106, .int .u8 107, .int .u8 108, .int .u8 106, .int .u8 107, .int .u8 108, .int .u8 109, .int .u8 107, .int .u8 108, .int .u8 109, .int .u8 110, .int .u8 108, .int .u8 109, .int .u8 110, .int .u8 111, .int .u8 109, .int .u8 110, .int .u8 111, .int .u8 112, .int .u8 110, .int .u8 111, .int .u8 112, .int .u8 113] 5 (56, 57))).alloc (.cells #[.slice (some ⟨w.heap.size, 0, none⟩) 56 56] 22) := ⟨_, rfl⟩
  have hbw1 : Below w.heap.size w w1 := by rw [hw1]; exact ((Below.refl _ _).alloc (Nat.le_refl _) _).alloc (by simp) _
  have g0w1 : w1.heap[w.heap.size]? = some (.cells #[.int .u8 97, .int .u8 98, .int .u8 99, .int .u8 100, .int .u8 98, .int .u8 99, .int .u8 100, .int .u8 101, .int .u8 99, .int .u8 100, .int .u8 101, .int .u8 102, .int .u8 100, .int .u8 101, .int .u8 102, .int .u8 103, .int .u8 101, .int .u8 102, .int .u8 103, .int .u8 104, .int .u8 102, .int .u8 103, .int .u8 104, .int .u8 105, .int .u8 103, .int .u8 104, .int .u8 105, .int .u8 106, .int .u8 104, .int .u8 105, .int .u8 106, .int .u8 107, .int .u8 105, .int .u8 106, .int .u8 107, .int .u8 108, .int .u8 106, .int .u8 107, .int .u8 108, .int .u8 109, .int .u8 107, .int .u8 108, .int .u8 109, .int .u8 110, .int .u8 108, .int .u8 109, .int .u8 110, .int .u8 111, .int .u8 109, .int .u8 110, .int .u8 111, .int .u8 112, .int .u8 110, .int .u8 111, .int .u8 112, .int .u8 113] 5 (56, 57)) := by rw [hw1]; exact heap_alloc2_old _ _ _
  have g1w1 : w1.heap[w.heap.size + 1]? = some (.cells #[.slice (some ⟨w.heap.size, 0, none⟩) 56 56] 22 (0, 0)) := by rw [hw1]; exact heap_alloc2_new _ _ _
  have hof := of_lit w.heap.size (w.heap.size + 1) 56 msgL rfl (by omega) w1 _ _ _ _ g0w1 g1w1 (hT.below hbw1)
  obtain ⟨V1, HV1, a1, b1, c1⟩ := id_box (sha msgL) (sha_length _) Z hZs
  rw [← HV1.out] at hof
  have HW1 := Lib.hid hw1
  clear hw1 g0w1 g1w1
  go_enter Tryd.func7, Tryd.ntmps7
  go_wp2_with fail
  rw [← HW1.out]
  refine hof.mono ?_
  rintro e w2 ⟨rfl, hb2⟩
  have hbA := below_then hbw1 hb2 (by have := hbw1.size; omega)
  have qx3 : (w2.alloc (.cells Z 25)).heap[w2.heap.size]? = some (.cells Z 25 (0, 0)) := heap_alloc_new _ _
  obtain ⟨x3, hx3⟩ : ∃ x3, x3 = (w2.alloc (.cells Z 25)).setRow w2.heap.size V1 := ⟨_, rfl⟩
  have hbx3 : Below w2.heap.size w2 x3 := by rw [hx3]; exact below_setRow ((Below.refl _ _).alloc (Nat.le_refl _) _) (Nat.le_refl _) V1
  have mx3 : x3.heap[w2.heap.size]? = some (.cells V1 25 (0, 0)) := by rw [hx3]; exact setRow_heap _ _ _ _ _ _ qx3
  replace hbA := below_then hbA hbx3 (Nat.le_refl _)
  have Hx3 := Lib.hid hx3
  clear hx3
  go_wp2_with (first
    | (with_reducible refine wpList_alloc_z rfl 25 rfl Z hZ0 ?_)
    | (with_reducible refine wpList_store_z rfl 25 (.tmp 1) (.tmp 24) rfl _ rfl V1 rfl Z _ qx3 c1 b1 a1 ?_; rw [← Hx3.out])
    | fail)
  obtain ⟨V2, HV2, a2, b2, c2⟩ := id_box (parseL abcT) (parseL_length _) Z hZs
  refine (parse_k abcT (by decide) 0 pre_abc V2 HV2.out x3).mono ?_
  rintro e y2 ⟨rfl, hby2⟩
  replace hbA := below_then hbA hby2 (Nat.le_refl _)
  replace mx3 := (hby2.block _ (lt_of_get mx3)).trans mx3
  have qx4 : (y2.alloc (.cells Z 25)).heap[y2.heap.size]? = some (.cells Z 25 (0, 0)) := heap_alloc_new _ _
  obtain ⟨x4, hx4⟩ : ∃ x4, x4 = (y2.alloc (.cells Z 25)).setRow y2.heap.size V2 := ⟨_, rfl⟩
  have hbx4 : Below y2.heap.size y2 x4 := by rw [hx4]; exact below_setRow ((Below.refl _ _).alloc (Nat.le_refl _) _) (Nat.le_refl _) V2
  have mx4 : x4.heap[y2.heap.size]? = some (.cells V2 25 (0, 0)) := by rw [hx4]; exact setRow_heap _ _ _ _ _ _ qx4
  replace hbA := below_then hbA hbx4 (Nat.le_refl _)
  have Hx4 := Lib.hid hx4
  clear hx4
  replace mx3 := (hbx4.block _ (lt_of_get mx3)).trans mx3
  go_wp2_with (first
    | (with_reducible refine wpList_alloc_z rfl 25 rfl Z hZ0 ?_)
    | (with_reducible refine wpList_store_z rfl 25 (.tmp 2) (.tmp 27) rfl _ rfl V2 rfl Z _ qx4 c2 b2 a2 ?_; rw [← Hx4.out])
    | fail)
  refine (Tryd.strings_ToUpper_ascii (bstr abcT) x4 (by rw [bstr_size]; decide) (fun j b hb => (by decide : ∀ b ∈ abcT, b.toNat < 128) b (List.mem_of_getElem? hb))).mono ?_
  rintro e u1 ⟨rfl, hbu1⟩
  replace hbA := below_then hbA hbu1 (Nat.le_refl _)
  replace mx3 := (hbu1.block _ (lt_of_get mx3)).trans mx3
  replace mx4 := (hbu1.block _ (lt_of_get mx4)).trans mx4
  go_wp2_with fail
  obtain ⟨V3, HV3, a3, b3, c3⟩ := id_box (parseL (Lib.toUpperA abcT)) (parseL_length _) Z hZs
  refine (parse_k (Lib.toUpperA abcT) up_len 30 pre_up V3 HV3.out u1).mono ?_
  rintro e y3 ⟨rfl, hby3⟩
  replace hbA := below_then hbA hby3 (Nat.le_refl _)
  replace mx3 := (hby3.block _ (lt_of_get mx3)).trans mx3
  replace mx4 := (hby3.block _ (lt_of_get mx4)).trans mx4
  have qx5 : (y3.alloc (.cells Z 25)).heap[y3.heap.size]? = some (.cells Z 25 (0, 0)) := heap_alloc_new _ _
  obtain ⟨x5, hx5⟩ : ∃ x5, x5 = (y3.alloc (.cells Z 25)).setRow y3.heap.size V3 := ⟨_, rfl⟩
  have hbx5 : Below y3.heap.size y3 x5 := by rw [hx5]; exact below_setRow ((Below.refl _ _).alloc (Nat.le_refl _) _) (Nat.le_refl _) V3
  have mx5 : x5.heap[y3.heap.size]? = some (.cells V3 25 (0, 0)) := by rw [hx5]; exact setRow_heap _ _ _ _ _ _ qx5
  replace hbA := below_then hbA hbx5 (Nat.le_refl _)
  have Hx5 := Lib.hid hx5
  clear hx5
  replace mx3 := (hbx5.block _ (lt_of_get mx3)).trans mx3
  replace mx4 := (hbx5.block _ (lt_of_get mx4)).trans mx4
  go_wp2_with (first
    | (with_reducible refine wpList_alloc_z rfl 25 rfl Z hZ0 ?_)
    | (with_reducible refine wpList_store_z rfl 25 (.tmp 4) (.tmp 32) rfl _ rfl V3 rfl Z _ qx5 c3 b3 a3 ?_; rw [← Hx5.out])
    | fail)
  obtain ⟨V4, HV4, a4, b4, c4⟩ := id_box (parseL (abcT.drop 1)) (parseL_length _) Z hZs
  refine (parse_k (abcT.drop 1) (by decide) 30 pre_d1 V4 HV4.out x5).mono ?_
  rintro e y4 ⟨rfl, hby4⟩
  replace hbA := below_then hbA hby4 (Nat.le_refl _)
  replace mx3 := (hby4.block _ (lt_of_get mx3)).trans mx3
  replace mx4 := (hby4.block _ (lt_of_get mx4)).trans mx4
  have qx6 : (y4.alloc (.cells Z 25)).heap[y4.heap.size]? = some (.cells Z 25 (0, 0)) := heap_alloc_new _ _
  obtain ⟨x6, hx6⟩ : ∃ x6, x6 = (y4.alloc (.cells Z 25)).setRow y4.heap.size V4 := ⟨_, rfl⟩
  have hbx6 : Below y4.heap.size y4 x6 := by rw [hx6]; exact below_setRow ((Below.refl _ _).alloc (Nat.le_refl _) _) (Nat.le_refl _) V4
  have mx6 : x6.heap[y4.heap.size]? = some (.cells V4 25 (0, 0)) := by rw [hx6]; exact setRow_heap _ _ _ _ _ _ qx6
  replace hbA := below_then hbA hbx6 (Nat.le_refl _)
  have Hx6 := Lib.hid hx6
  clear hx6
  replace mx3 := (hbx6.block _ (lt_of_get mx3)).trans mx3
  replace mx4 := (hbx6.block _ (lt_of_get mx4)).trans mx4
  go_wp2_with (first
    | (with_reducible refine wpList_alloc_z rfl 25 rfl Z hZ0 ?_)
    | (with_reducible refine wpList_store_z rfl 25 (.tmp 6) (.tmp 37) rfl _ rfl V4 rfl Z _ qx6 c4 b4 a4 ?_; rw [← Hx6.out])
    | fail)
  obtain ⟨V5, HV5, a5, b5, c5⟩ := id_box (parseL (abcT ++ [48])) (parseL_length _) Z hZs
  refine (parse_k (abcT ++ [48]) (by decide) 30 pre_p0 V5 HV5.out x6).mono ?_
  rintro e y5 ⟨rfl, hby5⟩
  replace hbA := below_then hbA hby5 (Nat.le_refl _)
  replace mx3 := (hby5.block _ (lt_of_get mx3)).trans mx3
  replace mx4 := (hby5.block _ (lt_of_get mx4)).trans mx4
  have qx7 : (y5.alloc (.cells Z 25)).heap[y5.heap.size]? = some (.cells Z 25 (0, 0)) := heap_alloc_new _ _
  obtain ⟨x7, hx7⟩ : ∃ x7, x7 = (y5.alloc (.cells Z 25)).setRow y5.heap.size V5 := ⟨_, rfl⟩
  have hbx7 : Below y5.heap.size y5 x7 := by rw [hx7]; exact below_setRow ((Below.refl _ _).alloc (Nat.le_refl _) _) (Nat.le_refl _) V5
  have mx7 : x7.heap[y5.heap.size]? = some (.cells V5 25 (0, 0)) := by rw [hx7]; exact setRow_heap _ _ _ _ _ _ qx7
  replace hbA := below_then hbA hbx7 (Nat.le_refl _)
  have Hx7 := Lib.hid hx7
  clear hx7
  replace mx3 := (hbx7.block _ (lt_of_get mx3)).trans mx3
  replace mx4 := (hbx7.block _ (lt_of_get mx4)).trans mx4
  go_wp2_with (first
    | (with_reducible refine wpList_alloc_z rfl 25 rfl Z hZ0 ?_)
    | (with_reducible refine wpList_store_z rfl 25 (.tmp 8) (.tmp 41) rfl _ rfl V5 rfl Z _ qx7 c5 b5 a5 ?_; rw [← Hx7.out])
    | fail)
  obtain ⟨V6, HV6, a6, b6, c6⟩ := id_box (parseL []) (parseL_length _) Z hZs
  refine (parse_k [] (by decide) 30 pre_nil V6 HV6.out x7).mono ?_
  rintro e y6 ⟨rfl, hby6⟩
  replace hbA := below_then hbA hby6 (Nat.le_refl _)
  replace mx3 := (hby6.block _ (lt_of_get mx3)).trans mx3
  replace mx4 := (hby6.block _ (lt_of_get mx4)).trans mx4
  have qx8 : (y6.alloc (.cells Z 25)).heap[y6.heap.size]? = some (.cells Z 25 (0, 0)) := heap_alloc_new _ _
  obtain ⟨x8, hx8⟩ : ∃ x8, x8 = (y6.alloc (.cells Z 25)).setRow y6.heap.size V6 := ⟨_, rfl⟩
  have hbx8 : Below y6.heap.size y6 x8 := by rw [hx8]; exact below_setRow ((Below.refl _ _).alloc (Nat.le_refl _) _) (Nat.le_refl _) V6
  have mx8 : x8.heap[y6.heap.size]? = some (.cells V6 25 (0, 0)) := by rw [hx8]; exact setRow_heap _ _ _ _ _ _ qx8
  replace hbA := below_then hbA hbx8 (Nat.le_refl _)
  have Hx8 := Lib.hid hx8
  clear hx8
  replace mx3 := (hbx8.block _ (lt_of_get mx3)).trans mx3
  replace mx4 := (hbx8.block _ (lt_of_get mx4)).trans mx4
  go_wp2_with (first
    | (with_reducible refine wpList_alloc_z rfl 25 rfl Z hZ0 ?_)
    | (with_reducible refine wpList_store_z rfl 25 (.tmp 10) (.tmp 45) rfl _ rfl V6 rfl Z _ qx8 c6 b6 a6 ?_; rw [← Hx8.out])
    | fail)
  skip
  obtain ⟨V7, HV7, a7, b7, c7⟩ := id_box (parseL (103 :: abcT.drop 1)) (parseL_length _) Z hZs
  refine (parse_k (103 :: abcT.drop 1) (by decide) 30 pre_g V7 HV7.out x8).mono ?_
  rintro e y7 ⟨rfl, hby7⟩
  replace hbA := below_then hbA hby7 (Nat.le_refl _)
  replace mx3 := (hby7.block _ (lt_of_get mx3)).trans mx3
  replace mx4 := (hby7.block _ (lt_of_get mx4)).trans mx4
  have qx9 : (y7.alloc (.cells Z 25)).heap[y7.heap.size]? = some (.cells Z 25 (0, 0)) := heap_alloc_new _ _
  obtain ⟨x9, hx9⟩ : ∃ x9, x9 = (y7.alloc (.cells Z 25)).setRow y7.heap.size V7 := ⟨_, rfl⟩
  have hbx9 : Below y7.heap.size y7 x9 := by rw [hx9]; exact below_setRow ((Below.refl _ _).alloc (Nat.le_refl _) _) (Nat.le_refl _) V7
  have mx9 : x9.heap[y7.heap.size]? = some (.cells V7 25 (0, 0)) := by rw [hx9]; exact setRow_heap _ _ _ _ _ _ qx9
  replace hbA := below_then hbA hbx9 (Nat.le_refl _)
  have Hx9 := Lib.hid hx9
  clear hx9
  replace mx3 := (hbx9.block _ (lt_of_get mx3)).trans mx3
  replace mx4 := (hbx9.block _ (lt_of_get mx4)).trans mx4
  --TAIL
  go_upto_region 8 with (first
    | (with_reducible refine wpList_alloc_z rfl 25 rfl Z hZ0 ?_)
    | (with_reducible refine wpList_store_z rfl 25 (.tmp 12) (.tmp 51) rfl _ rfl V7 rfl Z _ qx9 c7 b7 a7 ?_; rw [← Hx9.out])
    | fail)
  obtain ⟨l1, hl1e⟩ : ∃ l1, Hid (l1 = oneI) := ⟨_, rfl⟩
  obtain ⟨l2, hl2e⟩ : ∃ l2, Hid (l2 = otherI) := ⟨_, rfl⟩
  have hl1 : l1.length = 32 := by rw [hl1e.out]; rfl
  have hl2 : l2.length = 32 := by rw [hl2e.out]; rfl
  have hk1 : ∀ w, (Instr.build 25 #[(0, .int .u8 1)]).run Tryd.prog w = .ok (.agg (idC l1)) w := by rw [hl1e.out]; exact one_built
  have hk2 : ∀ w, (Instr.build 25 #[(0, .int .u8 0), (1, .int .u8 9)]).run Tryd.prog w = .ok (.agg (idC l2)) w := by rw [hl2e.out]; exact other_built
  have hba1 : (#[(0, Operand.const (Value.int IntKind.u8 1))] : Array (Nat × Operand)) = #[((0 : Nat), Value.int IntKind.u8 1)].map fun x => (x.1, .const x.2) := by simp
  have HBA1 := Lib.hid hba1
  clear hba1
  have hba2 : (#[(0, Operand.const (Value.int IntKind.u8 0)), (1, Operand.const (Value.int IntKind.u8 9))] : Array (Nat × Operand)) = #[((0 : Nat), Value.int IntKind.u8 0), (1, Value.int IntKind.u8 9)].map fun x => (x.1, .const x.2) := by simp
  have HBA2 := Lib.hid hba2
  clear hba2
  obtain ⟨O1, hO1, oa1, ob1, oc1⟩ := id_box l1 hl1 Z hZs
  obtain ⟨O2, hO2, oa2, ob2, oc2⟩ := id_box l2 hl2 Z hZs
  have pa : ((x9.alloc (.cells Z 25)).alloc (.cells Z 25)).heap[x9.heap.size]? = some (.cells Z 25 (0, 0)) := heap_alloc2_old _ _ _
  obtain ⟨z1, hz1⟩ : ∃ z1, z1 = ((x9.alloc (.cells Z 25)).alloc (.cells Z 25)).setRow x9.heap.size O1 := ⟨_, rfl⟩
  have pb : z1.heap[x9.heap.size + 1]? = some (.cells Z 25 (0, 0)) := by rw [hz1, setRow_other _ _ _ _ (by omega)]; exact heap_alloc2_new _ _ _
  have pc : z1.heap[x9.heap.size]? = some (.cells O1 25 (0, 0)) := by rw [hz1]; exact setRow_heap _ _ _ _ _ _ pa
  have psz : (x9.alloc (.cells Z 25)).heap.size = x9.heap.size + 1 := by simp
  obtain ⟨z2, hz2⟩ : ∃ z2, z2 = z1.setRow (x9.alloc (.cells Z 25)).heap.size O2 := ⟨_, rfl⟩
  have HZ2 := Lib.hid hz2
  have pb' := pb
  rw [← psz] at pb'
  rw [psz] at hz2
  have m14 : z2.heap[x9.heap.size]? = some (.cells O1 25 (0, 0)) := by rw [hz2, setRow_other _ _ _ _ (by omega)]; exact pc
  have m15 : z2.heap[x9.heap.size + 1]? = some (.cells O2 25 (0, 0)) := by rw [hz2]; exact setRow_heap _ _ _ _ _ _ pb
  have hbz : Below x9.heap.size x9 z2 := by rw [hz2, hz1]; exact below_setRow (below_setRow (((Below.refl _ _).alloc (Nat.le_refl _) _).alloc (by simp) _) (Nat.le_refl _) O1) (by omega) O2
  replace hbA := below_then hbA hbz (Nat.le_refl _)
  have HZ1 := Lib.hid hz1
  have PSZ := Lib.hid psz
  clear hz1 hz2 psz
  replace mx3 := (hbz.block _ (lt_of_get mx3)).trans mx3
  replace mx4 := (hbz.block _ (lt_of_get mx4)).trans mx4
  obtain ⟨z3, hz3⟩ : ∃ z3, z3 = z2.alloc (.cells (idsC [l1, l2, l1]).toArray 25) := ⟨_, rfl⟩
  have hbz3 : Below z2.heap.size z2 z3 := by rw [hz3]; exact (Below.refl _ _).alloc (Nat.le_refl _) _
  have hg3 : z3.heap[z2.heap.size]? = some (.cells (idsC [l1, l2, l1]).toArray 25 (0, 0)) := by rw [hz3]; exact heap_alloc_new _ _
  have h32s : ∀ y ∈ [l1, l2, l1], y.length = 32 := by simp [hl1, hl2]
  have hset := set_any (some ⟨z2.heap.size, 0, none⟩) 3 3 [l1, l2, l1] rfl h32s (by omega) z3 (rd_ids hg3)
  have HZ3 := Lib.hid hz3
  have HSET := Lib.hid hset
  have H32S := Lib.hid h32s
  clear hset h32s hg3
  have m14' := m14
  have m15' := m15
  rw [hO1.out] at m14'
  rw [hO2.out] at m15'
  have m15s := m15'
  rw [← PSZ.out] at m15s
  have id1 : (Tryd.prog.info? 25).map (·.size) = some (idC l1).size := by rw [← hO1.out]; exact ob1
  have id2 : (Tryd.prog.info? 25).map (·.size) = some (idC l2).size := by rw [← hO2.out]; exact ob2
  clear hz3
  go_upto_region 9 with (first
    | (with_reducible refine wpList_build_w rfl 25 _ rfl #[(0, .int .u8 1)] HBA1.out (idC l1) (hk1 _) ?_; rw [← hO1.out])
    | (with_reducible refine wpList_build_w rfl 25 _ rfl #[(0, .int .u8 0), (1, .int .u8 9)] HBA2.out (idC l2) (hk2 _) ?_; rw [← hO2.out])
    | (with_reducible refine wpList_alloc_z rfl 25 rfl Z hZ0 ?_)
    | (with_reducible refine wpList_store_z rfl 25 (.tmp 14) (.tmp 53) rfl _ rfl O1 rfl Z _ pa oc1 ob1 oa1 ?_; rw [← HZ1.out])
    | (with_reducible refine wpList_store_z rfl 25 (.tmp 15) (.tmp 54) rfl _ rfl O2 rfl Z _ pb' oc2 ob2 oa2 ?_; rw [← HZ2.out])
    | fail)
  clear pa pb pb' pc hk1 hk2 HBA1 HBA2 oa1 ob1 oc1 oa2 ob2 oc2 hl1 hl2 HZ1 HZ2
  go_simp
  go_wp2_with (first
    | (with_reducible refine wpList_load_row rfl 25 (.tmp 14) rfl _ rfl 25 (idC l1) _ _ m14' Tryd.underlying25 rfl id1 ?_)
    | (with_reducible refine wpList_load_row rfl 25 (.tmp 15) rfl _ rfl 25 (idC l2) _ _ m15' Tryd.underlying25 rfl id2 ?_)
    | (with_reducible refine wpList_ids3 rfl (.tmp 55) (.tmp 56) (.tmp 57) rfl l1 l2 l1 H32S.out rfl rfl rfl ?_; rw [← HZ3.out])
    | fail)
  refine HSET.out.mono ?_
  rintro e z4 ⟨v4, Os, rfl, hOs, -, ho4, hb4⟩
  replace hbA := below_then (below_then hbA hbz3 (Nat.le_refl _)) hb4 (Nat.le_refl _)
  have hbz34 := below_then hbz3 hb4 (Nat.le_refl _)
  replace mx3 := (hbz34.block _ (lt_of_get mx3)).trans mx3
  replace mx4 := (hbz34.block _ (lt_of_get mx4)).trans mx4
  replace m14 := (hbz34.block _ (lt_of_get m14)).trans m14
  replace m15 := (hbz34.block _ (lt_of_get m15)).trans m15
  have hOe : Os = [l2, l1] := by
    refine hOs.uniq ?_
    rw [hl1e.out, hl2e.out]
    exact set_oo
  subst hOe
  have hl1 : l1.length = 32 := by rw [hl1e.out]; rfl
  have hl2 : l2.length = 32 := by rw [hl2e.out]; rfl
  have h32o : ∀ y ∈ [l2, l1], y.length = 32 := by simp [hl1, hl2]
  have hrise := hOs.rise
  obtain ⟨A4, c4, rfl, -, -, -, hi4⟩ := ids_of_own h32o ho4
  obtain ⟨ZR, hZR0, hZR⟩ : ∃ Z : Array Value, (Tryd.prog.info? 30).bind (fun i => i.zero.map Value.cells) = some Z ∧ Hid (Z = runC false S8.zero (.slice none 0 0) 0) := ⟨_, zero_run, rfl⟩
  obtain ⟨z5, hz5⟩ : ∃ z5, z5 = z4.alloc (.cells ZR 30) := ⟨_, rfl⟩
  have hb5 : Below z4.heap.size z4 z5 := by rw [hz5]; exact (Below.refl _ _).alloc (Nat.le_refl _) _
  have hgr : z5.heap[z4.heap.size]? = some (.cells ZR 30 (0, 0)) := by rw [hz5]; exact heap_alloc_new _ _
  have hRA : RunAt 0 z4.heap.size false [] z5 := ⟨fun _ => rfl, none, 0, by rw [hgr, hZR.out]; rfl, by decide, by decide, by unfold maxLen; omega, RdC.nil _ _, fun _ => rfl, fun ad e => by cases e⟩
  have hgB : w.heap.size ≤ z4.heap.size := hbA.size
  replace hbA := below_then hbA hb5 (Nat.le_refl _)
  replace hi4 := hi4.below hb5
  have HZ5 := Lib.hid hz5
  clear hz5 ho4
  replace mx3 := (hb5.block _ (lt_of_get mx3)).trans mx3
  replace mx4 := (hb5.block _ (lt_of_get mx4)).trans mx4
  replace m14 := (hb5.block _ (lt_of_get m14)).trans m14
  replace m15 := (hb5.block _ (lt_of_get m15)).trans m15
  have m2q := mx4
  rw [HV2.out] at m2q
  have id3 : (Tryd.prog.info? 25).map (·.size) = some (idC (parseL abcT)).size := by rw [← HV2.out]; exact b2
  have heqv : ∀ W, (Op.equalIn 10000 25 (.agg V2) (.agg V2)).run Tryd.prog W = .ok true W := fun W => by
    rw [HV2.out]
    simpa using run_eq_id W (parseL abcT) (parseL abcT) (parseL_length _) (parseL_length _)
  have hbT := hbA
  go_upto_region 12 with (first
    | (with_reducible refine wpList_alloc_z rfl 30 rfl ZR hZR0 ?_; rw [← HZ5.out])
    | fail)
  refine hn12 _ z5.heap.size V2 z5 rfl b2 heqv (fun W b bb hW q1 q2 => ?_) (fun W hW => (hW.block _ (lt_of_get mx4)).trans mx4) fun z6 r64 r65 r66 hb6 => ?_
  · have h := of_lit b bb 3 [97, 98, 99] rfl (by omega) W _ _ _ _ q1 q2 (hT.below (below_then hbT hW (Nat.le_refl _)))
    rw [← prs_abc, ← HV2.out] at h
    exact h
  replace hbA := below_then hbA hb6 (Nat.le_refl _)
  replace hi4 := hi4.below hb6
  replace hRA := RunAtF.below hRA hb6
  replace mx3 := (hb6.block _ (lt_of_get mx3)).trans mx3
  replace mx4 := (hb6.block _ (lt_of_get mx4)).trans mx4
  replace m14 := (hb6.block _ (lt_of_get m14)).trans m14
  replace m15 := (hb6.block _ (lt_of_get m15)).trans m15
  replace m2q := (hb6.block _ (lt_of_get m2q)).trans m2q
  replace m14' := m14
  replace m15' := m15
  rw [hO1.out] at m14'
  rw [hO2.out] at m15'
  have h32_1 : ∀ y ∈ [l1], y.length = 32 := by simp [hl1]
  have h32_2 : ∀ y ∈ [l2], y.length = 32 := by simp [hl2]
  go_upto_region 13 with (fail)
  refine hn13 _ _ _ c4 A4 l1 l2 (parseL abcT) z6 hl1 hl2 (parseL_length _) id1 id2 id3 (fun W b hW hg => ?_) (fun W hW => ?_) (fun W hW => ?_) (fun W b hW hg => ?_) (fun W A c b hW hr hg => ?_) (fun W hW => ?_) (fun W hW => ?_) (fun W hW => ?_) (fun W hW => ?_) (fun W hW => (hW.block _ (lt_of_get m14')).trans m14') (fun W hW => (hW.block _ (lt_of_get m15')).trans m15') (fun W hW => (hW.block _ (lt_of_get m2q)).trans m2q) fun z7 r93 r109 r110 r112 r116 hb7 => ?_
  · have h := rsame_any A4 2 c4 [l2, l1] rfl (by omega) h32o (some ⟨b, 0, none⟩) 2 2 [l2, l1] rfl (by omega) h32o W (hi4.below hW) (RdIds.of_rd h32o (rd_ids hg))
    rw [decide_eq_true rfl] at h
    exact h
  · have h := hashas_any A4 2 c4 [l2, l1] rfl (by omega) h32o hrise W (hi4.below hW) l1 hl1
    rw [decide_eq_true (by simp)] at h
    exact h
  · have h := hashas_any A4 2 c4 [l2, l1] rfl (by omega) h32o hrise W (hi4.below hW) (parseL abcT) (parseL_length _)
    rw [decide_eq_false (by rw [hl1e.out, hl2e.out, prs_abc]; exact sha_not)] at h
    exact h
  · have h := less_any A4 2 c4 [l2, l1] rfl (by omega) h32o (some ⟨b, 0, none⟩) 1 1 [l1] rfl (by omega) h32_1 (rise_pw.2 (List.pairwise_singleton _ _)) W (hi4.below hW) (RdIds.of_rd h32_1 (rd_ids hg))
    rw [show lessL [l2, l1] [l1] = [l2] by rw [hl1e.out, hl2e.out]; exact less_oo] at h
    refine h.mono ?_
    rintro e w' ⟨v, rfl, ho, hbb⟩
    obtain ⟨A, c, rfl, -, -, -, hi⟩ := ids_of_own h32_2 ho
    exact ⟨⟨A, c, rfl, hi⟩, hbb⟩
  · have h := rsame_any A 1 c [l2] rfl (by omega) h32_2 (some ⟨b, 0, none⟩) 1 1 [l2] rfl (by omega) h32_2 W hr (RdIds.of_rd h32_2 (rd_ids hg))
    rw [decide_eq_true rfl] at h
    exact h
  · refine (set_any none 0 0 [] rfl (by simp) (by omega) W (RdC.nil _ _)).mono ?_
    rintro e w' ⟨v, O, rfl, hO, -, ho, hbb⟩
    obtain rfl := hO.uniq isSet_nil
    obtain ⟨A, c, rfl, -⟩ := ids_of_own (L := []) (by simp) ho
    exact ⟨⟨A, c, rfl⟩, hbb⟩
  · have h := compare_any l1 l2 hl1 hl2 W
    rw [show Lib.compareBytes l1 l2 = 1 by rw [hl1e.out, hl2e.out]; exact cmp_oo] at h
    exact h
  · have h := compare_any l2 l1 hl2 hl1 W
    rw [show Lib.compareBytes l2 l1 = -1 by rw [hl1e.out, hl2e.out]; exact cmp_ot] at h
    exact h
  · have h := compare_any l1 l1 hl1 hl1 W
    rw [cmp_same] at h
    exact h
  replace hbA := below_then hbA hb7 (Nat.le_refl _)
  replace hRA := RunAtF.below hRA hb7
  replace mx3 := (hb7.block _ (lt_of_get mx3)).trans mx3
  have sL : (bstr longT).toList = [50, 52, 56, 100, 54, 97, 54, 49, 100, 50, 48, 54, 51, 56, 98, 56, 101, 53, 99, 48, 50, 54, 57, 51, 48, 99, 51, 101, 54, 48, 51, 57, 97, 51, 51, 99, 101, 52, 53, 57, 54, 52, 102, 102, 50, 49, 54, 55, 102, 54, 101, 99, 101, 100, 100, 52, 49, 57, 100, 98, 48, 54, 99, 49] := by rw [bstr_toList]; rfl
  have sN : (bstr noneT).toList = [101, 51, 98, 48, 99, 52, 52, 50, 57, 56, 102, 99, 49, 99, 49, 52, 57, 97, 102, 98, 102, 52, 99, 56, 57, 57, 54, 102, 98, 57, 50, 52, 50, 55, 97, 101, 52, 49, 101, 52, 54, 52, 57, 98, 57, 51, 52, 99, 97, 52, 57, 53, 57, 57, 49, 98, 55, 56, 53, 50, 98, 56, 53, 53] := by rw [bstr_toList]; rfl
  have sA : (bstr abcT).toList = [98, 97, 55, 56, 49, 54, 98, 102, 56, 102, 48, 49, 99, 102, 101, 97, 52, 49, 52, 49, 52, 48, 100, 101, 53, 100, 97, 101, 50, 50, 50, 51, 98, 48, 48, 51, 54, 49, 97, 51, 57, 54, 49, 55, 55, 97, 57, 99, 98, 52, 49, 48, 102, 102, 54, 49, 102, 50, 48, 48, 49, 53, 97, 100] := by rw [bstr_toList]; rfl
  go_wp2_with fail
  refine (alive_any z7 (hT.below hbA)).mono ?_
  rintro e p1 ⟨rfl, hp1⟩
  replace hbA := below_then hbA hp1 (Nat.le_refl _)
  replace hRA := RunAtF.below hRA hp1
  replace mx3 := (hp1.block _ (lt_of_get mx3)).trans mx3
  go_wp2_with (first
    | (with_reducible refine wpList_load_rowG rfl 25 (.tmp 1) rfl _ rfl 25 V1 _ _ mx3 Tryd.underlying25 rfl b1 ?_)
    | fail)
  rw [HV1.out]
  refine (text_any _ (sha_length _) p1).mono ?_
  rintro e p2 ⟨rfl, hp2⟩
  rw [sha_two]
  replace hbA := below_then hbA hp2 (Nat.le_refl _)
  replace hRA := RunAtF.below hRA hp2
  go_wp2_with fail
  refine (add_nil _ p2).mono ?_
  rintro e p2' ⟨rfl, rfl⟩
  go_wp2_with fail
  refine (sum_nil p2 (hT.below hbA)).mono ?_
  rintro e p3 ⟨rfl, hp3⟩
  replace hbA := below_then hbA hp3 (Nat.le_refl _)
  replace hRA := RunAtF.below hRA hp3
  go_wp2_with fail
  refine (text_any _ (sha_length _) p3).mono ?_
  rintro e p4 ⟨rfl, hp4⟩
  rw [sha_none]
  replace hbA := below_then hbA hp4 (Nat.le_refl _)
  replace hRA := RunAtF.below hRA hp4
  go_wp2_with fail
  refine (len_nil p4).mono ?_
  rintro e p4' ⟨rfl, rfl⟩
  go_wp2_with fail
  refine (sum_any 0 _ false [] p4 hRA (hT.below hbA) (by simp)).mono ?_
  rintro e p5 ⟨rfl, hp5⟩
  replace hbA := below_then hbA hp5 (Nat.le_refl _)
  replace hRA := RunAtF.below hRA hp5
  go_wp2_with fail
  refine (text_any _ (sha_length _) p5).mono ?_
  rintro e p6 ⟨rfl, hp6⟩
  rw [sha_none]
  replace hbA := below_then hbA hp6 (Nat.le_refl _)
  replace hRA := RunAtF.below hRA hp6
  have hRA0 := hRA
  obtain ⟨p7, hp7⟩ : ∃ p7, p7 = p6.alloc (.cells #[.int .u8 97] 5 (1, 2)) := ⟨_, rfl⟩
  have hbp7 : Below p6.heap.size p6 p7 := by rw [hp7]; exact (Below.refl _ _).alloc (Nat.le_refl _) _
  have hg7 : p7.heap[p6.heap.size]? = some (.cells (u8v [97]).toArray 5 (1, 2)) := by rw [hp7]; exact heap_alloc_new _ _
  replace hbA := below_then hbA hbp7 (Nat.le_refl _)
  replace hRA := RunAtF.below hRA hbp7
  have hz4 : z4.heap.size < p6.heap.size := by
    obtain ⟨_, _, _, hh⟩ := id hRA0
    exact lt_of_get hh.row
  have HP7 := Lib.hid hp7
  clear hp7
  go_wp2_with fail
  rw [← HP7.out]
  refine (add_any 0 _ false [] p7 hRA (Nat.zero_le _) (hT.below hbA) (some ⟨p6.heap.size, 0, none⟩) 1 1 [97] rfl (by omega) (rd_u8 hg7) (fun ad e => .inl (by cases e; show p6.heap.size ≠ z4.heap.size; omega)) (by simp)).mono ?_
  rintro e p8 ⟨rfl, hRB, hg8⟩
  replace hbA := hbA.grown hg8 hbA.size (fun k hk => by cases hk; exact hgB)
  obtain ⟨p9, hp9⟩ : ∃ p9, p9 = p8.alloc (.cells #[.int .u8 98, .int .u8 99] 5 (2, 3)) := ⟨_, rfl⟩
  have hbp9 : Below p8.heap.size p8 p9 := by rw [hp9]; exact (Below.refl _ _).alloc (Nat.le_refl _) _
  have hg9 : p9.heap[p8.heap.size]? = some (.cells (u8v [98, 99]).toArray 5 (2, 3)) := by rw [hp9]; exact heap_alloc_new _ _
  replace hbA := below_then hbA hbp9 (Nat.le_refl _)
  replace hRB := RunAtF.below hRB hbp9
  have hz8 : z4.heap.size < p8.heap.size := by have := hg8.size; have := hbp7.size; omega
  have HP9 := Lib.hid hp9
  clear hp9
  go_wp2_with fail
  rw [← HP9.out]
  refine (add_any 0 _ true _ p9 hRB (Nat.zero_le _) (hT.below hbA) (some ⟨p8.heap.size, 0, none⟩) 2 2 [98, 99] rfl (by omega) (rd_u8 hg9) (fun ad e => .inl (by cases e; show p8.heap.size ≠ z4.heap.size; omega)) (by simp)).mono ?_
  rintro e p10 ⟨rfl, hRC, hg10⟩
  replace hbA := hbA.grown hg10 hbA.size (fun k hk => by cases hk; exact hgB)
  go_wp2_with fail
  refine (sum_any 0 _ true _ p10 hRC (hT.below hbA) (by simp)).mono ?_
  rintro e p11 ⟨rfl, hp11⟩
  replace hbA := below_then hbA hp11 (Nat.le_refl _)
  go_wp2_with fail
  refine (text_any _ (sha_length _) p11).mono ?_
  rintro e p12 ⟨rfl, hp12⟩
  rw [sha_abc]
  replace hbA := below_then hbA hp12 (Nat.le_refl _)
  go_wp2_with fail
  go_ret
  exact ⟨rfl, hbA⟩
end Go.Proofs.YtcdnbidenaljlaaDoor
