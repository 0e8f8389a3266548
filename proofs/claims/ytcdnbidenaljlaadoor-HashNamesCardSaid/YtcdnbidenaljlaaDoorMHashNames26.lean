/- Texts of this proof, laid into one: SetN, SetO. -/
import Derived.Test.YtcdnbidenaljlaaDoorMHashNames25
import Derived.Test.YtcdnbidenaljlaaDoorMHashNames15
/- Rows of ids under stores, clear and slicing; what stays beside a row. -/
namespace Go.Proofs.YtcdnbidenaljlaaDoor
open Go.RowKit

/-- Ids laid over part of a row. -/
theorem idsC_lay (M N : List (List UInt8)) (h : ∀ x ∈ M, x.length = 32) (hN : ∀ x ∈ N, x.length = 32) (T : List Value) (k : Nat) (hk : k + N.length ≤ M.length) :
    (idsC M ++ T).take (k * 32) ++ idsC N ++ (idsC M ++ T).drop (k * 32 + (idsC N).length) = idsC (M.take k ++ N ++ M.drop (k + N.length)) ++ T := by
  rw [idsC_length N hN, ← Nat.add_mul, idsC_take M h T k (by omega), idsC_drop M h T _ hk, ← List.append_assoc]
  simp only [idsC_app]
/-- What lies beside block g stays. -/
structure Rest (g : Nat) (w w' : World) : Prop where
  os : w'.os = w.os
  tape : w'.tape = w.tape
  output : w'.output = w.output
  size : w.heap.size ≤ w'.heap.size
  block : ∀ k, k < w.heap.size → k ≠ g → w'.heap[k]? = w.heap[k]?
theorem Rest.refl (g : Nat) (w : World) : Rest g w w := ⟨rfl, rfl, rfl, Nat.le_refl _, fun _ _ _ => rfl⟩
theorem Rest.of_grown {g : Nat} {w w' : World} (h : w.grownBy w' (some g)) : Rest g w w' := ⟨h.os, h.tape, h.output, h.size, fun k hk hne => h.block k hk fun e => hne (Option.some.inj e)⟩
theorem Rest.trans {g : Nat} {a b c : World} (h : Rest g a b) (k : Rest g b c) : Rest g a c := ⟨k.os.trans h.os, k.tape.trans h.tape, k.output.trans h.output, Nat.le_trans h.size k.size, fun i hi hne => (k.block i (Nat.lt_of_lt_of_le hi h.size) hne).trans (h.block i hi hne)⟩
theorem Rest.below {g : Nat} {a b c : World} (h : Rest g a b) (k : Below b.heap.size b c) : Rest g a c := h.trans ⟨k.os, k.tape, k.output, k.size, fun i hi _ => k.block i hi⟩
theorem Rest.setRow {g : Nat} {a b : World} (h : Rest g a b) (V : Array Value) : Rest g a (b.setRow g V) := h.trans ⟨rfl, rfl, rfl, by simp [World.setRow], fun i hi hne => setRow_other _ _ _ _ hne⟩
theorem Rest.toBelow {B g : Nat} {a b c : World} (h : Below B a b) (k : Rest g b c) (hB : B ≤ g) (hs : B ≤ b.heap.size) : Below B a c := ⟨k.os.trans h.os, k.tape.trans h.tape, k.output.trans h.output, Nat.le_trans h.size k.size, fun i hi => (k.block i (Nat.lt_of_lt_of_le hi hs) (by omega)).trans (h.block i hi)⟩
theorem zero_id_run (w : World) : (zeroValue 25).run Tryd.prog w = .ok (.agg (idC zeros)) w := by kernel_rfl
theorem zeroCells_ids (n : Nat) : (Builtin.zeroCells (idC zeros) n).toList = idsC (List.replicate n zeros) := by
  have hz : ∀ x ∈ List.replicate n zeros, x.length = 32 := fun x hx => by rw [List.eq_of_mem_replicate hx]; rfl
  have hs : (idC zeros).size = 32 := by rw [idC_size]; rfl
  apply List.ext_getElem?
  intro t
  have hl : (idsC (List.replicate n zeros)).length = n * 32 := by rw [idsC_length _ hz, List.length_replicate]
  by_cases ht : t < n * 32
  · have h1 := idsC_get (List.replicate n zeros) hz (t / 32) (by rw [List.length_replicate]; omega) (t % 32) (Nat.mod_lt _ (by omega))
    rw [show t / 32 * 32 + t % 32 = t by omega] at h1
    rw [h1]
    have h2 : t % 32 < (idC zeros).size := by rw [hs]; exact Nat.mod_lt _ (by omega)
    simp only [Builtin.zeroCells, hs, List.getElem_replicate]
    rw [Array.getElem?_toList, Array.getElem?_map, Array.getElem?_range, if_pos ht]
    simp only [Option.map_some]
    rw [getElem!_pos (idC zeros) (t % 32) h2, ← Array.getElem?_eq_getElem h2]
    simp [idC]
  · rw [List.getElem?_eq_none (by simp [Builtin.zeroCells, hs]; omega), List.getElem?_eq_none (by omega)]
theorem run_clear_ids (w : World) (ty : TypeId) (g : Nat) (M : List (List UInt8)) (h : ∀ x ∈ M, x.length = 32) (T : List Value) (k c : Nat) (hk : k < M.length) (hg : w.heap[g]? = some (.cells (idsC M ++ T).toArray 25 (0, 0))) :
    (Builtin.clear_ #[47] ty #[.slice (some ⟨g, k * 32, none⟩) (M.length - k) c]).run Tryd.prog w = .ok (.tuple #[]) (w.setRow g (idsC (M.take k ++ List.replicate (M.length - k) zeros) ++ T).toArray) := by
  have hz : ∀ x ∈ List.replicate (M.length - k) zeros, x.length = 32 := fun x hx => by rw [List.eq_of_mem_replicate hx]; rfl
  have hl : (idsC (List.replicate (M.length - k) zeros)).length = (M.length - k) * 32 := by rw [idsC_length _ hz, List.length_replicate]
  have hlay := idsC_lay M (List.replicate (M.length - k) zeros) h hz T k (by rw [List.length_replicate]; omega)
  rw [List.length_replicate, show k + (M.length - k) = M.length by omega, List.drop_length, List.append_nil] at hlay
  have hst := run_storeCells_at Tryd.prog g (k * 32) 25 (Builtin.zeroCells (idC zeros) (M.length - k)).toList 0 _ w hg (by
    rw [zeroCells_ids, hl]
    simp only [List.size_toArray, List.length_append, idsC_length M h, Nat.add_zero]
    rw [← Nat.add_mul]
    have : k + (M.length - k) = M.length := by omega
    rw [this]
    omega) (by rw [zeroCells_ids]; exact idsC_one _)
  rw [zeroCells_ids, Nat.add_zero] at hst
  simp only [List.toList_toArray] at hst
  rw [hlay] at hst
  rw [← zeroCells_ids] at hst
  obtain ⟨m, hm⟩ : ∃ m, M.length - k = m + 1 := ⟨M.length - k - 1, by omega⟩
  rw [hm] at hst ⊢
  simp [Builtin.clear_, run_underlying Tryd.underlying47, Value.cells]
  exact congrArg (fun r => Result.andThen r fun _ w' => Result.ok (Value.tuple #[]) w') hst
end Go.Proofs.YtcdnbidenaljlaaDoor

/- slices.Compact at ids. -/
namespace Go.Proofs.YtcdnbidenaljlaaDoor
open Go.RowKit Go.Lib

theorem range_row {W : World} {g : Nat} {M : List (List UInt8)} {T : List Value} (hg : W.heap[g]? = some (.cells (idsC M ++ T).toArray 25 (0, 0))) (h : ∀ x ∈ M, x.length = 32) (k : Nat) (hk : k < M.length) (o : Nat) (ho : o = k * 32) : W.rangeAt g o (u8v M[k]) := fun j v hj => by
  have hj32 : j < 32 := by
    have := (List.getElem?_eq_some_iff.1 hj).1
    rwa [u8v_length, h _ (List.getElem_mem hk)] at this
  subst ho
  rw [cell_row hg, List.getElem?_toArray, List.getElem?_append_left (by rw [idsC_length M h]; omega), idsC_get M h k hk j hj32]
  exact hj
theorem get_below {w W : World} {g : Nat} {o : Obj} (hb : Below w.heap.size w W) (h : w.heap[g]? = some o) : W.heap[g]? = some o := (hb.block _ (Array.getElem?_eq_some_iff.1 h).1).trans h
theorem wpList_store_at {P : Program} {ops : Array Oper} {rest : List Oper} {o : Oper} {a : Act} {w : World} {Q : Exit → Act → World → Prop} (hgd : o.guard = none) (ty : TypeId) (x y : Operand) (ho : o.op = .store ty x y) (g off : Nat) (hx : a.eval x = .pointer (some ⟨g, off, none⟩)) (vs : Array Value) (hy : a.eval y = .agg vs)
    (cur : Array Value) (t : TypeId) (hg : w.heap[g]? = some (.cells cur t (0, 0))) (hfit : off + vs.size ≤ cur.size) (h1 : ∀ v ∈ vs.toList, v.oneCell' = true) (hs : (P.info? ty).map (·.size) = some vs.size) (hd : o.dst = none)
    (h : wpList P ops Q rest a (w.setRow g (cur.toList.take off ++ vs.toList ++ cur.toList.drop (off + vs.size)).toArray)) : wpList P ops Q (o :: rest) a w :=
  wpList_plain hgd fun K hK => wp_store_at ty x y ho g off hx vs hy cur t hg hfit h1 hs hd (hK _ _ h)
theorem get_bang (L : List (List UInt8)) (k : Nat) (h : k < L.length) : L.toArray[k]! = L[k] := by simp [h]
set_option maxRecDepth 100000 in
set_option maxHeartbeats 4000000 in
theorem compact_any (g c : Nat) (L : List (List UInt8)) (h32 : ∀ x ∈ L, x.length = 32) (hn : L.length ≤ 1000000) (hc : L.length ≤ c) (hcm : c ≤ maxLen) (T : List Value) (w : World) (hg : w.heap[g]? = some (.cells (idsC L ++ T).toArray 25 (0, 0))) :
    Calls Tryd.prog 33 #[.slice (some ⟨g, 0, none⟩) L.length c] w fun e w' => e = .returned (.slice (some ⟨g, 0, none⟩) (compact L).length c) ∧ (∃ N : List (List UInt8), N.length = L.length - (compact L).length ∧ (∀ x ∈ N, x.length = 32) ∧ w'.heap[g]? = some (.cells (idsC (compact L ++ N) ++ T).toArray 25 (0, 0))) ∧ Rest g w w' := by
  have HALL : Hid (∀ W : World, (∀ j, j < L.length → keeps L.toArray j = true) → W.heap[g]? = some (.cells (idsC L ++ T).toArray 25 (0, 0)) → (compact L).length = L.length ∧ ∃ N : List (List UInt8), N.length = L.length - (compact L).length ∧ (∀ x ∈ N, x.length = 32) ∧ W.heap[g]? = some (.cells (idsC (compact L ++ N) ++ T).toArray 25 (0, 0))) := fun W hall hW => by
    rw [compact_all L hall]
    exact ⟨rfl, [], by simp, by simp, by simpa using hW⟩
  obtain ⟨n, hnn⟩ : ∃ n, n = L.length := ⟨_, rfl⟩
  have HN := Lib.hid hnn
  rw [← hnn] at hn hc ⊢
  have hni : (n : Int) ≤ 1000000 := by omega
  clear hnn
  by_cases h2 : n < 2
  · have h2i : (n : Int) < 2 := by omega
    go_enter Tryd.func33, Tryd.ntmps33
    go_wp2_with fail
    go_ret
    obtain ⟨e1, e2⟩ := HALL.out w (fun j hj => keeps_lt_one _ j (by have := HN.out; omega)) hg
    exact ⟨by rw [e1, ← HN.out]; rfl, by rw [HN.out]; exact e2, Rest.refl _ _⟩
  · have h2i : ¬ (n : Int) < 2 := by omega
    have SZ := Tryd.sizeOf25
    have US := Tryd.underlying47
    go_enter Tryd.func33, Tryd.ntmps33
    go_wp2_with fail
    go_loopw [3] (fun s3 wr => ∃ k : Nat, 1 ≤ k ∧ k ≤ n ∧ s3 = .int .i64 (k : Int) ∧ wr.heap[g]? = some (.cells (idsC L ++ T).toArray 25 (0, 0)) ∧ Rest g w wr ∧ ∀ j, j < k → keeps L.toArray j = true) (fun s3 _ => n - (intOf s3).toNat)
    case atStart => exact ⟨1, Nat.le_refl _, by omega, rfl, hg, Rest.refl _ _, keeps_lt_one _⟩
    case round =>
      obtain ⟨k, hk1, hkn, rfl, hgr, hre, hall⟩ := hrel
      by_cases hlt : k < n
      · have hki : (k : Int) < (n : Int) := by omega
        have hkL : k < L.length := by rw [← HN.out]; exact hlt
        have hkL1 : k - 1 < L.length := by omega
        have hki1 : ((k - 1 : Nat) : Int) < (n : Int) := by omega
        have hsub : IntKind.i64.wrap ((k : Int) - 1) = ((k - 1 : Nat) : Int) := by
          simp only [IntKind.wrap, IntKind.bits, IntKind.signed]
          simp
          omega
        have hr1 : ∀ W, Below wr.heap.size wr W → W.rangeAt g (0 + k * 32) (u8v L[k]) := fun W hW => range_row (get_below hW hgr) h32 k hkL _ (by omega)
        have hr2 : ∀ W, Below wr.heap.size wr W → W.rangeAt g (0 + (k - 1) * 32) (u8v L[k - 1]) := fun W hW => range_row (get_below hW hgr) h32 (k - 1) hkL1 _ (by omega)
        have hl1 : L[k].length = 32 := h32 _ (List.getElem_mem hkL)
        have hl2 : L[k - 1].length = 32 := h32 _ (List.getElem_mem hkL1)
        have hs1 : (Tryd.prog.info? 25).map (·.size) = some (u8v L[k]).length := by rw [u8v_length, hl1]; exact size_id
        have hs2 : (Tryd.prog.info? 25).map (·.size) = some (u8v L[k - 1]).length := by rw [u8v_length, hl2]; exact size_id
        have hev : ∀ W, (Op.equalIn 10000 25 (.agg (u8v L[k]).toArray) (.agg (u8v L[k - 1]).toArray)).run Tryd.prog W = .ok (decide (L[k] = L[k - 1])) W := fun W => run_eq_id W _ _ hl1 hl2
        obtain ⟨bo, hbo⟩ : ∃ bo, bo = decide (L[k] = L[k - 1]) := ⟨_, rfl⟩
        rw [← hbo] at hev
        have HBO := Lib.hid hbo
        have HA := Lib.hid hall
        clear hbo hall
        go_upto_region 6 with (fail)
        refine cm6 g 0 n c (k - 1) k (u8v L[k]) (u8v L[k - 1]) bo wr hki hki1 hsub hr1 hs1 hr2 hs2 hev fun w2 hb2 => ?_
        have hg2 := get_below hb2 hgr
        have hre2 := hre.below hb2
        clear hev hr1 hr2 hs1 hs2 hsub hgr hre hb2
        cases bo with
        | false =>
          go_wp2_with fail
          refine ⟨⟨k + 1, by omega, by omega, rfl, hg2, hre2, fun j hj => ?_⟩, by simp [intOf]; omega⟩
          by_cases e : j = k
          · subst e
            exact keeps_pos (by rw [get_bang L j hkL, get_bang L (j - 1) hkL1]; exact of_decide_eq_false HBO.out.symm)
          · exact HA.out j (by omega)
        | true =>
          obtain ⟨m, hm⟩ : ∃ m, m = n - k := ⟨_, rfl⟩
          obtain ⟨c', hc'⟩ : ∃ c', c' = c - k := ⟨_, rfl⟩
          have hsl : ∀ W, (Instr.slice 47 (.slice (some ⟨g, 0, none⟩) n c) (some (.int .i64 (k : Int))) none none).run Tryd.prog W = .ok (.slice (some ⟨g, k * 32, none⟩) m c') W := fun W => by
            have := run_sub_l (P := Tryd.prog) W 47 (some ⟨g, 0, none⟩) n c 32 US (SZ W) k k rfl (by omega)
            rw [← hm, ← hc'] at this
            rw [this]
            have hck : ¬ c = k := by omega
            simp [subA, hck, addr_add_plain]
          have hmk : k + m = n := by omega
          clear hm hc'
          have hg2' := hg2
          go_wp2_with fail
          clear hsl hki1 hl1 hl2 hg2
          go_loopw [3, 5] (fun s3 s5 wr2 => ∃ (kk k2 : Nat) (M : List (List UInt8)), s3 = .int .i64 (kk : Int) ∧ s5 = .int .i64 (k2 : Int) ∧ 1 ≤ k2 ∧ k2 ≤ m ∧ wr2.heap[g]? = some (.cells (idsC M ++ T).toArray 25 (0, 0)) ∧ Rest g w wr2 ∧ (∀ x ∈ M, x.length = 32) ∧ CompInv L.toArray (k + k2) kk M.toArray) (fun _ s5 _ => m - (intOf s5).toNat)
          case atStart => exact ⟨k, 1, L, rfl, rfl, Nat.le_refl _, by omega, hg2', hre2, h32, CompInv.start HA.out (keeps_neg (by omega) (by rw [get_bang L k hkL, get_bang L (k - 1) hkL1]; exact of_decide_eq_true HBO.out.symm))⟩
          case round =>
            obtain ⟨kk, k2, M, rfl, rfl, p1, hle, hgM, hreM, hM32, hI⟩ := hrel
            have hkk := hI.lt
            have hMs : M.length = L.length := by simpa using hI.size
            have hMn : M.length = n := by rw [hMs, HN.out]
            have HI := Lib.hid hI
            by_cases hl3 : k2 < m
            · have q1 : k + k2 < M.length := by omega
              have q2 : k + k2 - 1 < M.length := by omega
              have e1 : L.toArray[k + k2]! = M[k + k2] := by rw [← hI.high (k + k2) (by omega), get_bang M _ q1]
              have e2 : L.toArray[k + k2 - 1]! = M[k + k2 - 1] := by rw [← hI.high (k + k2 - 1) (by omega), get_bang M _ q2]
              have hki : (k2 : Int) < (m : Int) := by omega
              have hki1 : ((k2 - 1 : Nat) : Int) < (m : Int) := by omega
              have hsub : IntKind.i64.wrap ((k2 : Int) - 1) = ((k2 - 1 : Nat) : Int) := by
                simp only [IntKind.wrap, IntKind.bits, IntKind.signed]
                simp
                omega
              have hr1 : ∀ W, Below wr.heap.size wr W → W.rangeAt g (k * 32 + k2 * 32) (u8v M[k + k2]) := fun W hW => range_row (get_below hW hgM) hM32 (k + k2) q1 _ (by omega)
              have hr2 : ∀ W, Below wr.heap.size wr W → W.rangeAt g (k * 32 + (k2 - 1) * 32) (u8v M[k + k2 - 1]) := fun W hW => range_row (get_below hW hgM) hM32 (k + k2 - 1) q2 _ (by omega)
              have hl1 : M[k + k2].length = 32 := hM32 _ (List.getElem_mem q1)
              have hl2 : M[k + k2 - 1].length = 32 := hM32 _ (List.getElem_mem q2)
              have hs1 : (Tryd.prog.info? 25).map (·.size) = some (u8v M[k + k2]).length := by rw [u8v_length, hl1]; exact size_id
              have hs2 : (Tryd.prog.info? 25).map (·.size) = some (u8v M[k + k2 - 1]).length := by rw [u8v_length, hl2]; exact size_id
              have hev : ∀ W, (Op.equalIn 10000 25 (.agg (u8v M[k + k2]).toArray) (.agg (u8v M[k + k2 - 1]).toArray)).run Tryd.prog W = .ok (decide (M[k + k2] = M[k + k2 - 1])) W := fun W => run_eq_id W _ _ hl1 hl2
              obtain ⟨bo, hbo⟩ : ∃ bo, bo = decide (M[k + k2] = M[k + k2 - 1]) := ⟨_, rfl⟩
              rw [← hbo] at hev
              have HB2 := Lib.hid hbo
              have E1 := Lib.hid e1
              have E2 := Lib.hid e2
              clear hbo hI e1 e2
              go_upto_region 11 with (fail)
              refine cm11 g (k * 32) m c' (k2 - 1) k2 (u8v M[k + k2]) (u8v M[k + k2 - 1]) bo wr hki hki1 hsub hr1 hs1 hr2 hs2 hev fun w3 hb3 => ?_
              have hg3 := get_below hb3 hgM
              have hre3 := hreM.below hb3
              clear hev hr1 hr2 hs2 hsub hgM hreM hb3
              cases bo with
              | true =>
                go_wp2_with fail
                refine ⟨⟨kk, k2 + 1, M, rfl, rfl, by omega, by omega, hg3, hre3, hM32, HI.out.skip (keeps_neg (by omega) (by rw [E1.out, E2.out]; exact of_decide_eq_true HB2.out.symm))⟩, by simp [intOf]; omega⟩
              | false =>
                have hrg := range_row hg3 hM32 (k + k2) q1 (k * 32 + k2 * 32) (by omega)
                have hkM : kk < M.length := by omega
                have hki3 : (kk : Int) < (n : Int) := by omega
                obtain ⟨x, hx⟩ : ∃ x, x = M[k + k2] := ⟨_, rfl⟩
                rw [← hx] at hrg hs1 hl1
                have hsz : (Tryd.prog.info? 25).map (·.size) = some (u8v x).toArray.size := by rw [List.size_toArray]; exact hs1
                have hone : ∀ v ∈ (u8v x).toArray.toList, v.oneCell' = true := by simpa using u8v_one x
                have hfit : kk * 32 + (u8v x).toArray.size ≤ (idsC M ++ T).toArray.size := by
                  simp only [List.size_toArray, List.length_append, u8v_length, hl1, idsC_length M hM32]
                  omega
                have HX := Lib.hid hx
                clear hx
                go_wp2_with (first
                  | (with_reducible refine wpList_load_mid rfl 25 (.tmp 49) rfl g (k * 32 + k2 * 32) rfl (u8v x) _ hrg Tryd.underlying25 rfl hs1 ?_)
                  | (with_reducible refine wpList_store_at rfl 25 (.tmp 51) (.tmp 50) rfl g (0 + kk * 32) rfl (u8v x).toArray rfl _ 25 hg3 hfit hone hsz rfl ?_)
                  | (with_reducible refine wpList_store_at rfl 25 (.tmp 51) (.tmp 50) rfl g (kk * 32) rfl (u8v x).toArray rfl _ 25 hg3 hfit hone hsz rfl ?_)
                  | fail)
                have hset := idsC_lay M [x] hM32 (by simpa using hl1) T kk (by simp; omega)
                have hset2 : M.take kk ++ [x] ++ M.drop (kk + [x].length) = M.set kk x := by rw [List.set_eq_take_append_cons_drop, if_pos hkM]; simp
                rw [hset2] at hset
                have hk4 := HI.out.keep (by simp; omega) (keeps_pos (by rw [E1.out, E2.out]; exact of_decide_eq_false HB2.out.symm))
                rw [E1.out, ← HX.out, List.setIfInBounds_toArray] at hk4
                refine ⟨⟨kk + 1, by omega, k2 + 1, by omega, by omega, by omega, M.set kk x, ?_, hre3.setRow _, ?_, hk4⟩, by simp [intOf]; omega⟩
                · rw [← hset]
                  have := setRow_heap w3 g (idsC M ++ T).toArray ((idsC M ++ T).take (kk * 32) ++ idsC [x] ++ (idsC M ++ T).drop (kk * 32 + (idsC [x]).length)).toArray _ _ hg3
                  simpa [idsC] using this
                · intro y hy
                  rcases List.mem_or_eq_of_mem_set hy with h | rfl
                  · exact hM32 y h
                  · exact hl1
            · obtain rfl : k2 = m := by omega
              have hend : k + k2 = L.length := by rw [hmk, HN.out]
              have hkn : kk < M.length := by omega
              have hkc : kk ≤ c := by omega
              have hcmp : compact L = M.take kk := by
                have hI' := HI.out
                rw [hend] at hI'
                have hl := hI'.len
                apply List.ext_getElem?
                intro j
                by_cases hj : j < kk
                · have e := hI'.low j hj
                  rw [get_bang M j (by omega)] at e
                  rw [List.getElem?_take, if_pos hj, List.getElem?_eq_getElem (l := M) (by omega)]
                  exact e
                · rw [List.getElem?_take, if_neg hj]
                  exact List.getElem?_eq_none (by rw [show compact L = compactUpTo L.toArray L.length from rfl, hl]; omega)
              obtain ⟨Z, hZ⟩ : ∃ Z, Z = List.replicate (M.length - kk) zeros := ⟨_, rfl⟩
              have hZl : Z.length = n - kk := by rw [hZ, List.length_replicate, hMn]
              have hZ32 : ∀ x ∈ Z, x.length = 32 := fun x hx => by
                rw [hZ] at hx
                rw [List.eq_of_mem_replicate hx]; rfl
              obtain ⟨wq, hwq⟩ : ∃ wq, wq = wr.setRow g (idsC (M.take kk ++ Z) ++ T).toArray := ⟨_, rfl⟩
              have hgq : wq.heap[g]? = some (.cells (idsC (M.take kk ++ Z) ++ T).toArray 25 (0, 0)) := by
                rw [hwq]
                exact setRow_heap wr g (idsC M ++ T).toArray _ _ _ hgM
              have hreQ : Rest g w wq := by rw [hwq]; exact hreM.setRow _
              have hcl : ∀ ty, (Builtin.clear_ #[47] ty #[.slice (some ⟨g, kk * 32, none⟩) (M.length - kk) (c - kk)]).run Tryd.prog wr = .ok (.tuple #[]) wq := fun ty => by
                rw [hwq, hZ]
                exact run_clear_ids wr ty g M hM32 T kk (c - kk) hkn hgM
              obtain ⟨m3, hm3⟩ : ∃ m3, m3 = M.length - kk := ⟨_, rfl⟩
              obtain ⟨c3, hc3⟩ : ∃ c3, c3 = c - kk := ⟨_, rfl⟩
              rw [← hm3, ← hc3] at hcl
              have hsl : ∀ W, (Instr.slice 47 (.slice (some ⟨g, 0, none⟩) n c) (some (.int .i64 (kk : Int))) none none).run Tryd.prog W = .ok (.slice (some ⟨g, kk * 32, none⟩) m3 c3) W := fun W => by
                have := run_sub_l (P := Tryd.prog) W 47 (some ⟨g, 0, none⟩) n c 32 US (SZ W) kk kk rfl (by omega)
                rw [show n - kk = m3 by rw [hm3, hMn], ← hc3] at this
                rw [this]
                have hck : ¬ c = kk := by omega
                simp [subA, hck, addr_add_plain]
              have hsh : ∀ W, (Instr.slice 47 (.slice (some ⟨g, 0, none⟩) n c) none (some (.int .i64 (kk : Int))) none).run Tryd.prog W = .ok (.slice (some ⟨g, 0, none⟩) kk c) W := fun W =>
                run_sub_h (P := Tryd.prog) W 47 (some ⟨g, 0, none⟩) n c 32 US (SZ W) kk kk rfl hkc
              have HQ := Lib.hid hgq
              have HR := Lib.hid hreQ
              have HC := Lib.hid hcmp
              have HZ := Lib.hid hZl
              have H32 := Lib.hid hZ32
              clear hgq hreQ hcmp hZl hZ32 hwq hm3 hc3 hgM hreM hMs hMn hkc hkn hend hZ
              go_wp2_with fail
              go_ret
              have hlk : (M.take kk).length = kk := by
                rw [List.length_take, Nat.min_eq_left]
                have := HI.out.size
                have h1 := HI.out.lt
                have h2 := HN.out
                simp at this
                omega
              rw [HC.out, hlk]
              exact ⟨rfl, ⟨Z, by rw [HZ.out, HN.out], H32.out, HQ.out⟩, HR.out⟩
      · obtain rfl : k = n := by omega
        go_wp2_with fail
        go_ret
        obtain ⟨e1, e2⟩ := HALL.out wr (fun j hj => hall j (by rw [HN.out]; exact hj)) hgr
        exact ⟨by rw [e1, ← HN.out]; rfl, by rw [HN.out]; exact e2, hre⟩
end Go.Proofs.YtcdnbidenaljlaaDoor

