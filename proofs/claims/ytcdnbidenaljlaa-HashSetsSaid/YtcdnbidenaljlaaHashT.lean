/- Ids: their texts, the reference's and the program's. -/
import Derived.Test.YtcdnbidenaljlaaHashC
import Derived.Laws.Strings2
namespace Go.Proofs.Ytcdnbidenaljlaa
open Go.RowKit

def digs : List UInt8 := [48, 49, 50, 51, 52, 53, 54, 55, 56, 57, 97, 98, 99, 100, 101, 102]
def hexD (n : Nat) : UInt8 := digs.getD n 0
def textB (l : List UInt8) : List UInt8 := l.flatMap fun c => [hexD (c.toNat / 16), hexD (c.toNat % 16)]
theorem textB_length (l : List UInt8) : (textB l).length = 2 * l.length := by
  induction l with
  | nil => rfl
  | cons c l ih =>
    have : textB (c :: l) = [hexD (c.toNat / 16), hexD (c.toNat % 16)] ++ textB l := rfl
    rw [this, List.length_append, ih]
    simp
    omega
theorem textB_snoc (l : List UInt8) (k : Nat) (h : k < l.length) : textB (l.take (k + 1)) = textB (l.take k) ++ [hexD (l[k].toNat / 16), hexD (l[k].toNat % 16)] := by
  unfold textB
  rw [List.take_succ_eq_append_getElem h, List.flatMap_append]
  simp
theorem dig_ext (q : Nat) (h : q < 16) : (⟨#[48, 49, 50, 51, 52, 53, 54, 55, 56, 57, 97, 98, 99, 100, 101, 102]⟩ : ByteArray).extract q (q + 1) = bstr [hexD q] := by
  have := ByteArray.extract_mk digs q (q + 1)
  refine Eq.trans this ?_
  unfold bstr hexD
  have hd : q < digs.length := h
  rw [Nat.add_sub_cancel_left, List.drop_eq_getElem_cons hd, List.take_succ_cons, List.take_zero, List.getD_eq_getElem?_getD, List.getElem?_eq_getElem hd]
  rfl
theorem bstr_app (l m : List UInt8) : bstr l ++ bstr m = bstr (l ++ m) := by
  apply ByteArray.ext
  simp [bstr]
set_option maxHeartbeats 1000000 in
theorem rtext_any (a : List UInt8) (ha : a.length = 32) (w : World) :
    Calls Try.prog 8 #[.agg (idC a)] w fun e w' => e = .returned (.string (bstr (textB a))) ∧ Below w.heap.size w w' := by
  go_enter Try.func8, Try.ntmps8
  go_wp2_with fail
  have hb1 : Below w.heap.size w (w.alloc (.cells (idC a) 23)) := (Below.refl _ w).alloc (Nat.le_refl _) _
  have hg1 : (w.alloc (.cells (idC a) 23)).heap[w.heap.size]? = some (.cells (idC a) 23 (0, 0)) := heap_alloc_new _ _
  obtain ⟨w1, hw1⟩ : ∃ w1, w1 = w.alloc (.cells (idC a) 23) := ⟨_, rfl⟩
  rw [← hw1] at hb1 hg1 ⊢
  clear hw1
  go_loopw [3, 4] (fun s i wr => ∃ k : Nat, k ≤ 32 ∧ i = .int .i64 k ∧ (∃ S : ByteArray, s = .string S ∧ Hid (S = bstr (textB (a.take k)))) ∧ Below w1.heap.size w1 wr) (fun _ i _ => 32 - (intOf i).toNat)
  case atStart => exact ⟨0, by omega, rfl, ⟨_, rfl, rfl⟩, Below.refl _ _⟩
  case round =>
    obtain ⟨k, hk, rfl, ⟨S, rfl, hS⟩, hbr⟩ := hrel
    by_cases hlt : k < 32
    · have ka : k < a.length := by omega
      have hA : wr.cell? ⟨w.heap.size, k, none⟩ = some (.int .u8 (a[k].toNat : Int)) := by
        rw [(hbr.cell (p := ⟨w.heap.size, k, none⟩) (lt_of_get hg1)), cell_of_row _ _ _ _ _ _ hg1]
        exact idC_get a k ka
      have hsn := textB_snoc a k ka
      have hszS : S.size = 2 * k := by rw [hS.out, bstr_size, textB_length, List.length_take]; omega
      generalize a[k] = x at *
      have hx8 := x.toNat_lt
      have d1 := dig_ext (x.toNat / 16) (by omega)
      have d2 := dig_ext (x.toNat % 16) (by omega)
      have hnew : Hid (S ++ (⟨#[48, 49, 50, 51, 52, 53, 54, 55, 56, 57, 97, 98, 99, 100, 101, 102]⟩ : ByteArray).extract (x.toNat / 16) (x.toNat / 16 + 1) ++ (⟨#[48, 49, 50, 51, 52, 53, 54, 55, 56, 57, 97, 98, 99, 100, 101, 102]⟩ : ByteArray).extract (x.toNat % 16) (x.toNat % 16 + 1) = bstr (textB (a.take (k + 1)))) := by
        show _ = _
        rw [d1, d2, hS.out, hsn, bstr_app, bstr_app, List.append_assoc]
        rfl
      clear hsn d1 d2
      go_wp2_with fail
      go_quiet (fail)
      go_wp2_with fail
      go_roundw
      case rel => exact ⟨k + 1, by omega, by go_num, ⟨_, rfl, hnew⟩, below_drewN hbr _⟩
      case measure => simp [intOf]; omega
    · obtain rfl : k = 32 := by omega
      go_wp2_with fail
      go_ret
      exact ⟨by
        have := hS.out
        rw [List.take_of_length_le (by omega)] at this
        rw [← this]
        rfl, below_then hb1 hbr (Nat.le_refl _)⟩
theorem dig_run (q : Nat) (h : q < 16) (W : World) : (Instr.index 9 (.string ⟨#[48, 49, 50, 51, 52, 53, 54, 55, 56, 57, 97, 98, 99, 100, 101, 102]⟩) (.int .u8 (q : Int))).run Try.prog W = .ok (.int .u8 ((hexD q).toNat : Int)) W := by
  have hd : q < digs.length := h
  have hsz : (⟨#[48, 49, 50, 51, 52, 53, 54, 55, 56, 57, 97, 98, 99, 100, 101, 102]⟩ : ByteArray).size = 16 := rfl
  rw [run_index_string (P := Try.prog) W 9 _ .u8 q Try.underlying9, dif_pos ⟨by omega, by rw [hsz]; omega⟩]
  unfold hexD
  rw [List.getD_eq_getElem?_getD, List.getElem?_eq_getElem hd]
  rfl
theorem info8 : (Try.prog.info? 5).map (fun i => (i.zero, i.size, i.bytes)) = some (some (.int .u8 0), 1, 1) := by kernel_rfl
theorem elt8 : Elt Try.prog 40 5 1 1 (.int .u8 0) := ⟨Try.underlying40, info8, rfl, by omega⟩
theorem below_al {w W : World} (h : Below w.heap.size w W) (o : Obj) : Below w.heap.size w (W.alloc o) := h.alloc h.size o
theorem rd_two {w : World} {g : Nat} {t : TypeId} {y z : UInt8} (h : w.heap[g]? = some (.cells #[.int .u8 (y.toNat : Int), .int .u8 (z.toNat : Int)] t (0, 0))) : RdC w (some ⟨g, 0, none⟩) (u8v [y, z]) := fun j u hj => by
  refine ⟨_, rfl, ?_⟩
  rw [addr_add_plain, Nat.zero_add, cell_of_row _ _ j _ _ _ h, ← hj, ← Array.getElem?_toList]
  rfl
theorem str_of {w : World} {A : Option Addr} {n c : Nat} {l : List UInt8} (hl : l.length = n) (hr : RdC w A (u8v l)) : (convert 40 9 (.slice A n c)).run Try.prog w = .ok (.string (bstr l)) w := by
  rw [← hl]
  exact run_string_of (P := Try.prog) w 40 9 5 Try.underlying40 Try.underlying5 Try.underlying9 A l c hr
theorem low4 (x : Nat) : x &&& 15 = x % 16 := Nat.and_two_pow_sub_one_eq_mod x 4
set_option maxHeartbeats 2000000 in
theorem text_any (a : List UInt8) (ha : a.length = 32) (w : World) :
    Calls Try.prog 7 #[.agg (idC a)] w fun e w' => e = .returned (.string (bstr (textB a))) ∧ Below w.heap.size w w' := by
  go_enter Try.func7, Try.ntmps7
  have hb1 : Below w.heap.size w (w.alloc (.cells (idC a) 23)) := (Below.refl _ w).alloc (Nat.le_refl _) _
  have hg1 : (w.alloc (.cells (idC a) 23)).heap[w.heap.size]? = some (.cells (idC a) 23 (0, 0)) := heap_alloc_new _ _
  have hsa : (Try.prog.info? 23).map (·.size) = some (idC a).size := by rw [idC_size, ha]; exact size_id
  go_wp2_with (first
    | (with_reducible refine wpList_load_row rfl 23 (.tmp 1) rfl _ rfl 23 (idC a) _ _ hg1 Try.underlying23 rfl hsa ?_)
    | fail)
  obtain ⟨w1, hw1⟩ : ∃ w1, w1 = w.alloc (.cells (idC a) 23) := ⟨_, rfl⟩
  rw [← hw1] at hb1 hg1 ⊢
  clear hw1
  go_loopw [3, 7] (fun s i wr => ∃ k : Nat, k ≤ 32 ∧ i = .int .i64 k ∧ wr.ownsRow w1.heap.size 5 1 s (2 * k) (u8v (textB (a.take k))) ∧ Below w1.heap.size w1 wr) (fun _ i _ => 32 - (intOf i).toNat)
  case atStart => exact ⟨0, by omega, rfl, ⟨by simp [u8v, textB], .inl ⟨rfl, rfl⟩⟩, Below.refl _ _⟩
  case round =>
    obtain ⟨k, hk, rfl, hown, hbr⟩ := hrel
    by_cases hlt : k < 32
    · have ka : k < a.length := by omega
      have hix := fun W => run_index_agg (P := Try.prog) W 23 5 32 .i64 (k : Int) (idC a) _ Try.underlying23 (by kernel_rfl) (Try.isAgg5 W) (by omega) (by omega) (idC_get a k ka)
      have hsn := textB_snoc a k ka
      generalize a[k] = x at *
      have hx8 := x.toNat_lt
      have hand : bits BinOp.and IntKind.u8 (x.toNat : Int) 15 = (x.toNat : Int) % 16 := by
        have := u8_and_nat x.toNat 15 x.toNat_lt (by omega)
        rw [low4] at this
        exact this
      have e1 := dig_run (x.toNat / 16) (by omega)
      have e2 := dig_run (x.toNat % 16) (by omega)
      rw [Int.natCast_ediv] at e1
      rw [Int.natCast_emod] at e2
      obtain ⟨y1, hy1⟩ : ∃ y, y = hexD (x.toNat / 16) := ⟨_, rfl⟩
      obtain ⟨y2, hy2⟩ : ∃ y, y = hexD (x.toNat % 16) := ⟨_, rfl⟩
      rw [← hy1] at e1 hsn
      rw [← hy2] at e2 hsn
      have f1 : ∀ W, (Instr.index 9 (.string ⟨#[48, 49, 50, 51, 52, 53, 54, 55, 56, 57, 97, 98, 99, 100, 101, 102]⟩) (.int .u8 ((x.toNat : Int) / 16))).run Try.prog W = .ok (.int .u8 (y1.toNat : Int)) W := e1
      have f2 : ∀ W, (Instr.index 9 (.string ⟨#[48, 49, 50, 51, 52, 53, 54, 55, 56, 57, 97, 98, 99, 100, 101, 102]⟩) (.int .u8 ((x.toNat : Int) % 16))).run Try.prog W = .ok (.int .u8 (y2.toNat : Int)) W := e2
      have HSN : Hid (u8v (textB (a.take (k + 1))) = u8v (textB (a.take k)) ++ u8v [y1, y2]) := by show _ = _; rw [hsn, u8v_append]
      clear e1 e2 hy1 hy2 hsn
      generalize textB (a.take k) = xs at *
      have st1 : 2 * k + 2 ≤ maxLen := by unfold maxLen; omega
      have st2 : (2 * k + 2) * 1 ≤ 140737488355328 := by omega
      have hbO : Below w1.heap.size w1 ((wr.alloc (.cells #[.int .u8 (y1.toNat : Int), .int .u8 (y2.toNat : Int)] 5)).drew) := (below_al hbr _).drew
      have st3 := hbO.size
      have hown2 : ((wr.alloc (.cells #[.int .u8 (y1.toNat : Int), .int .u8 (y2.toNat : Int)] 5)).drew).ownsRow w1.heap.size 5 1 _ (2 * k) (u8v xs) := own_below hown (((Below.refl _ wr).alloc (Nat.le_refl _) _).drew)
      have hrd : RdC ((wr.alloc (.cells #[.int .u8 (y1.toNat : Int), .int .u8 (y2.toNat : Int)] 5)).drew) (some ⟨wr.heap.size, 0, none⟩) (u8v [y1, y2]) := rd_two (heap_alloc_new _ _)
      go_wp2_with fail
      go_region_held3 (fun W => Below w1.heap.size w1 W) ((repeat first | exact Below.refl _ _ | assumption | apply Below.drew | apply below_al)) (first
        | (refine step_app elt8 rfl (.tmp 10) (.tmp 17) rfl w1.heap.size _ (2 * k) (u8v xs) rfl hown2 (some ⟨wr.heap.size, 0, none⟩) 2 2 (u8v [y1, y2]) rfl rfl hrd (u8v_one _) st1 st2 st3 ?_; intro v' w' ho hg; have hb3 := below_grown hbO hown2 hg st3 (Nat.le_refl _))
        | fail)
      all_goals go_wp2
      all_goals exact ⟨⟨k + 1, by omega, by go_num, by rw [HSN.out, show 2 * (k + 1) = 2 * k + 2 by omega]; exact ho, hb3⟩, by simp [intOf]; omega⟩
    · obtain rfl : k = 32 := by omega
      rw [List.take_of_length_le (by omega)] at hown
      obtain ⟨A3, c3, rfl, hc3, hm3, hr3, hB3⟩ := RdC.of_own hown
      have k1 := str_of (c := c3) (by rw [textB_length, ha]) hr3
      clear hB3 hown
      go_wp2_with fail
      go_ret
      exact ⟨rfl, below_then hb1 hbr (Nat.le_refl _)⟩
end Go.Proofs.Ytcdnbidenaljlaa
