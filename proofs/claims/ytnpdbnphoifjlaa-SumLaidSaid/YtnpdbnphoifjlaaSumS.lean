/- Wrapped bytes, one behind the other: what First finds; what came in as a list of byte slices, opened. Plain; no program in sight. -/
import Derived.Test.YtnpdbnphoifjlaaSumR3
import Derived.Test.YtnpdbnphoifjlaaOpen
import Derived.Deep.Slices
namespace Go.Proofs.Ytnpdbnphoifjlaa
open Go.RowKit Go.ChangeShapes

theorem firstB_wrap (x r : List UInt8) (h : x.length ≤ 4194304) : firstB (wrapB x ++ r) = some (x, r) := by
  obtain ⟨s, hs⟩ : ∃ s, s = ofN [fourB x.length, x] := ⟨_, rfl⟩
  have hsl : s < 4294967296 := by rw [hs]; exact ofN_lt _
  have hb : wrapB x ++ r = (fourB x.length ++ x) ++ (fourB s ++ r) := by rw [hs]; simp [wrapB]
  have hl1 : (fourB x.length ++ x).length = 4 + x.length := by rw [List.length_append, fourB_length]
  have hn : numB (wrapB x ++ r) = x.length := by
    rw [← numB_take, hb, List.append_assoc, List.take_left' (fourB_length _), numB_fourB _ (by omega)]
  have hlen : (wrapB x ++ r).length = x.length + 8 + r.length := by rw [List.length_append, wrapB_length]
  have h4 : (wrapB x ++ r).drop (4 + x.length) = fourB s ++ r := by rw [hb, List.drop_left' hl1]
  have h5 : (wrapB x ++ r).take (4 + x.length) = fourB x.length ++ x := by rw [hb, List.take_left' hl1]
  have h6 : numB (fourB s ++ r) = s := by rw [← numB_take, List.take_left' (fourB_length _), numB_fourB _ hsl]
  have h7 : ((wrapB x ++ r).drop 4).take x.length = x := by
    rw [hb, List.append_assoc, List.drop_left' (fourB_length _), List.take_left' rfl]
  have h8 : (wrapB x ++ r).drop (8 + x.length) = r := by
    rw [show wrapB x ++ r = wrapB x ++ r from rfl, List.drop_left' (by rw [wrapB_length]; omega)]
  unfold firstB
  rw [hn, h4, h5, h6, h7, h8, hlen, if_neg (by omega), if_neg (by omega), if_neg (by rw [hs, ofN_two]; simp)]
theorem unwrapB_wrap (x : List UInt8) (h : x.length ≤ 4194304) : unwrapB (wrapB x) = some x := by
  have := firstB_wrap x [] h
  rw [List.append_nil] at this
  unfold unwrapB
  rw [this]
theorem unwrapB_more (x r : List UInt8) (h : x.length ≤ 4194304) (hr : r ≠ []) : unwrapB (wrapB x ++ r) = none := by
  unfold unwrapB
  rw [firstB_wrap x r h]
  cases r with
  | nil => exact absurd rfl hr
  | cons a r => rfl

/-- A cell that holds a []byte which came in. -/
theorem byteRow_cell {P : Program} {H : Type} {enc : TypeId × Value → H} {W : World} {t e : TypeId} {cs : List Value} {x : DataW H × List MemPlace} {fuel : Nat} (ht : P.underlying t = some (.slice e)) (he : P.underlying e = some (.int .u8)) (hc : P.cellsOf e = 1)
    (h : DataW.trod enc P W 0 (fun _ => true) true fuel t cs = some x) : ∃ s : SlB, cs = [s.val] ∧ ByteRow W s.A s.n s.c s.l := by
  rcases open_ints ht he hc h with ⟨rfl, _⟩ | ⟨a, len, cap, zs, rfl, _, _⟩
  · exact ⟨⟨none, 0, 0, []⟩, rfl, rfl, Nat.le_refl _, by show 0 ≤ _; unfold maxLen; omega, RdC.nil _ _⟩
  · have hT : DataW.Trod enc P W 0 (fun _ => true) true t (.slice (some a) len cap) x.1 x.2 := ⟨fuel, by rw [show (Value.slice (some a) len cap).cells.toList = [Value.slice (some a) len cap] by simp [Value.cells]]; exact h⟩
    obtain ⟨l, hl⟩ := byteRow_of ht he hc hT
    exact ⟨⟨some a, len, cap, l⟩, rfl, hl⟩
theorem byteRows_of {P : Program} {H : Type} {enc : TypeId × Value → H} {W : World} {t u e : TypeId} {a : Option Addr} {len cap : Nat} {d : DataW H} {p : List MemPlace} (ht : P.underlying t = some (.slice u)) (hu : P.underlying u = some (.slice e)) (hcu : P.cellsOf u = 1) (he : P.underlying e = some (.int .u8)) (hc : P.cellsOf e = 1)
    (h : DataW.Trod enc P W 0 (fun _ => true) true t (.slice a len cap) d p) : ∃ L : List SlB, L.length = len ∧ len ≤ cap ∧ cap ≤ maxLen ∧ RdC W a (L.map SlB.val) ∧ ∀ s ∈ L, ByteRow W s.A s.n s.c s.l := by
  obtain ⟨fuel, hf⟩ := h
  rcases Go.Deep.open_slice1 ht hcu hf with ⟨hcs, _⟩ | ⟨x, l, c, m, n, V, D, Pl, hcs, _, hl, hm, hmm, _, hcell⟩
  · simp [Value.cells] at hcs
    obtain ⟨rfl, rfl, rfl⟩ := hcs
    exact ⟨[], rfl, Nat.le_refl _, by unfold maxLen; omega, RdC.nil _ _, fun s hs => by cases hs⟩
  · simp [Value.cells] at hcs
    obtain ⟨rfl, rfl, rfl⟩ := hcs
    have hlm : len ≤ m := by rw [hmm]; split <;> omega
    haveI : Inhabited SlB := ⟨⟨none, 0, 0, []⟩⟩
    obtain ⟨f, hfn⟩ := Go.Deep.choose_lt (α := SlB) (p := fun i s => [V i] = [s.val] ∧ ByteRow W s.A s.n s.c s.l) (fun i hi => byteRow_cell hu he hc (hcell i (Nat.lt_of_lt_of_le hi hlm)).2)
    refine ⟨(List.range len).map f, by simp, hl, hm, fun j v hj => ⟨_, rfl, ?_⟩, fun s hs => ?_⟩
    · have hjl : j < len := by have := (List.getElem?_eq_some_iff.1 hj).1; simpa using this
      simp [hjl] at hj
      rw [(hcell j (by omega)).1, ← hj]
      have := (hfn j hjl).1
      simp at this
      rw [this]
    · obtain ⟨i, hi, rfl⟩ := List.mem_map.1 hs
      exact (hfn i (List.mem_range.1 hi)).2
end Go.Proofs.Ytnpdbnphoifjlaa
