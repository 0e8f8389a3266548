/- leb: a list of calls that came in, opened. -/
import Derived.Test.YtfifbjlmbdgmjaaLebU
import Derived.Test.YtfifbjlmbdgmjaaOpen
import Derived.ChangeSame
import Derived.Deep.Slices
import Derived.SizedLaws
namespace Go.Proofs.Ytfifbjlmbdgmjaa
open Go.RowKit Go.ChangeShapes

structure OpV where
  k : Int
  m : Int
  n : Nat
  A : Option Addr
  len : Nat
  cap : Nat
  l : List UInt8
def OpV.cs (o : OpV) : List Value := [.int .i64 o.k, .int .i64 o.m, .int .u64 (o.n : Int), .slice o.A o.len o.cap]
def opsC (L : List OpV) : List Value := (L.map OpV.cs).flatten
def OpV.ok (W : World) (o : OpV) : Prop := (-9223372036854775808 ≤ o.k ∧ o.k ≤ 9223372036854775807) ∧ (-9223372036854775808 ≤ o.m ∧ o.m ≤ 9223372036854775807) ∧ o.n < 18446744073709551616 ∧ ByteRow W o.A o.len o.cap o.l ∧ o.len ≤ 140737488351232
/-- What is asked of a list of calls that came in. -/
def OpRow (W : World) (a : Option Addr) (len cap : Nat) (L : List OpV) : Prop := L.length = len ∧ len ≤ cap ∧ cap ≤ maxLen ∧ (∀ o ∈ L, o.ok W) ∧ ∀ i, i < L.length → ∀ h : i < L.length, ∃ ad, a = some ad ∧ ∀ r u, (L[i]).cs[r]? = some u → W.cell? (ad.add (i * 4 + r)) = some u
theorem weights_mem_all {H : Type} {P : Program} {e : TypeId} {l : List (DataW H)} {d : DataW H} (h : d ∈ l) : ∀ z ∈ d.weights P e, z ∈ DataW.weightsAll P e l := by
  intro z hz
  induction l with
  | nil => cases h
  | cons x l ih =>
    simp only [DataW.weightsAll, List.mem_append]
    rcases List.mem_cons.1 h with rfl | h
    · exact .inl hz
    · exact .inr (ih h)
theorem byteRow_cs {H : Type} {enc : TypeId × Value → H} {W : World} {v : Value} {x : DataW H × List MemPlace} {fuel : Nat} (h : DataW.trod enc Try.prog W 0 (fun _ => true) true fuel 33 [v] = some x) (hw : ∀ z ∈ x.1.weights Try.prog 33, z ≤ reachBytes) : ∃ A len cap l, v = .slice A len cap ∧ ByteRow W A len cap l ∧ len ≤ 140737488351232 := by
  have hc : Try.prog.cellsOf 5 = 1 := by kernel_rfl
  rcases open_ints Try.underlying33 Try.underlying5 hc h with ⟨hv, _⟩ | ⟨a, len, cap, zs, hv, _, hlc, _, hzl, hx, _⟩
  · obtain rfl : v = .slice none 0 0 := by simpa using hv
    exact ⟨none, 0, 0, [], rfl, ⟨rfl, Nat.le_refl _, by unfold maxLen; omega, RdC.nil _ _⟩, by omega⟩
  · obtain rfl : v = .slice (some a) len cap := by simpa using hv
    have hT : DataW.Trod enc Try.prog W 0 (fun _ => true) true 33 (.slice (some a) len cap) x.1 x.2 := ⟨fuel, by rw [show (Value.slice (some a) len cap).cells.toList = [Value.slice (some a) len cap] by simp [Value.cells]]; exact h⟩
    obtain ⟨l, hl⟩ := byteRow_of Try.underlying33 Try.underlying5 hc hT
    refine ⟨some a, len, cap, l, rfl, hl, ?_⟩
    have hb : Try.prog.bytesOf 5 = 1 := by kernel_rfl
    have := hw (((lits .u8 (zs.take len) : List (DataW H)).length + (lits .u8 (zs.drop len) : List (DataW H)).length) * Try.prog.bytesOf 5) (by rw [hx]; simp [DataW.weights, Try.underlying33, lits])
    rw [hb] at this
    simp only [lits, List.length_map, List.length_take, List.length_drop, reachBytes] at this
    have hzl2 : len ≤ zs.length := by rw [hzl]; split <;> omega
    omega
end Go.Proofs.Ytfifbjlmbdgmjaa
