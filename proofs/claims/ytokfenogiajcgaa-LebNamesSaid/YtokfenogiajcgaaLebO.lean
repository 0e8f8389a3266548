/- leb: a list of calls that came in, opened. -/
import Derived.Test.YtokfenogiajcgaaLebU
import Derived.Test.YtokfenogiajcgaaOpen
import Derived.ChangeSame
import Derived.Deep.Slices
import Derived.SizedLaws
namespace Go.Proofs.Ytokfenogiajcgaa
open Go.RowKit Go.ChangeShapes

structure OpV where
  k : Int
  m : Int
  n : Nat
  A : Option Addr
  len : Nat
  cap : Nat
  l : List UInt8
def OpV.cs (o : OpV) : List Value := [.int .i64 o.k, .int .i64 o.m, .int .u64 (o.n : Int), .slice o.A o.len o.cap]
def opsC (L : List OpV) : List Value := (L.map OpV.cs).flatten
def OpV.ok (W : World) (o : OpV) : Prop := (-9223372036854775808 ≤ o.k ∧ o.k ≤ 9223372036854775807) ∧ (-9223372036854775808 ≤ o.m ∧ o.m ≤ 9223372036854775807) ∧ o.n < 18446744073709551616 ∧ ByteRow W o.A o.len o.cap o.l ∧ o.len ≤ 140737488351232
/-- What is asked of a list of calls that came in. -/
def OpRow (W : World) (a : Option Addr) (len cap : Nat) (L : List OpV) : Prop := L.length = len ∧ len ≤ cap ∧ cap ≤ maxLen ∧ (∀ o ∈ L, o.ok W) ∧ ∀ i, i < L.length → ∀ h : i < L.length, ∃ ad, a = some ad ∧ ∀ r u, (L[i]).cs[r]? = some u → W.cell? (ad.add (i * 4 + r)) = some u
theorem weights_mem_all {H : Type} {P : Program} {e : TypeId} {l : List (DataW H)} {d : DataW H} (h : d ∈ l) : ∀ z ∈ d.weights P e, z ∈ DataW.weightsAll P e l := by
  intro z hz
  induction l with
  | nil => cases h
  | cons x l ih =>
    simp only [DataW.weightsAll, List.mem_append]
    rcases List.mem_cons.1 h with rfl | h
    · exact .inl hz
    · exact .inr (ih h)
theorem byteRow_cs {H : Type} {enc : TypeId × Value → H} {W : World} {v : Value} {x : DataW H × List MemPlace} {fuel : Nat} (h : DataW.trod enc Try.prog W 0 (fun _ => true) true fuel 24 [v] = some x) (hw : ∀ z ∈ x.1.weights Try.prog 24, z ≤ reachBytes) : ∃ A len cap l, v = .slice A len cap ∧ ByteRow W A len cap l ∧ len ≤ 140737488351232 := by
  have hc : Try.prog.cellsOf 5 = 1 := by kernel_rfl
  rcases open_ints Try.underlying24 Try.underlying5 hc h with ⟨hv, _⟩ | ⟨a, len, cap, zs, hv, _, hlc, _, hzl, hx, _⟩
  · obtain rfl : v = .slice none 0 0 := by simpa using hv
    exact ⟨none, 0, 0, [], rfl, ⟨rfl, Nat.le_refl _, by unfold maxLen; omega, RdC.nil _ _⟩, by omega⟩
  · obtain rfl : v = .slice (some a) len cap := by simpa using hv
    have hT : DataW.Trod enc Try.prog W 0 (fun _ => true) true 24 (.slice (some a) len cap) x.1 x.2 := ⟨fuel, by rw [show (Value.slice (some a) len cap).cells.toList = [Value.slice (some a) len cap] by simp [Value.cells]]; exact h⟩
    obtain ⟨l, hl⟩ := byteRow_of Try.underlying24 Try.underlying5 hc hT
    refine ⟨some a, len, cap, l, rfl, hl, ?_⟩
    have hb : Try.prog.bytesOf 5 = 1 := by kernel_rfl
    have := hw (((lits .u8 (zs.take len) : List (DataW H)).length + (lits .u8 (zs.drop len) : List (DataW H)).length) * Try.prog.bytesOf 5) (by rw [hx]; simp [DataW.weights, Try.underlying24, lits])
    rw [hb] at this
    simp only [lits, List.length_map, List.length_take, List.length_drop, reachBytes] at this
    have hzl2 : len ≤ zs.length := by rw [hzl]; split <;> omega
    omega
theorem op_cs {H : Type} {enc : TypeId × Value → H} {W : World} {cs : List Value} {x : DataW H × List MemPlace} {fuel : Nat} (h : DataW.trod enc Try.prog W 0 (fun _ => true) true fuel 30 cs = some x) (hw : ∀ z ∈ x.1.weights Try.prog 30, z ≤ reachBytes) : ∃ o : OpV, cs = o.cs ∧ o.ok W := by
  obtain ⟨xs, n, _, rfl, hl, hlen, hf⟩ := DataW.trod_struct Try.underlying30 h
  have hc : Try.prog.cellsOf 30 = 4 := by kernel_rfl
  have hi : Try.prog.cellsOf 3 = 1 := by kernel_rfl
  have hu : Try.prog.cellsOf 28 = 1 := by kernel_rfl
  have hs : Try.prog.cellsOf 24 = 1 := by kernel_rfl
  rw [hc] at hl
  match xs, hlen with
  | [y0, y1, y2, y3], _ =>
    match cs, hl with
    | [c0, c1, c2, c3], _ =>
      have h0 := hf 0 _ rfl
      have h1 := hf 1 _ rfl
      have h2 := hf 2 _ rfl
      have h3 := hf 3 _ rfl
      simp only [hi, hu, hs, List.drop_zero, List.take_succ_cons, List.take_zero, List.drop_succ_cons, List.getElem?_cons_zero, List.getElem?_cons_succ] at h0 h1 h2 h3
      obtain ⟨z0, e0, _, w0⟩ := DataW.trod_int Try.underlying3 h0
      obtain ⟨z1, e1, _, w1⟩ := DataW.trod_int Try.underlying3 h1
      obtain ⟨z2, e2, _, w2⟩ := DataW.trod_int Try.underlying28 h2
      obtain ⟨A, len, cap, l, rfl, hb⟩ := byteRow_cs h3 (fun z hz => hw z (by
        simp only [DataW.weights, Try.underlying30]
        exact DataW.weights_mem_each (j := 3) rfl rfl z hz))
      cases e0
      cases e1
      cases e2
      obtain ⟨n2, rfl, hn2⟩ := u64_of_wf w2
      exact ⟨⟨z0, z1, n2, A, len, cap, l⟩, rfl, i64_of_wf w0, i64_of_wf w1, hn2, hb⟩
theorem ops_of {H : Type} {enc : TypeId × Value → H} {W : World} {a : Option Addr} {len cap : Nat} {d : DataW H} {p : List MemPlace}
    (h : DataW.Trod enc Try.prog W 0 (fun _ => true) true 22 (.slice a len cap) d p) (hw : ∀ z ∈ d.weights Try.prog 22, z ≤ reachBytes) : ∃ L, OpRow W a len cap L := by
  obtain ⟨fuel, hf⟩ := h
  have hc : Try.prog.cellsOf 30 = 4 := by kernel_rfl
  rcases Go.Deep.open_slice Try.underlying22 hf with ⟨hcs, _⟩ | ⟨x, l, c, m, n, D, Pl, hcs, _, hl, hm, hmm, hd, hcell⟩
  · simp [Value.cells] at hcs
    obtain ⟨rfl, rfl, rfl⟩ := hcs
    exact ⟨[], rfl, Nat.le_refl _, by unfold maxLen; omega, (fun v hv => by cases hv), fun i hi => by cases hi⟩
  · simp [Value.cells] at hcs
    obtain ⟨rfl, rfl, rfl⟩ := hcs
    have hlm : len ≤ m := by rw [hmm]; split <;> omega
    haveI : Inhabited OpV := ⟨⟨0, 0, 0, none, 0, 0, []⟩⟩
    obtain ⟨f, hfn⟩ := Go.Deep.choose_lt (α := OpV) (n := len) (p := fun i o => o.ok W ∧ ∀ r u, o.cs[r]? = some u → W.cell? (x.add (i * 4 + r)) = some u) (fun i hi => by
      obtain ⟨cs', h1, h2⟩ := hcell i (by omega)
      rw [hc] at h1
      obtain ⟨o, rfl, hok⟩ := op_cs h2 (fun z hz => hw z (by
        have hd1 : d = _ := congrArg Prod.fst hd
        rw [hd1]
        simp only [DataW.weights, Try.underlying22]
        exact List.mem_cons_of_mem _ (List.mem_append_left _ (weights_mem_all (List.mem_map.2 ⟨i, List.mem_range.2 hi, rfl⟩) z hz))))
      refine ⟨o, hok, fun r u hu => ?_⟩
      obtain ⟨_, hlen, hcl⟩ := World.cells?_some h1
      have := hcl r (by have := (List.getElem?_eq_some_iff.1 hu).1; simpa [OpV.cs] using this)
      rw [Go.Deep.add_add, hu] at this
      exact this)
    refine ⟨(List.range len).map f, by simp, hl, hm, fun o ho => ?_, fun i hi h' => ?_⟩
    · obtain ⟨i, hi, rfl⟩ := List.mem_map.1 ho
      exact (hfn i (List.mem_range.1 hi)).1
    · simp only [List.length_map, List.length_range] at hi
      refine ⟨x, rfl, fun r u hu => (hfn i hi).2 r u ?_⟩
      simpa using hu
end Go.Proofs.Ytokfenogiajcgaa
