/- net's law: what is done, as it came in, opened; Great. -/
import Derived.Test.YtfojlmnlolnilaaNetR
import Derived.Test.YtfojlmnlolnilaaNetOp
import Derived.Deep.Slices
namespace Go.Proofs.Ytfojlmnlolnilaa
open Go.RowKit Go.ChangeShapes Go.Deep
attribute [local go_sem] Oper.semAt_some

structure OpV where
  k : Int
  m : Int
  ff : Int
  ft : Int
  A : Option Addr
  len : Nat
  cap : Nat
  l : List UInt8
  cut : Bool
  sx : Int
  sm : Nat
def OpV.cs (o : OpV) : List Value := [.int .i64 o.k, .int .i64 o.m, .int .i64 o.ff, .int .i64 o.ft, .slice o.A o.len o.cap, .bool o.cut, .int .i64 o.sx, .int .u32 (o.sm : Int)]
def OpV.ok (W : World) (o : OpV) : Prop := (-9223372036854775808 ≤ o.k ∧ o.k ≤ 9223372036854775807) ∧ (-9223372036854775808 ≤ o.m ∧ o.m ≤ 9223372036854775807) ∧ ByteRow W o.A o.len o.cap o.l ∧ (-9223372036854775808 ≤ o.sx ∧ o.sx ≤ 9223372036854775807) ∧ o.sm < 4294967296
/-- What is asked of a list of calls that came in. -/
def OpRow (W : World) (a : Option Addr) (len cap : Nat) (L : List OpV) : Prop := L.length = len ∧ len ≤ cap ∧ cap ≤ maxLen ∧ (∀ o ∈ L, o.ok W) ∧ ∀ i, i < L.length → ∀ h : i < L.length, ∃ ad, a = some ad ∧ ∀ r u, (L[i]).cs[r]? = some u → W.cell? (ad.add (i * 8 + r)) = some u
theorem byteRow_cs {H : Type} {enc : TypeId × Value → H} {W : World} {v : Value} {x : DataW H × List MemPlace} {fuel : Nat} (h : DataW.trod enc Try.prog W 0 (fun _ => true) true fuel 22 [v] = some x) : ∃ A len cap l, v = .slice A len cap ∧ ByteRow W A len cap l := by
  have hc : Try.prog.cellsOf 5 = 1 := by kernel_rfl
  rcases open_ints Try.underlying22 Try.underlying5 hc h with ⟨hv, _⟩ | ⟨a, len, cap, zs, hv, _, hlc, _, hzl, hx, _⟩
  · obtain rfl : v = .slice none 0 0 := by simpa using hv
    exact ⟨none, 0, 0, [], rfl, rfl, Nat.le_refl _, by unfold maxLen; omega, RdC.nil _ _⟩
  · obtain rfl : v = .slice (some a) len cap := by simpa using hv
    have hT : DataW.Trod enc Try.prog W 0 (fun _ => true) true 22 (.slice (some a) len cap) x.1 x.2 := ⟨fuel, by rw [show (Value.slice (some a) len cap).cells.toList = [Value.slice (some a) len cap] by simp [Value.cells]]; exact h⟩
    obtain ⟨l, hl⟩ := byteRow_of Try.underlying22 Try.underlying5 hc hT
    exact ⟨some a, len, cap, l, rfl, hl⟩
theorem flight_cs {H : Type} {enc : TypeId × Value → H} {W : World} {cs : List Value} {x : DataW H × List MemPlace} {fuel : Nat} (h : DataW.trod enc Try.prog W 0 (fun _ => true) true fuel 38 cs = some x) : ∃ f t A len cap l, cs = [.int .i64 f, .int .i64 t, .slice A len cap] ∧ ByteRow W A len cap l := by
  obtain ⟨y0, y1, y2, n, _, hl, h0, h1, h2⟩ := trod_struct3 Try.underlying38 h
  have hc : Try.prog.cellsOf 38 = 3 := by kernel_rfl
  have hi : Try.prog.cellsOf 3 = 1 := by kernel_rfl
  have hs : Try.prog.cellsOf 22 = 1 := by kernel_rfl
  rw [hc] at hl
  match cs, hl with
  | [c0, c1, c2], _ =>
    simp only [hi, hs, List.drop_zero, List.take_succ_cons, List.take_zero, List.drop_succ_cons] at h0 h1 h2
    obtain ⟨z0, e0, _, _⟩ := DataW.trod_int Try.underlying3 h0
    obtain ⟨z1, e1, _, _⟩ := DataW.trod_int Try.underlying3 h1
    obtain ⟨A, len, cap, l, rfl, hb⟩ := byteRow_cs h2
    cases e0
    cases e1
    exact ⟨_, _, A, len, cap, l, rfl, hb⟩
theorem spoil_cs {H : Type} {enc : TypeId × Value → H} {W : World} {cs : List Value} {x : DataW H × List MemPlace} {fuel : Nat} (h : DataW.trod enc Try.prog W 0 (fun _ => true) true fuel 25 cs = some x) : ∃ (b : Bool) (x : Int) (m : Nat), cs = [.bool b, .int .i64 x, .int .u32 m] ∧ (-9223372036854775808 ≤ x ∧ x ≤ 9223372036854775807) ∧ m < 4294967296 := by
  obtain ⟨y0, y1, y2, n, _, hl, h0, h1, h2⟩ := trod_struct3 Try.underlying25 h
  have hc : Try.prog.cellsOf 25 = 3 := by kernel_rfl
  have hi : Try.prog.cellsOf 3 = 1 := by kernel_rfl
  have hb : Try.prog.cellsOf 4 = 1 := by kernel_rfl
  have hu : Try.prog.cellsOf 23 = 1 := by kernel_rfl
  rw [hc] at hl
  match cs, hl with
  | [c0, c1, c2], _ =>
    simp only [hi, hb, hu, List.drop_zero, List.take_succ_cons, List.take_zero, List.drop_succ_cons] at h0 h1 h2
    obtain ⟨z0, e0, _⟩ := DataW.trod_bool Try.underlying4 h0
    obtain ⟨z1, e1, _, w1⟩ := DataW.trod_int Try.underlying3 h1
    obtain ⟨z2, e2, _, w2⟩ := DataW.trod_int Try.underlying23 h2
    cases e0
    cases e1
    cases e2
    obtain ⟨m, rfl, hm⟩ := u32_of_wf w2
    exact ⟨_, _, m, rfl, i64_of_wf w1, hm⟩
theorem op_cs {H : Type} {enc : TypeId × Value → H} {W : World} {cs : List Value} {x : DataW H × List MemPlace} {fuel : Nat} (h : DataW.trod enc Try.prog W 0 (fun _ => true) true fuel 40 cs = some x) : ∃ o : OpV, cs = o.cs ∧ o.ok W := by
  obtain ⟨xs, n, _, rfl, hl, hlen, hf⟩ := DataW.trod_struct Try.underlying40 h
  have hc : Try.prog.cellsOf 40 = 8 := by kernel_rfl
  have hi : Try.prog.cellsOf 3 = 1 := by kernel_rfl
  have hu : Try.prog.cellsOf 38 = 3 := by kernel_rfl
  have hs : Try.prog.cellsOf 25 = 3 := by kernel_rfl
  rw [hc] at hl
  match xs, hlen with
  | [y0, y1, y2, y3], _ =>
    match cs, hl with
    | [c0, c1, c2, c3, c4, c5, c6, c7], _ =>
      have h0 := hf 0 _ rfl
      have h1 := hf 1 _ rfl
      have h2 := hf 2 _ rfl
      have h3 := hf 3 _ rfl
      simp only [hi, hu, hs, List.drop_zero, List.take_succ_cons, List.take_zero, List.drop_succ_cons, List.getElem?_cons_zero, List.getElem?_cons_succ] at h0 h1 h2 h3
      obtain ⟨z0, e0, _, w0⟩ := DataW.trod_int Try.underlying3 h0
      obtain ⟨z1, e1, _, w1⟩ := DataW.trod_int Try.underlying3 h1
      obtain ⟨f, t, A, len, cap, l, e2, hb⟩ := flight_cs h2
      obtain ⟨b, sx, sm, e3, w3, w4⟩ := spoil_cs h3
      cases e0
      cases e1
      cases e2
      cases e3
      exact ⟨⟨z0, z1, f, t, A, len, cap, l, b, sx, sm⟩, rfl, i64_of_wf w0, i64_of_wf w1, hb, w3, w4⟩
theorem ops_of {H : Type} {enc : TypeId × Value → H} {W : World} {a : Option Addr} {len cap : Nat} {d : DataW H} {p : List MemPlace}
    (h : DataW.Trod enc Try.prog W 0 (fun _ => true) true 29 (.slice a len cap) d p) : ∃ L, OpRow W a len cap L := by
  obtain ⟨fuel, hf⟩ := h
  have hc : Try.prog.cellsOf 40 = 8 := by kernel_rfl
  rcases Go.Deep.open_slice Try.underlying29 hf with ⟨hcs, _⟩ | ⟨x, l, c, m, n, D, Pl, hcs, _, hl, hm, hmm, hd, hcell⟩
  · simp [Value.cells] at hcs
    obtain ⟨rfl, rfl, rfl⟩ := hcs
    exact ⟨[], rfl, Nat.le_refl _, by unfold maxLen; omega, (fun v hv => by cases hv), fun i hi => by cases hi⟩
  · simp [Value.cells] at hcs
    obtain ⟨rfl, rfl, rfl⟩ := hcs
    have hlm : len ≤ m := by rw [hmm]; split <;> omega
    haveI : Inhabited OpV := ⟨⟨0, 0, 0, 0, none, 0, 0, [], false, 0, 0⟩⟩
    obtain ⟨f, hfn⟩ := Go.Deep.choose_lt (α := OpV) (n := len) (p := fun i o => o.ok W ∧ ∀ r u, o.cs[r]? = some u → W.cell? (x.add (i * 8 + r)) = some u) (fun i hi => by
      obtain ⟨cs', h1, h2⟩ := hcell i (by omega)
      rw [hc] at h1
      obtain ⟨o, rfl, hok⟩ := op_cs h2
      refine ⟨o, hok, fun r u hu => ?_⟩
      obtain ⟨_, hlen, hcl⟩ := World.cells?_some h1
      have := hcl r (by have := (List.getElem?_eq_some_iff.1 hu).1; simpa [OpV.cs] using this)
      rw [Go.Deep.add_add, hu] at this
      exact this)
    refine ⟨(List.range len).map f, by simp, hl, hm, fun o ho => ?_, fun i hi h' => ?_⟩
    · obtain ⟨i, hi, rfl⟩ := List.mem_map.1 ho
      exact (hfn i (List.mem_range.1 hi)).1
    · simp only [List.length_map, List.length_range] at hi
      refine ⟨x, rfl, fun r u hu => (hfn i hi).2 r u ?_⟩
      simpa using hu
theorem ByteRow.below {w w' : World} {A : Option Addr} {n c : Nat} {l : List UInt8} (h : ByteRow w A n c l) (hb : Below w.heap.size w w') : ByteRow w' A n c l := ⟨h.1, h.2.1, h.2.2.1, h.2.2.2.below hb⟩
theorem OpRow.below {w w' : World} {A : Option Addr} {n c : Nat} {L : List OpV} (h : OpRow w A n c L) (hb : Below w.heap.size w w') : OpRow w' A n c L :=
  ⟨h.1, h.2.1, h.2.2.1, fun o ho => let ⟨a, b, c, d⟩ := h.2.2.2.1 o ho; ⟨a, b, c.below hb, d⟩, fun i hi h' => by
    obtain ⟨ad, e, hc⟩ := h.2.2.2.2 i hi h'
    refine ⟨ad, e, fun r u hu => ?_⟩
    have h1 := hc r u hu
    have hlt := World.block_lt_of_cell? w _ h1
    exact (World.cell?_of_block (w := w) (w' := w') (hb.block _ hlt)).trans h1⟩
theorem add_at (p : Addr) (r : Nat) : p.add (r + 1) = ⟨p.block, p.off + (r + 1), none⟩ := by simp [Addr.add]
theorem OpRow.cell {W : World} {a : Option Addr} {len cap : Nat} {L : List OpV} (h : OpRow W a len cap L) (k : Nat) (hk : k < L.length) :
    ∃ ad, a = some ad ∧ W.cell? (ad.add (k * 8)) = some (.int .i64 (L[k]).k) ∧ ∀ r, (L[k]).cs[r + 1]? = W.cell? ⟨(ad.add (k * 8)).block, (ad.add (k * 8)).off + (r + 1), none⟩ ∨ 7 ≤ r := by
  obtain ⟨ad, rfl, hc⟩ := h.2.2.2.2 k hk hk
  refine ⟨ad, rfl, hc 0 _ rfl, fun r => ?_⟩
  by_cases hr : r < 7
  · left
    rw [← add_at _ r, Go.Deep.add_add]
    have hl : r + 1 < (L[k]).cs.length := by simp [OpV.cs]; omega
    rw [List.getElem?_eq_getElem hl]
    exact (hc (r + 1) _ (List.getElem?_eq_getElem hl)).symm
  · right; omega
def GreatPost (L : List OpV) (w : World) (e : Ending) (w' : World) : Prop := w' = w ∧ ((e = .returned (.int .i64 0) ∧ L.length ≤ 150 ∧ ∀ o ∈ L, o.len ≤ 300) ∨ e = .returned (.int .i64 1))
set_option maxRecDepth 100000 in
set_option maxHeartbeats 2000000 in
theorem great_any (a : Option Addr) (len cap : Nat) (L : List OpV) (w : World) (hR : OpRow w a len cap L) :
    Calls Try.prog 12 #[.slice a len cap] w (GreatPost L w) := by
  obtain ⟨hl, hlc, hcm, hok, hcell⟩ := id hR
  have hb : (len : Int) ≤ 9223372036854775807 := by unfold maxLen at hcm; omega
  by_cases h150 : 150 < len
  · have h150i : (150 : Int) < (len : Int) := by omega
    go_enter Try.func12, Try.ntmps12
    go_wp2
    go_ret
    exact ⟨rfl, .inr rfl⟩
  have h150i : ¬ (150 : Int) < (len : Int) := by omega
  go_enter Try.func12, Try.ntmps12
  go_wp2
  go_loopw [9] (fun i wr => ∃ k : Nat, k ≤ len ∧ i = .int .i64 (k : Int) ∧ (∀ j (hj : j < L.length), j < k → (L[j]).len ≤ 300) ∧ wr = w) (fun i _ => len - (intOf i).toNat)
  case atStart => exact ⟨0, by omega, rfl, fun j hj h => absurd h (by omega), rfl⟩
  case round =>
    obtain ⟨k, hk, rfl, hz, rfl⟩ := hrel
    by_cases hlt : k < len
    · obtain ⟨ad, rfl, q0, qr⟩ := hR.cell k (by omega)
      have q4 : wr.cell? ⟨(ad.add (k * 8)).block, (ad.add (k * 8)).off + 4, none⟩ = some (.slice (L[k]).A (L[k]).len (L[k]).cap) := by
        rcases qr 3 with h | h
        · exact h.symm
        · omega
      have hz2 := hz
      generalize hp : ad.add (k * 8) = p at *
      clear hcell qr hz
      generalize ho : L[k] = o at *
      have hLk : ∀ j (hj : j < L.length), j = k → (L[j]).len = o.len := fun j hj e => by subst e; rw [ho]
      have hwk : IntKind.i64.wrap ((k : Int) + 1) = (k : Int) + 1 := IntWalk.i64_in _ (by omega)
      have hki : (k : Int) < (len : Int) := by omega
      by_cases h3 : 300 < o.len
      · have h3i : (300 : Int) < (o.len : Int) := by omega
        clear hz2 hLk hok
        go_wp2
        go_ret
        exact ⟨rfl, .inr rfl⟩
      · have h3i : ¬ (300 : Int) < (o.len : Int) := by omega
        have HZ := Lib.hid hz2
        have HL := Lib.hid hLk
        clear hz2 hLk hok
        go_wp2
        go_roundw
        case rel =>
          refine ⟨k + 1, by omega, by go_num, fun j hj h => ?_, trivial⟩
          rcases Nat.lt_succ_iff_lt_or_eq.1 h with h | h
          · exact HZ.out j hj h
          · rw [HL.out j hj h]; omega
        case measure => simp only [intOf]; omega
    · obtain rfl : k = len := by omega
      clear hcell
      have HZ := Lib.hid hz
      have HO := Lib.hid hok
      clear hz hok
      go_wp2
      go_ret
      refine ⟨rfl, .inl ⟨rfl, by omega, fun o ho => ?_⟩⟩
      obtain ⟨j, hj, rfl⟩ := List.mem_iff_getElem.1 ho
      exact HZ.out j hj (by omega)
end Go.Proofs.Ytfojlmnlolnilaa
