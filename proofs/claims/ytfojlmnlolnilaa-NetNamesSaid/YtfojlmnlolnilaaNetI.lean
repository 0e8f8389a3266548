/- net: what hands out the frames. -/
import Derived.Test.YtfojlmnlolnilaaNetQ
import Derived.Test.YtfojlmnlolnilaaRangeR
import Derived.DefersIn
namespace Go.Proofs.Ytfojlmnlolnilaa
open Go.RowKit Go.Shelf
attribute [local go_sem] Oper.semAt_some

def EachSt (B b g : Nat) (room : Int) (v : Value) (s d x : Int) (fl : List Fl) (W : World) : Prop := Boxed W b 30 (.pointer (some ⟨g, 0, none⟩)) ∧ NetAt B g room v s d x fl W
def EachCh (A A' : World) : Prop := Below A.heap.size A A'
def EachE (B b g : Nat) (room : Int) (v : Value) (s d x : Int) (fl : List Fl) (z : Fl × Nat) (y : Array Value) (W : World) : Prop :=
  ∃ A' c' W0, y = #[.int .i64 (z.2 : Int), .agg #[.int .i64 z.1.f, .int .i64 z.1.t, .slice A' z.1.n c', .bool z.1.bad]] ∧ (NetAt B g room v s d x fl W0 ∧ b < W0.heap.size) ∧ W.ownsRow W0.heap.size 5 1 (.slice A' z.1.n c') z.1.n (u8v z.1.l)
theorem zip_at {fl : List Fl} {pre r : List (Fl × Nat)} {z : Fl × Nat} (h : fl.zipIdx = pre ++ z :: r) : ∃ hi : pre.length < fl.length, z = (fl[pre.length], pre.length) := by
  have hl : fl.zipIdx.length = fl.length := List.length_zipIdx
  have hlt : pre.length < fl.length := by rw [← hl, h]; simp
  refine ⟨hlt, ?_⟩
  have h1 : fl.zipIdx[pre.length]'(by omega) = z := by
    have : (fl.zipIdx)[pre.length]? = some z := by rw [h]; simp
    exact (List.getElem?_eq_some_iff.1 this).2
  rw [← h1, List.getElem_zipIdx]
  simp
theorem zip_end {fl : List Fl} {pre : List (Fl × Nat)} (h : fl.zipIdx = pre ++ []) : pre.length = fl.length := by
  have hl : fl.zipIdx.length = fl.length := List.length_zipIdx
  rw [h, List.append_nil] at hl
  exact hl
set_option maxRecDepth 100000 in
set_option maxHeartbeats 4000000 in
theorem each_hands (n : Nat) (hn : 1 ≤ n) (B b g : Nat) (room : Int) (v : Value) (s d x : Int) (fl : List Fl) (W : World) (hS : EachSt B b g room v s d x fl W) (hfl : fl.length ≤ 5000) (hbig : ∀ y ∈ fl, y.n ≤ 100000000) :
    HandsRel Fence.wide n Try.prog 46 #[.pointer (some ⟨b, 0, none⟩)] (EachE B b g room v s d x fl) fl.zipIdx (fun _ W => EachSt B b g room v s d x fl W) EachCh W := by
  intro L J Jx hJ hY h0
  obtain ⟨A, c, rfl, hnc, hcm, _, _⟩ := hS.2.rows
  have hcmi : (c : Int) ≤ 9223372036854775807 := by unfold maxLen at hcm; omega
  have cb := hS.1.cell
  have cg := hS.2.c.c1
  refine callsIn_of_wp Try.func46 rfl trivial ?_ rfl
  simp only [Try.ntmps46, List.size_toArray, List.length_cons, List.length_nil, Nat.reduceAdd, Nat.reduceSub, Array.replicate_succ, Array.replicate_zero, List.push_toArray, List.append_toArray, List.nil_append, List.cons_append]
  gi_wp2
  gi_loopw [10] (fun i wr => ∃ pre rest, fl.zipIdx = pre ++ rest ∧ i = .int .i64 (pre.length : Int) ∧ J pre wr ∧ EachSt B b g room (.slice A fl.length c) s d x fl wr) (fun i _ => fl.length - (intOf i).toNat)
  case atStart => exact ⟨[], fl.zipIdx, rfl, rfl, h0, hS⟩
  case round =>
    obtain ⟨pre, rest, hl, rfl, hJs, hbx, hN⟩ := hrel
    clear cb cg h0 hS
    cases rest with
    | nil =>
      have hle := zip_end hl
      have hlti : ¬ (pre.length : Int) < (fl.length : Int) := by omega
      gi_wp2
      go_end0
      exact ⟨⟨_, rfl⟩, .inl ⟨hJs, hbx, hN⟩⟩
    | cons z r =>
      obtain ⟨hi, hz⟩ := zip_at hl
      have HL := Lib.hid hl
      clear hl
      subst hz
      obtain ⟨rb, c', hv, _, _, _, hrbl, hrd⟩ := hN.rowAt (by omega)
      cases hv
      have e0 := flC_get fl _ hi 0 (by omega)
      have e1 := flC_get fl _ hi 1 (by omega)
      have e2 := flC_get fl _ hi 2 (by omega)
      have e3 := flC_get fl _ hi 3 (by omega)
      have hraw := hN.raw _ (List.getElem_mem hi)
      have hyn := hbig _ (List.getElem_mem hi)
      have hYy := fun y W1 => hY pre (fl[pre.length], pre.length) r y W1 HL.out
      generalize hyy : fl[pre.length] = y at *
      obtain ⟨yf, yt, yA, yn, yc, yl, yb⟩ := y
      simp only [Fl.cs, List.getElem?_cons_zero, List.getElem?_cons_succ] at e0 e1 e2 e3
      rw [Nat.add_zero] at e0
      have q0 := hrd _ _ e0
      have q1 := hrd _ _ e1
      have q2 := hrd _ _ e2
      have q3 := hrd _ _ e3
      simp only [Fl.v] at hraw hyn
      have hii : (pre.length : Int) < (fl.length : Int) := by omega
      obtain ⟨w1, hw1⟩ : ∃ w1, w1 = wr.alloc (.cells #[.int .i64 yf, .int .i64 yt, .slice yA yn yc, .bool yb] 74) := ⟨_, rfl⟩
      have hb1 : Below wr.heap.size wr w1 := by rw [hw1]; exact (Below.refl _ _).alloc (Nat.le_refl _) _
      have hrr : RdC w1 yA (u8v yl) := by
        obtain ⟨A', c', e, _, _, hr', _⟩ := RdC.of_own hraw.2
        have e1 : yA = A' := by injection e
        rw [e1]; exact hr'.below hb1
      have htw := twin_fl ⟨yf, yt, yA, yn, yc, yl, yb⟩ hyn hraw.1 w1 hrr
      simp only [Fl.cs] at htw
      have hlen0 := hraw.1
      clear e0 e1 e2 e3 hraw hrr
      gi_wp2_with fail
      refine ⟨trivial, ?_⟩
      rw [← hw1]
      clear hw1
      refine (callsIn_wide.2 htw).mono ?_
      rintro e w2 ⟨v2, rfl, ho, hb2⟩
      obtain ⟨A2, c2, rfl, _⟩ := RdC.of_own ho
      have hlen : yl.length = yn := hlen0
      rw [hlen] at ho ⊢
      have hb12 := below_then hb1 hb2 (Nat.le_refl _)
      have hJ2 : J pre w2 := hJ pre wr w2 hJs hb12
      have hSt2 : EachSt B b g room (.slice (some ⟨rb, 0, none⟩) fl.length c) s d x fl w2 := ⟨(hb12.block _ hbx.lt).trans hbx, hN.below hb12⟩
      obtain ⟨fn, tmps, assign, body, hy, hR⟩ := hYy #[.int .i64 (pre.length : Int), .agg #[.int .i64 yf, .int .i64 yt, .slice A2 yn c2, .bool yb]] w2 hJ2 hSt2 ⟨A2, c2, w1, rfl, ⟨hN.below hb1, Nat.lt_of_lt_of_le hbx.lt hb1.size⟩, ho⟩
      clear htw q0 q1 q2 q3 hY hYy hJs
      gi_wp2_with fail
      refine hR.mono ?_
      have hle : pre.length + r.length + 1 = fl.length := by
        have h1 := congrArg List.length HL.out
        rw [List.length_zipIdx, List.length_append, List.length_cons] at h1
        omega
      rintro e W3 (⟨rfl, hJ3, hS3⟩ | ⟨rfl, hJ3⟩)
      · gi_wp2_with fail
        refine ⟨⟨pre ++ [(⟨yf, yt, yA, yn, yc, yl, yb⟩, pre.length)], r, by rw [HL.out, List.append_assoc]; rfl, by rw [List.length_append]; rfl, hJ3, hS3⟩, by simp [intOf]; omega⟩
      · gi_wp2_with fail
        refine bodyPost_ret (results_none rfl _ _ _) rfl ?_
        exact ⟨⟨_, rfl⟩, .inr ⟨pre ++ [(⟨yf, yt, yA, yn, yc, yl, yb⟩, pre.length)], ⟨r, by rw [HL.out, List.append_assoc]; rfl⟩, hJ3⟩⟩
end Go.Proofs.Ytfojlmnlolnilaa
