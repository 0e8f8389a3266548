/- Names of refs: the rules, and how they are handed out. -/
import Derived.Test.YtmfncojkpkoijaaDoorNmB
import Derived.Test.YtmfncojkpkoijaaDoorRangeB
import Derived.Laws.EntriesVeiled
namespace Go.Proofs.YtmfncojkpkoijaaDoor
open Go.RowKit Go.Shelf
attribute [local go_sem] Oper.semAt_some
set_option linter.unusedVariables false

def fnV (g : Nat) (b : Nat) : Value := .func (.func g) #[] #[.pointer (some ⟨b, 0, none⟩)]
def fnP (g : Nat) : Value := .func (.func g) #[] #[]
/-- A rule: its number, what it asks, what that says of a name. -/
structure RuleX where
  n : Int
  g : Nat
  lb : Array Value
  t : Bool
def RuleX.v (x : RuleX) : Value := .func (.func x.g) #[] x.lb
def bnd (b : Nat) : Array Value := #[.pointer (some ⟨b, 0, none⟩)]
def ruleL (B : Nat) (l : List UInt8) : List RuleX :=
  [⟨1, 48, #[], longB l⟩, ⟨2, 49, #[], !l.all mayB⟩, ⟨3, 71, bnd B, (partsL l).any (·.isEmpty)⟩, ⟨4, 71, bnd (B + 1), (partsL l).any (fun p => p.head? == some 46)⟩,
   ⟨5, 72, bnd (B + 2), pairL 46 46 l⟩, ⟨6, 71, bnd (B + 3), (partsL l).any (fun p => lockL.isSuffixOf p)⟩, ⟨7, 55, #[], l.getLast? == some 46⟩, ⟨8, 72, bnd (B + 4), pairL 64 123 l⟩]
def arrR (B : Nat) : Array Value := #[.int .i64 1, fnP 48, .int .i64 2, fnP 49, .int .i64 3, fnV 71 B, .int .i64 4, fnV 71 (B + 1), .int .i64 5, fnV 72 (B + 2),
  .int .i64 6, fnV 71 (B + 3), .int .i64 7, fnP 55, .int .i64 8, fnV 72 (B + 4)]
theorem arrR_at (B : Nat) (l : List UInt8) (k : Nat) (x : RuleX) (h : (ruleL B l)[k]? = some x) : (arrR B)[k * 2]? = some (.int .i64 x.n) ∧ (arrR B)[k * 2 + 1]? = some x.v := by
  match k, h with
  | 0, h | 1, h | 2, h | 3, h | 4, h | 5, h | 6, h | 7, h => cases h; exact ⟨rfl, rfl⟩
  | k + 8, h => exact absurd (List.getElem?_eq_some_iff.1 h).1 (by show ¬ k + 8 < 8; omega)
/-- The rules' memory, from block B on. -/
def RuSt (B : Nat) (W : World) : Prop :=
  W.heap[B]? = some (.cells #[fnP 51] 42 (0, 0)) ∧ W.heap[B + 1]? = some (.cells #[fnP 52] 42 (0, 0)) ∧
  W.heap[B + 2]? = some (.cells #[.string (bstr [46, 46])] 9 (0, 0)) ∧ W.heap[B + 3]? = some (.cells #[fnP 54] 42 (0, 0)) ∧
  W.heap[B + 4]? = some (.cells #[.string (bstr [64, 123])] 9 (0, 0)) ∧ W.heap[B + 5]? = some (.cells (arrR B) 52 (0, 0)) ∧
  W.heap[B + 6]? = some (.cells #[.slice (some ⟨B + 5, 0, none⟩) 8 8] 80 (0, 0)) ∧ MaxOK W
theorem get_below {w w' : World} (h : Below w.heap.size w w') {k : Nat} {o : Obj} (hk : w.heap[k]? = some o) : w'.heap[k]? = some o := (h.block _ (Array.getElem?_eq_some_iff.1 hk).1).trans hk
theorem RuSt.below {B : Nat} {w w' : World} (h : RuSt B w) (hb : Below w.heap.size w w') : RuSt B w' := by
  obtain ⟨h0, h1, h2, h3, h4, h5, h6, h7⟩ := h
  exact ⟨get_below hb h0, get_below hb h1, get_below hb h2, get_below hb h3, get_below hb h4, get_below hb h5, get_below hb h6, h7.below hb⟩
theorem RuSt.putObj {B : Nat} {w : World} (h : RuSt B w) {k : Nat} {o : Obj} (hk : w.heap[k]? = some o) (ho : o.isCells = false) (o' : Obj) : RuSt B (w.putObj k o') := by
  obtain ⟨h0, h1, h2, h3, h4, h5, h6, m, h7⟩ := h
  have key : ∀ {i : Nat} {cs : Array Value} {t : TypeId} {fr : Nat × Nat}, w.heap[i]? = some (.cells cs t fr) → (w.putObj k o').heap[i]? = some (.cells cs t fr) := fun {i cs t fr} hi => by
    rw [World.putObj_heap_other (fun e => by subst e; rw [hk] at hi; cases hi; cases ho)]
    exact hi
  refine ⟨key h0, key h1, key h2, key h3, key h4, key h5, key h6, m, ?_⟩
  have hne : k ≠ 1 := fun e => by
    subst e
    unfold World.cell? at h7
    rw [hk] at h7
    cases o <;> simp_all [Obj.isCells]
  have hh : (w.putObj k o').heap[1]? = w.heap[1]? := World.putObj_heap_other (fun e => hne e.symm)
  unfold World.cell? at h7 ⊢
  rw [show (({ block := 1, off := 0, spot := none } : Addr)).block = 1 from rfl] at h7 ⊢
  rw [hh]
  exact h7

theorem byPart_makes (g : Nat) (w : World) : Calls Tryd.prog 50 #[fnP g] w fun e w' => e = .returned (fnV 71 w.heap.size) ∧ w' = w.alloc (.cells #[fnP g] 42) := by
  unfold fnP fnV
  go_enter Tryd.func50, Tryd.ntmps50
  go_wp2
  go_ret
  exact ⟨rfl, rfl⟩
theorem has_makes (s : ByteArray) (w : World) : Calls Tryd.prog 53 #[.string s] w fun e w' => e = .returned (fnV 72 w.heap.size) ∧ w' = w.alloc (.cells #[.string s] 9) := by
  unfold fnV
  go_enter Tryd.func53, Tryd.ntmps53
  go_wp2
  go_ret
  exact ⟨rfl, rfl⟩
set_option maxHeartbeats 1000000 in
theorem rules_any (w : World) (hm : MaxOK w) : Calls Tryd.prog 30 #[] w fun e w' => e = .returned (fnV 56 (w.heap.size + 6)) ∧ Below w.heap.size w w' ∧ RuSt w.heap.size w' := by
  have b := byPart_makes
  have h := has_makes
  unfold fnP fnV at b
  unfold fnV at h
  go_enter Tryd.func30, Tryd.ntmps30
  go_wp2_with (first
    | (go_at_call 50; refine (b _ _).mono ?_; rintro e w' ⟨rfl, rfl⟩)
    | (go_at_call 53; refine (h _ _).mono ?_; rintro e w' ⟨rfl, rfl⟩)
    | fail)
  go_ret
  have e : w.heap.size + 1 + 1 + 1 + 1 + 1 + 1 = w.heap.size + 6 := rfl
  refine ⟨rfl, ?_, ?_⟩
  · exact (((((((Below.refl _ w).alloc (Nat.le_refl _) _).alloc (by simp only [World.size_alloc]; omega) _).alloc (by simp only [World.size_alloc]; omega) _).alloc (by simp only [World.size_alloc]; omega) _).alloc (by simp only [World.size_alloc]; omega) _).alloc (by simp only [World.size_alloc]; omega) _).alloc (by simp only [World.size_alloc]; omega) _
  · refine ⟨?_, ?_, ?_, ?_, ?_, ?_, ?_, hm.below ?_⟩
    iterate 7
      · show (((((((w.heap.push _).push _).push _).push _).push _).push _).push _)[_]? = _
        simp only [Array.getElem?_push, Array.size_push]
        repeat (first | rw [if_pos (by omega)] | rw [if_neg (by omega)])
        first | rfl | (simp [fnP, fnV, bstr, arrR]; done)
    exact (((((((Below.refl _ w).alloc (Nat.le_refl _) _).alloc (by simp only [World.size_alloc]; omega) _).alloc (by simp only [World.size_alloc]; omega) _).alloc (by simp only [World.size_alloc]; omega) _).alloc (by simp only [World.size_alloc]; omega) _).alloc (by simp only [World.size_alloc]; omega) _).alloc (by simp only [World.size_alloc]; omega) _
set_option maxRecDepth 100000 in
set_option maxHeartbeats 2000000 in
theorem rules_hands (F : Fence) (n : Nat) (hF : F.fn 56) (hro : F.round = none) (hn : 1 ≤ n) (B : Nat) (l : List UInt8) (W : World) (hS : RuSt B W) :
    HandsSome F n Tryd.prog 56 #[.pointer (some ⟨B + 6, 0, none⟩)] (fun x : RuleX => #[.agg #[.int .i64 x.n, x.v]]) (ruleL B l) (fun _ => RuSt B) (fun A A' => Below A.heap.size A A') W := by
  intro L J Jx hJ hY h0
  have hc0 : W.cell? ⟨B + 6, 0, none⟩ = some (.slice (some ⟨B + 5, 0, none⟩) 8 8) := by rw [cell_of_row _ _ _ _ _ _ hS.2.2.2.2.2.2.1]; rfl
  refine callsIn_of_wp Tryd.func56 rfl hF ?_ hro
  simp only [Tryd.ntmps56, List.size_toArray, List.length_cons, List.length_nil, Nat.reduceAdd, Nat.reduceSub, Array.replicate_succ, Array.replicate_zero, List.push_toArray, List.append_toArray, List.nil_append, List.cons_append]
  gi_wp2
  gi_loopw [7] (fun i wr => ∃ (k : Nat) (pre rest : List RuleX), i = .int .i64 k ∧ pre.length = k ∧ ruleL B l = pre ++ rest ∧ J pre wr ∧ RuSt B wr) (fun i _ => 8 - (intOf i).toNat)
  case atStart => exact ⟨0, [], _, rfl, rfl, rfl, h0, hS⟩
  case round =>
    obtain ⟨k, pre, rest, rfl, hk, hl, hJs, hst⟩ := hrel
    have hlen : pre.length + rest.length = 8 := by
      have := congrArg List.length hl
      rw [List.length_append] at this
      exact this.symm
    cases rest with
    | nil =>
      rw [List.append_nil] at hl
      have hk8 : k = 8 := by simpa [hk] using hlen
      subst hk8
      have hJ2 : J (ruleL B l) wr := by rw [hl]; exact hJs
      clear hl hk hlen
      gi_wp2
      go_end0
      exact ⟨⟨_, rfl⟩, .inl ⟨hJ2, hst⟩⟩
    | cons x r =>
      have hk8 : k < 8 := by rw [List.length_cons] at hlen; omega
      have hx : (ruleL B l)[k]? = some x := by rw [hl, List.getElem?_append_right (by omega), hk, Nat.sub_self]; rfl
      obtain ⟨e1, e2⟩ := arrR_at B l k x hx
      have a1 : wr.cell? ⟨B + 5, k * 2, none⟩ = some (.int .i64 x.n) := by rw [cell_of_row _ _ _ _ _ _ hst.2.2.2.2.2.1]; exact e1
      have a2 : wr.cell? ⟨B + 5, k * 2 + 1, none⟩ = some x.v := by rw [cell_of_row _ _ _ _ _ _ hst.2.2.2.2.2.1]; exact e2
      have hbw : Below wr.heap.size wr (wr.alloc (.cells #[.int .i64 x.n, x.v] 52)) := (Below.refl _ _).alloc (Nat.le_refl _) _
      obtain ⟨fn, tmps, assign, body, hy, hR⟩ := hY pre x r _ hl (hJ _ _ _ hJs hbw) (hst.below hbw)
      have HL := Lib.hid hl
      clear hl hlen hx e1 e2 hS hc0 hY hJ hJs hst
      obtain ⟨xn, xg, xl, xb⟩ := x
      unfold RuleX.v at a2 hy hR hbw
      dsimp only at a1 a2 hy hR hbw
      gi_wp2
      refine hR.mono ?_
      rintro e W3 (⟨rfl, hJ3, hS3⟩ | ⟨rfl, hJ3⟩)
      · gi_wp2
        refine ⟨⟨k + 1, pre ++ [⟨xn, xg, xl, xb⟩], r, by go_num, by rw [List.length_append, hk]; rfl, by rw [HL.out, List.append_assoc]; rfl, hJ3, hS3⟩, ?_⟩
        simp [intOf]
        omega
      · gi_wp2
        refine bodyPost_ret (results_none rfl _ _ _) rfl ?_
        exact ⟨⟨_, rfl⟩, .inr ⟨pre ++ [⟨xn, xg, xl, xb⟩], ⟨r, by rw [HL.out, List.append_assoc]; rfl⟩, hJ3⟩⟩
end Go.Proofs.YtmfncojkpkoijaaDoor
