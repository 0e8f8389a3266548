/- Dots: which may be; a vector's next dot; whether it has one; one added. -/
import Derived.Test.YtfifbjlmbdgmjaaVecT
namespace Go.Proofs.Ytfifbjlmbdgmjaa
open Go.RowKit

/-- A dot's cells. -/
def dC (s c : Int) : Array Value := #[.int .i64 s, .int .i64 c]
def dotOK (s c : Int) : Bool := decide (0 ≤ s) && decide (s < 16) && decide (1 ≤ c) && decide (c ≤ 4294967295)
def dotE (s c : Int) : Int := if dotOK s c = true then 0 else 50
set_option maxRecDepth 20000 in
set_option maxHeartbeats 4000000 in
theorem check_any (s c : Int) (w : World) : Calls Try.prog 38 #[.agg (dC s c)] w fun e w' => e = .returned (.int .i64 (dotE s c)) ∧ Below w.heap.size w w' := by
  have hb1 : Below w.heap.size w (w.alloc (.cells #[.int .i64 s, .int .i64 c] 35)) := (Below.refl _ w).alloc (Nat.le_refl _) _
  by_cases h1 : s < 0
  · have hd : dotE s c = 50 := by unfold dotE dotOK; rw [if_neg (by simp; omega)]
    rw [hd]
    unfold dC
    go_enter Try.func38, Try.ntmps38
    go_wp2_with fail
    go_ret
    exact ⟨rfl, hb1⟩
  by_cases h2 : 16 ≤ s
  · have hd : dotE s c = 50 := by unfold dotE dotOK; rw [if_neg (by simp; omega)]
    rw [hd]
    unfold dC
    go_enter Try.func38, Try.ntmps38
    go_wp2_with fail
    go_ret
    exact ⟨rfl, hb1⟩
  by_cases h3 : c < 1
  · have hd : dotE s c = 50 := by unfold dotE dotOK; rw [if_neg (by simp; omega)]
    rw [hd]
    unfold dC
    go_enter Try.func38, Try.ntmps38
    go_wp2_with fail
    go_ret
    exact ⟨rfl, hb1⟩
  by_cases h4 : 4294967295 < c
  · have hd : dotE s c = 50 := by unfold dotE dotOK; rw [if_neg (by simp; omega)]
    rw [hd]
    unfold dC
    go_enter Try.func38, Try.ntmps38
    go_wp2_with fail
    go_ret
    exact ⟨rfl, hb1⟩
  · have hd : dotE s c = 0 := by unfold dotE dotOK; rw [if_pos (by simp; omega)]
    rw [hd]
    unfold dC
    go_enter Try.func38, Try.ntmps38
    go_wp2_with fail
    go_ret
    exact ⟨rfl, hb1⟩
set_option maxRecDepth 20000 in
set_option maxHeartbeats 4000000 in
theorem rcheck_any (s c : Int) (w : World) : Calls Try.prog 39 #[.agg (dC s c)] w fun e w' => e = .returned (.int .i64 (dotE s c)) ∧ Below w.heap.size w w' := by
  have hb1 : Below w.heap.size w (w.alloc (.cells #[.int .i64 s, .int .i64 c] 35)) := (Below.refl _ w).alloc (Nat.le_refl _) _
  by_cases h1 : s < 0
  · have hd : dotE s c = 50 := by unfold dotE dotOK; rw [if_neg (by simp; omega)]
    rw [hd]
    unfold dC
    go_enter Try.func39, Try.ntmps39
    go_wp2_with fail
    go_ret
    exact ⟨rfl, hb1⟩
  by_cases h2 : 16 ≤ s
  · have hd : dotE s c = 50 := by unfold dotE dotOK; rw [if_neg (by simp; omega)]
    rw [hd]
    unfold dC
    go_enter Try.func39, Try.ntmps39
    go_wp2_with fail
    go_ret
    exact ⟨rfl, hb1⟩
  by_cases h3 : c < 1
  · have hd : dotE s c = 50 := by unfold dotE dotOK; rw [if_neg (by simp; omega)]
    rw [hd]
    unfold dC
    go_enter Try.func39, Try.ntmps39
    go_wp2_with fail
    go_ret
    exact ⟨rfl, hb1⟩
  by_cases h4 : 4294967295 < c
  · have hd : dotE s c = 50 := by unfold dotE dotOK; rw [if_neg (by simp; omega)]
    rw [hd]
    unfold dC
    go_enter Try.func39, Try.ntmps39
    go_wp2_with fail
    go_ret
    exact ⟨rfl, hb1⟩
  · have hd : dotE s c = 0 := by unfold dotE dotOK; rw [if_pos (by simp; omega)]
    rw [hd]
    unfold dC
    go_enter Try.func39, Try.ntmps39
    go_wp2_with fail
    go_ret
    exact ⟨rfl, hb1⟩
theorem results_cell_tmp {P : Program} {fn : Func} {p q : Tmp} {ty : TypeId} (h : fn.results = #[.cell p ty, .tmp q]) (tmps : Array Value) (w : World) (g : Nat) (t : TypeId) (cs : Array Value) (fr : Nat × Nat) (d : TypeDesc)
    (hp : tmps.getD p undef = .pointer (some ⟨g, 0, none⟩)) (hg : w.heap[g]? = some (.cells cs t fr))
    (hu : P.underlying ty = some d) (hd : (match d with | .struct _ | .array _ _ => true | _ => false) = true) (hi : (P.info? ty).map (·.size) = some cs.size) :
    (results fn tmps).run P w = .ok (.tuple #[.agg cs, tmps.getD q undef]) w := by
  have hp' : tmps[p]?.getD undef = .pointer (some ⟨g, 0, none⟩) := by simpa using hp
  simp [results, h, hp', asAddr, run_loadVar_row w g t ty cs fr d hg hu hd hi]
/-- A site's next dot, or the error. -/
def nextS (v : List Nat) (s : Int) : Int := if 0 ≤ s ∧ s < 16 ∧ v.getD s.toNat 0 ≠ 4294967295 then s else 0
def nextC (v : List Nat) (s : Int) : Int := if 0 ≤ s ∧ s < 16 ∧ v.getD s.toNat 0 ≠ 4294967295 then (v.getD s.toNat 0 : Int) + 1 else 0
def nextE (v : List Nat) (s : Int) : Int := if 0 ≤ s ∧ s < 16 then (if v.getD s.toNat 0 = 4294967295 then 60 else 0) else 50
theorem size_dot : (Try.prog.info? 35).map (·.size) = some 2 := by kernel_rfl
set_option maxRecDepth 20000 in
set_option maxHeartbeats 4000000 in
theorem next_any (v : List Nat) (hv : v.length = 16) (sv : small v) (s : Int) (w : World) : Calls Try.prog 17 #[.agg (vC v), .int .i64 s] w fun e w' => e = .returned (.tuple #[.agg (dC (nextS v s) (nextC v s)), .int .i64 (nextE v s)]) ∧ Below w.heap.size w w' := by
  have hb2 : ∀ (O1 O2 : Obj), Below w.heap.size w ((w.alloc O1).alloc O2) := fun O1 O2 => ((Below.refl _ w).alloc (Nat.le_refl _) _).alloc (by simp) _
  by_cases h1 : s < 0
  · have e1 : nextS v s = 0 := by unfold nextS; rw [if_neg (by omega)]
    have e2 : nextC v s = 0 := by unfold nextC; rw [if_neg (by omega)]
    have e3 : nextE v s = 50 := by unfold nextE; rw [if_neg (by omega)]
    rw [e1, e2, e3]
    go_enter Try.func17, Try.ntmps17
    go_wp2_with fail
    have hg : ((w.alloc (.cells (vC v) 24)).alloc (.cells #[.int .i64 0, .int .i64 0] 35)).heap[w.heap.size + 1]? = some (.cells #[.int .i64 0, .int .i64 0] 35 (0, 0)) := heap_alloc2_new _ _ _
    refine bodyPost_ret (results_cell_tmp rfl _ _ (w.heap.size + 1) 35 #[.int .i64 0, .int .i64 0] (0, 0) _ rfl hg Try.underlying35 rfl size_dot) rfl ⟨rfl, hb2 _ _⟩
  by_cases h2 : 16 ≤ s
  · have e1 : nextS v s = 0 := by unfold nextS; rw [if_neg (by omega)]
    have e2 : nextC v s = 0 := by unfold nextC; rw [if_neg (by omega)]
    have e3 : nextE v s = 50 := by unfold nextE; rw [if_neg (by omega)]
    rw [e1, e2, e3]
    go_enter Try.func17, Try.ntmps17
    go_wp2_with fail
    have hg : ((w.alloc (.cells (vC v) 24)).alloc (.cells #[.int .i64 0, .int .i64 0] 35)).heap[w.heap.size + 1]? = some (.cells #[.int .i64 0, .int .i64 0] 35 (0, 0)) := heap_alloc2_new _ _ _
    refine bodyPost_ret (results_cell_tmp rfl _ _ (w.heap.size + 1) 35 #[.int .i64 0, .int .i64 0] (0, 0) _ rfl hg Try.underlying35 rfl size_dot) rfl ⟨rfl, hb2 _ _⟩
  obtain ⟨k, rfl⟩ : ∃ k : Nat, s = (k : Int) := ⟨s.toNat, by omega⟩
  have hk : k < v.length := by omega
  have hg1 : ((w.alloc (.cells (vC v) 24)).alloc (.cells #[.int .i64 0, .int .i64 0] 35)).heap[w.heap.size]? = some (.cells (vC v) 24 (0, 0)) := heap_alloc2_old _ _ _
  have cA : ((w.alloc (.cells (vC v) 24)).alloc (.cells #[.int .i64 0, .int .i64 0] 35)).cell? ⟨w.heap.size, k, none⟩ = some (.int .u32 (v[k] : Int)) := by
    rw [cell_of_row _ _ _ _ _ _ hg1, vC_get _ _ hk]
  have hx := sv v[k] (List.getElem_mem _)
  have hgd : v.getD k 0 = v[k] := by rw [List.getD_eq_getElem?_getD, List.getElem?_eq_getElem hk]; rfl
  by_cases h3 : v[k] = 4294967295
  · have e1 : nextS v k = 0 := by unfold nextS; rw [if_neg (by simp only [Int.toNat_natCast, hgd]; omega)]
    have e2 : nextC v k = 0 := by unfold nextC; rw [if_neg (by simp only [Int.toNat_natCast, hgd]; omega)]
    have e3 : nextE v k = 60 := by unfold nextE; rw [if_pos (by omega), if_pos (by simp only [Int.toNat_natCast, hgd]; exact h3)]
    rw [e1, e2, e3]
    rw [h3] at cA
    clear hx hgd h3
    go_enter Try.func17, Try.ntmps17
    go_wp2_with fail
    have hg : ((w.alloc (.cells (vC v) 24)).alloc (.cells #[.int .i64 0, .int .i64 0] 35)).heap[w.heap.size + 1]? = some (.cells #[.int .i64 0, .int .i64 0] 35 (0, 0)) := heap_alloc2_new _ _ _
    refine bodyPost_ret (results_cell_tmp rfl _ _ (w.heap.size + 1) 35 #[.int .i64 0, .int .i64 0] (0, 0) _ rfl hg Try.underlying35 rfl size_dot) rfl ⟨rfl, hb2 _ _⟩
  · have e1 : nextS v k = k := by unfold nextS; rw [if_pos (by simp only [Int.toNat_natCast, hgd]; omega)]
    have e2 : nextC v k = (v[k] : Int) + 1 := by unfold nextC; rw [if_pos (by simp only [Int.toNat_natCast, hgd]; omega)]; simp only [Int.toNat_natCast, hgd]
    have e3 : nextE v k = 0 := by unfold nextE; rw [if_pos (by omega), if_neg (by simp only [Int.toNat_natCast, hgd]; exact h3)]
    rw [e1, e2, e3]
    clear hgd
    generalize v[k] = x at *
    have hne : ((x : Int) == 4294967295) = false := by simp; omega
    go_enter Try.func17, Try.ntmps17
    go_wp2_with fail
    have hg : ((w.alloc (.cells (vC v) 24)).alloc (.cells #[.int .i64 (k : Int), .int .i64 ((x : Int) + 1)] 35)).heap[w.heap.size + 1]? = some (.cells #[.int .i64 (k : Int), .int .i64 ((x : Int) + 1)] 35 (0, 0)) := heap_alloc2_new _ _ _
    refine bodyPost_ret (results_cell_tmp rfl _ _ (w.heap.size + 1) 35 #[.int .i64 (k : Int), .int .i64 ((x : Int) + 1)] (0, 0) _ rfl hg Try.underlying35 rfl size_dot) rfl ⟨rfl, hb2 _ _⟩
end Go.Proofs.Ytfifbjlmbdgmjaa
