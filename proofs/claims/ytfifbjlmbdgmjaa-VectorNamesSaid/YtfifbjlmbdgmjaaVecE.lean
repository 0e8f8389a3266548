/- Vectors: whether one has a dot; a dot added. -/
import Derived.Test.YtfifbjlmbdgmjaaVecGh
namespace Go.Proofs.Ytfifbjlmbdgmjaa
open Go.RowKit

theorem run_build_z {P : Program} (W : World) (ty e : TypeId) (n : Nat) (Z : Array Value) (hz : (P.info? ty).bind (fun i => i.zero.map Value.cells) = some Z) (ht : P.underlying ty = some (.array n e)) (hs : ∃ z, (sizeOf e).run P W = .ok z W) : (Instr.build ty #[]).run P W = .ok (.agg Z) W := by
  obtain ⟨z, hs⟩ := hs
  cases hq : P.info? ty with
  | none => simp [hq] at hz
  | some i =>
    cases hq2 : i.zero with
    | none => simp [hq, hq2] at hz
    | some v =>
      have hv : v.cells = Z := by simpa [hq, hq2] using hz
      simp [Instr.build, zeroValue, typeInfo, hq, hq2, run_underlying ht, hs, Instr.fill, hv]
theorem wpList_build_z {P : Program} {ops : Array Oper} {rest : List Oper} {o : Oper} {a : Act} {w : World} {Q : Exit → Act → World → Prop} (hgd : o.guard = none) (ty : TypeId) (ho : o.op = .build ty #[]) (Z : Array Value) (hr : (Instr.build ty #[]).run P w = .ok (.agg Z) w)
    (h : wpList P ops Q rest (a.put o.dst (.agg Z)) w) : wpList P ops Q (o :: rest) a w := by
  refine wpList_plain hgd fun K hK => ?_
  unfold Oper.wp execOp
  simp only [ho, Array.map_empty, Sem.run_bind, hr]
  exact hK _ _ h
theorem wrap64 (n : Int) (h : -9223372036854775808 ≤ n ∧ n ≤ 9223372036854775807) : IntKind.i64.wrap n = n := by rw [IntKind.wrap_i64]; omega
theorem two_blocks (w : World) (o1 o2 : Obj) (w1 : World) (hw1 : w1 = (w.alloc o1).alloc o2) : w1.heap[w.heap.size]? = some o1 ∧ w1.heap[w.heap.size + 1]? = some o2 ∧ Below w.heap.size w w1 := by
  subst hw1
  exact ⟨heap_alloc2_old _ _ _, heap_alloc2_new _ _ _, ((Below.refl _ w).alloc (Nat.le_refl _) _).alloc (by simp) _⟩
theorem dot_k {s c : Int} (h : dotOK s c = true) : ∃ k : Nat, s = (k : Int) ∧ k < 16 ∧ 1 ≤ c ∧ c ≤ 4294967295 := by
  unfold dotOK at h
  simp only [Bool.and_eq_true, decide_eq_true_eq] at h
  exact ⟨s.toNat, by omega, by omega, by omega, by omega⟩
/-- Has it a dot? -/
def hasV (v : List Nat) (s c : Int) : Bool := dotOK s c && decide (c ≤ (v.getD s.toNat 0 : Int))
theorem getD_get (v : List Nat) (k : Nat) (h : k < v.length) : v.getD k 0 = v[k] := by rw [List.getD_eq_getElem?_getD, List.getElem?_eq_getElem h]; rfl
theorem has_any (v : List Nat) (hv : v.length = 16) (sv : small v) (s c : Int) (w : World) :
    Calls Try.prog 18 #[.agg (vC v), .agg (dC s c)] w fun e w' => e = .returned (.bool (hasV v s c)) ∧ Below w.heap.size w w' := by
  obtain ⟨w1, hw1⟩ : ∃ w1, w1 = (w.alloc (.cells (vC v) 24)).alloc (.cells (dC s c) 35) := ⟨_, rfl⟩
  obtain ⟨g1, g2, hb0⟩ := two_blocks _ _ _ w1 hw1
  have hup : ∀ (w0 W : World) g o, Below w0.heap.size w0 W → w0.heap[g]? = some o → W.heap[g]? = some o := fun w0 W g o h hg => (h.block _ (lt_of_get hg)).trans hg
  go_enter Try.func18, Try.ntmps18
  go_wp2_with fail
  rw [show ((w.alloc (.cells (vC v) 24)).alloc (.cells (dC s c) 35)) = w1 from hw1.symm]
  clear hw1
  by_cases hok : dotOK s c = true
  · obtain ⟨k, rfl, hk, hc1, hc2⟩ := dot_k hok
    have kv : k < v.length := by omega
    have hx := sv v[k] (List.getElem_mem _)
    have hh : hasV v k c = decide (c ≤ (v[k] : Int)) := by unfold hasV; rw [hok, Bool.true_and, Int.toNat_natCast, getD_get v k kv]
    refine hasG_t v k v[k] c w.heap.size (w.heap.size + 1) (decide (c ≤ (v[k] : Int))) w1 (by omega) (by omega) (wrap64 _ (by omega)) (by unfold dotE; rw [if_pos hok]) rfl (fun W h => hup _ W _ _ h g2)
      (fun W h => by rw [cell_of_row _ _ _ _ _ _ (hup _ W _ _ h g2)]; rfl) (fun W h => by rw [cell_of_row _ _ _ _ _ _ (hup _ W _ _ h g2)]; rfl) (fun W h => by rw [cell_of_row _ _ _ _ _ _ (hup _ W _ _ h g1), vC_get _ _ kv]) fun w2 h2 => ?_
    go_wp2_with fail
    go_ret
    exact ⟨by rw [hh]; rfl, below_then hb0 h2 (Nat.le_refl _)⟩
  · have hh : hasV v s c = false := by unfold hasV; simp [hok]
    refine hasG_f s c w.heap.size (w.heap.size + 1) w1 (by unfold dotE; rw [if_neg hok]) (fun W h => hup _ W _ _ h g2) fun w2 h2 => ?_
    go_wp2_with fail
    go_ret
    exact ⟨by rw [hh]; rfl, below_then hb0 h2 (Nat.le_refl _)⟩
/-- The vector with that dot, or the error. -/
def addOK (v : List Nat) (s c : Int) : Bool := dotOK s c && decide ((v.getD s.toNat 0 : Int) + 1 = c)
def addV (v : List Nat) (s c : Int) : List Nat := if addOK v s c = true then v.set s.toNat (v.getD s.toNat 0 + 1) else z16
def addE (v : List Nat) (s c : Int) : Int := if addOK v s c = true then 0 else if dotOK s c = true then 61 else 50
set_option maxRecDepth 20000 in
set_option maxHeartbeats 4000000 in
theorem add_any (v : List Nat) (hv : v.length = 16) (sv : small v) (s c : Int) (w : World) :
    Calls Try.prog 19 #[.agg (vC v), .agg (dC s c)] w fun e w' => e = .returned (.tuple #[.agg (vC (addV v s c)), .int .i64 (addE v s c)]) ∧ Below w.heap.size w w' := by
  obtain ⟨Z, hz0, hZs, hZ1, HZ⟩ : ∃ Z : Array Value, (Try.prog.info? 24).bind (fun i => i.zero.map Value.cells) = some Z ∧ Z.size = 16 ∧ (∀ u ∈ Z.toList, u.oneCell' = true) ∧ Hid (vC z16 = Z) := ⟨vC z16, zero_vec, by rw [vC_size]; rfl, vC_one z16, rfl⟩
  have hsi : (Try.prog.info? 24).map (·.size) = some Z.size := by rw [hZs]; exact size_vec
  have bz := fun W => run_build_z (P := Try.prog) W 24 22 16 Z hz0 Try.underlying24 ⟨_, Try.sizeOf22 W⟩
  have hup : ∀ (w0 W : World) g o, Below w0.heap.size w0 W → w0.heap[g]? = some o → W.heap[g]? = some o := fun w0 W g o h hg => (h.block _ (lt_of_get hg)).trans hg
  have zv := vec_size hv
  obtain ⟨w1, hw1⟩ : ∃ w1, w1 = ((w.alloc (.cells (vC v) 24)).alloc (.cells (dC s c) 35)).alloc (.cells Z 24) := ⟨_, rfl⟩
  obtain ⟨g1, g2, g3, hb0⟩ : w1.heap[w.heap.size]? = some (.cells (vC v) 24 (0, 0)) ∧ w1.heap[w.heap.size + 1]? = some (.cells (dC s c) 35 (0, 0)) ∧ w1.heap[w.heap.size + 1 + 1]? = some (.cells Z 24 (0, 0)) ∧ Below w.heap.size w w1 := by
    obtain ⟨w0, hw0⟩ : ∃ w0, w0 = (w.alloc (.cells (vC v) 24)).alloc (.cells (dC s c) 35) := ⟨_, rfl⟩
    obtain ⟨k1, k2, k3⟩ := two_blocks _ _ _ w0 hw0
    rw [← hw0] at hw1
    have kb : Below w0.heap.size w0 w1 := by rw [hw1]; exact (Below.refl _ w0).alloc (Nat.le_refl _) _
    have ks : w0.heap.size = w.heap.size + 1 + 1 := by rw [hw0, World.size_alloc, World.size_alloc]
    refine ⟨hup _ _ _ _ kb k1, hup _ _ _ _ kb k2, ?_, below_then k3 kb (Nat.le_refl _)⟩
    rw [hw1, ← ks]
    exact heap_alloc_new _ _
  have qc := check_any s c w1
  have qn := next_any v hv sv s
  unfold dC at qc qn g2 hw1
  show Calls _ _ #[.agg (vC v), .agg #[.int .i64 s, .int .i64 c]] w _
  have c0 : w1.cell? ⟨w.heap.size + 1, 0, none⟩ = some (.int .i64 s) := by rw [cell_of_row _ _ _ _ _ _ g2]; rfl
  have c1 : w1.cell? ⟨w.heap.size + 1, 1, none⟩ = some (.int .i64 c) := by rw [cell_of_row _ _ _ _ _ _ g2]; rfl
  by_cases hok : dotOK s c = true
  · obtain ⟨k, rfl, hk, hc1, hc2⟩ := dot_k hok
    have kv : k < v.length := by omega
    have hx := sv v[k] (List.getElem_mem _)
    have hgd := getD_get v k kv
    have e3 : dotE k c = 0 := by unfold dotE; rw [if_pos hok]
    rw [e3] at qc
    by_cases hov : v[k] = 4294967295
    · have n1 : nextS v k = 0 := by unfold nextS; rw [if_neg (by simp only [Int.toNat_natCast, hgd]; omega)]
      have n2 : nextC v k = 0 := by unfold nextC; rw [if_neg (by simp only [Int.toNat_natCast, hgd]; omega)]
      have n3 : nextE v k = 60 := by unfold nextE; rw [if_pos (by omega), if_pos (by simp only [Int.toNat_natCast, hgd]; exact hov)]
      have hno : addOK v k c = false := by
        unfold addOK
        rw [hok, Bool.true_and, Int.toNat_natCast, hgd]
        exact decide_eq_false (by omega)
      have e1 : addV v k c = z16 := by unfold addV; rw [hno]; simp
      have e2 : addE v k c = 61 := by unfold addE; rw [hno, hok]; simp
      rw [e1, e2, HZ.out]
      rw [n1, n2, n3] at qn
      clear n1 n2 n3 e1 e2 e3 hno hgd hx hov hok
      go_enter Try.func19, Try.ntmps19
      go_wp2_with (first
        | (with_reducible refine wpList_alloc_z rfl 24 rfl Z hz0 ?_)
        | fail)
      rw [← hw1]
      clear hw1
      refine qc.mono ?_
      rintro e w2 ⟨rfl, h2⟩
      replace g1 := hup _ _ _ _ h2 g1
      replace g2 := hup _ _ _ _ h2 g2
      replace g3 := hup _ _ _ _ h2 g3
      replace hb0 := below_then hb0 h2 (Nat.le_refl _)
      clear h2 qc c0 c1
      have c0 : w2.cell? ⟨w.heap.size + 1, 0, none⟩ = some (.int .i64 (k : Int)) := by rw [cell_of_row _ _ _ _ _ _ g2]; rfl
      have c1 : w2.cell? ⟨w.heap.size + 1, 1, none⟩ = some (.int .i64 c) := by rw [cell_of_row _ _ _ _ _ _ g2]; rfl
      go_wp2_with (first
        | (with_reducible refine wpList_load_row rfl 24 (.tmp 2) rfl _ rfl 24 (vC v) _ _ g1 Try.underlying24 rfl zv ?_)
        | fail)
      refine (qn w2).mono ?_
      rintro e w3 ⟨rfl, h3⟩
      replace g1 := hup _ _ _ _ h3 g1
      replace g2 := hup _ _ _ _ h3 g2
      replace g3 := hup _ _ _ _ h3 g3
      replace hb0 := below_then hb0 h3 (Nat.le_refl _)
      clear h3 c0 c1
      have h4 : Below w3.heap.size w3 (w3.alloc (.cells #[.int .i64 (0 : Int), .int .i64 (0 : Int)] 35)) := (Below.refl _ w3).alloc (Nat.le_refl _) _
      replace g1 := hup _ _ _ _ h4 g1
      replace g2 := hup _ _ _ _ h4 g2
      replace g3 := hup _ _ _ _ h4 g3
      replace hb0 := below_then hb0 h4 (Nat.le_refl _)
      clear h4
      have c0 : (w3.alloc (.cells #[.int .i64 (0 : Int), .int .i64 (0 : Int)] 35)).cell? ⟨w.heap.size + 1, 0, none⟩ = some (.int .i64 (k : Int)) := by rw [cell_of_row _ _ _ _ _ _ g2]; rfl
      have c1 : (w3.alloc (.cells #[.int .i64 (0 : Int), .int .i64 (0 : Int)] 35)).cell? ⟨w.heap.size + 1, 1, none⟩ = some (.int .i64 c) := by rw [cell_of_row _ _ _ _ _ _ g2]; rfl
      have q1 := setRow_heap _ (w.heap.size + 1 + 1) Z Z _ _ g3
      have hbf := below_setRow hb0 (show w.heap.size ≤ w.heap.size + 1 + 1 by omega) Z
      go_wp2_with (first
        | (with_reducible refine wpList_build_z rfl 24 rfl Z (bz _) ?_)
        | (with_reducible refine wpList_store_z rfl 24 (.tmp 4) (.tmp 29) rfl _ rfl Z rfl Z _ g3 rfl hsi hZ1 ?_)
        | fail)
      refine bodyPost_ret (results_cell_tmp rfl _ _ (w.heap.size + 1 + 1) 24 Z (0, 0) _ rfl q1 Try.underlying24 rfl hsi) rfl ⟨rfl, hbf⟩
    · have n1 : nextS v k = k := by unfold nextS; rw [if_pos (by simp only [Int.toNat_natCast, hgd]; omega)]
      have n2 : nextC v k = (v[k] : Int) + 1 := by unfold nextC; rw [if_pos (by simp only [Int.toNat_natCast, hgd]; omega)]; simp only [Int.toNat_natCast, hgd]
      have n3 : nextE v k = 0 := by unfold nextE; rw [if_pos (by omega), if_neg (by simp only [Int.toNat_natCast, hgd]; exact hov)]
      rw [n1, n2, n3] at qn
      by_cases hcx : (v[k] : Int) + 1 = c
      · have hyes : addOK v k c = true := by
          unfold addOK
          rw [hok, Bool.true_and, Int.toNat_natCast, hgd]
          exact decide_eq_true hcx
        have e1 : addV v k c = v.set k (v[k] + 1) := by unfold addV; rw [hyes, if_pos rfl, Int.toNat_natCast, hgd]
        have e2 : addE v k c = 0 := by unfold addE; rw [hyes]; simp
        rw [e1, e2]
        have hvl : (v.set k (v[k] + 1)).length = 16 := by simpa using hv
        have zn := vec_size hvl
        have hns : (vC (v.set k (v[k] + 1))).size = Z.size := by rw [vC_size, hvl, hZs]
        have hn1 := vC_one (v.set k (v[k] + 1))
        have hvg := vC_get v k kv
        have hvs := vC_set v k (v[k] + 1)
        subst hcx
        clear n1 n2 n3 e1 e2 e3 hyes hgd hok
        generalize v.set k (v[k] + 1) = N at *
        generalize v[k] = x at *
        go_enter Try.func19, Try.ntmps19
        go_wp2_with (first
          | (with_reducible refine wpList_alloc_z rfl 24 rfl Z hz0 ?_)
          | fail)
        rw [← hw1]
        clear hw1
        refine qc.mono ?_
        rintro e w2 ⟨rfl, h2⟩
        replace g1 := hup _ _ _ _ h2 g1
        replace g2 := hup _ _ _ _ h2 g2
        replace g3 := hup _ _ _ _ h2 g3
        replace hb0 := below_then hb0 h2 (Nat.le_refl _)
        clear h2 qc c0 c1
        have c0 : w2.cell? ⟨w.heap.size + 1, 0, none⟩ = some (.int .i64 (k : Int)) := by rw [cell_of_row _ _ _ _ _ _ g2]; rfl
        have c1 : w2.cell? ⟨w.heap.size + 1, 1, none⟩ = some (.int .i64 ((x : Int) + 1)) := by rw [cell_of_row _ _ _ _ _ _ g2]; rfl
        go_wp2_with (first
          | (with_reducible refine wpList_load_row rfl 24 (.tmp 2) rfl _ rfl 24 (vC v) _ _ g1 Try.underlying24 rfl zv ?_)
          | fail)
        refine (qn w2).mono ?_
        rintro e w3 ⟨rfl, h3⟩
        replace g1 := hup _ _ _ _ h3 g1
        replace g2 := hup _ _ _ _ h3 g2
        replace g3 := hup _ _ _ _ h3 g3
        replace hb0 := below_then hb0 h3 (Nat.le_refl _)
        clear h3 c0 c1
        have h4 : Below w3.heap.size w3 (w3.alloc (.cells #[.int .i64 (k : Int), .int .i64 ((x : Int) + 1 : Int)] 35)) := (Below.refl _ w3).alloc (Nat.le_refl _) _
        replace g1 := hup _ _ _ _ h4 g1
        replace g2 := hup _ _ _ _ h4 g2
        replace g3 := hup _ _ _ _ h4 g3
        replace hb0 := below_then hb0 h4 (Nat.le_refl _)
        clear h4
        have c0 : (w3.alloc (.cells #[.int .i64 (k : Int), .int .i64 ((x : Int) + 1 : Int)] 35)).cell? ⟨w.heap.size + 1, 0, none⟩ = some (.int .i64 (k : Int)) := by rw [cell_of_row _ _ _ _ _ _ g2]; rfl
        have c1 : (w3.alloc (.cells #[.int .i64 (k : Int), .int .i64 ((x : Int) + 1 : Int)] 35)).cell? ⟨w.heap.size + 1, 1, none⟩ = some (.int .i64 ((x : Int) + 1)) := by rw [cell_of_row _ _ _ _ _ _ g2]; rfl
        have cv : (w3.alloc (.cells #[.int .i64 (k : Int), .int .i64 ((x : Int) + 1)] 35)).cell? ⟨w.heap.size, k, none⟩ = some (.int .u32 (x : Int)) := by rw [cell_of_row _ _ _ _ _ _ g1]; exact hvg
        have fv : (w3.alloc (.cells #[.int .i64 (k : Int), .int .i64 ((x : Int) + 1)] 35)).frozen? ⟨w.heap.size, k, none⟩ = false := frozen_of_row _ _ k _ _ g1
        have s1 := heap_setCell_same (w3.alloc (.cells #[.int .i64 (k : Int), .int .i64 ((x : Int) + 1)] 35)) w.heap.size k (vC v) _ (.int .u32 ((x : Int) + 1)) g1
        have hcast : ((x + 1 : Nat) : Int) = (x : Int) + 1 := by omega
        rw [hcast] at hvs
        rw [← hvs] at s1
        clear hvs hcast hvg
        have s3 : ((w3.alloc (.cells #[.int .i64 (k : Int), .int .i64 ((x : Int) + 1)] 35)).setCell ⟨w.heap.size, k, none⟩ (.int .u32 ((x : Int) + 1))).heap[w.heap.size + 1 + 1]? = some (.cells Z 24 (0, 0)) := by rw [heap_setCell_other _ _ _ _ (by simp; omega)]; exact g3
        have sb := hb0.setCell (p := ⟨w.heap.size, k, none⟩) (Nat.le_refl _) (.int .u32 ((x : Int) + 1))
        have q1 := setRow_heap _ (w.heap.size + 1 + 1) Z (vC N) _ _ s3
        have hbf := below_setRow sb (show w.heap.size ≤ w.heap.size + 1 + 1 by omega) (vC N)
        go_wp2_with (first
          | (with_reducible refine wpList_load_row rfl 24 (.tmp 2) rfl _ rfl 24 (vC N) _ _ s1 Try.underlying24 rfl zn ?_)
          | (with_reducible refine wpList_store_z rfl 24 (.tmp 4) (.tmp 36) rfl _ rfl (vC N) rfl Z _ s3 hns zn hn1 ?_)
          | fail)
        refine bodyPost_ret (results_cell_tmp rfl _ _ (w.heap.size + 1 + 1) 24 (vC N) (0, 0) _ rfl q1 Try.underlying24 rfl zn) rfl ⟨rfl, hbf⟩
      · have hno : addOK v k c = false := by
          unfold addOK
          rw [hok, Bool.true_and, Int.toNat_natCast, hgd]
          exact decide_eq_false hcx
        have e1 : addV v k c = z16 := by unfold addV; rw [hno]; simp
        have e2 : addE v k c = 61 := by unfold addE; rw [hno, hok]; simp
        rw [e1, e2, HZ.out]
        have hne : (((v[k] : Int) + 1 == c) = false) := by simpa using hcx
        clear n1 n2 n3 e1 e2 e3 hno hgd hok
        obtain ⟨x, hxe⟩ : ∃ x, v[k] = x := ⟨_, rfl⟩
        rw [hxe] at qn hne hx hov hcx
        clear hxe
        go_enter Try.func19, Try.ntmps19
        go_wp2_with (first
          | (with_reducible refine wpList_alloc_z rfl 24 rfl Z hz0 ?_)
          | fail)
        rw [← hw1]
        clear hw1
        refine qc.mono ?_
        rintro e w2 ⟨rfl, h2⟩
        replace g1 := hup _ _ _ _ h2 g1
        replace g2 := hup _ _ _ _ h2 g2
        replace g3 := hup _ _ _ _ h2 g3
        replace hb0 := below_then hb0 h2 (Nat.le_refl _)
        clear h2 qc c0 c1
        have c0 : w2.cell? ⟨w.heap.size + 1, 0, none⟩ = some (.int .i64 (k : Int)) := by rw [cell_of_row _ _ _ _ _ _ g2]; rfl
        have c1 : w2.cell? ⟨w.heap.size + 1, 1, none⟩ = some (.int .i64 c) := by rw [cell_of_row _ _ _ _ _ _ g2]; rfl
        go_wp2_with (first
          | (with_reducible refine wpList_load_row rfl 24 (.tmp 2) rfl _ rfl 24 (vC v) _ _ g1 Try.underlying24 rfl zv ?_)
          | fail)
        refine (qn w2).mono ?_
        rintro e w3 ⟨rfl, h3⟩
        replace g1 := hup _ _ _ _ h3 g1
        replace g2 := hup _ _ _ _ h3 g2
        replace g3 := hup _ _ _ _ h3 g3
        replace hb0 := below_then hb0 h3 (Nat.le_refl _)
        clear h3 c0 c1
        have h4 : Below w3.heap.size w3 (w3.alloc (.cells #[.int .i64 (k : Int), .int .i64 ((x : Int) + 1 : Int)] 35)) := (Below.refl _ w3).alloc (Nat.le_refl _) _
        replace g1 := hup _ _ _ _ h4 g1
        replace g2 := hup _ _ _ _ h4 g2
        replace g3 := hup _ _ _ _ h4 g3
        replace hb0 := below_then hb0 h4 (Nat.le_refl _)
        clear h4
        have c0 : (w3.alloc (.cells #[.int .i64 (k : Int), .int .i64 ((x : Int) + 1 : Int)] 35)).cell? ⟨w.heap.size + 1, 0, none⟩ = some (.int .i64 (k : Int)) := by rw [cell_of_row _ _ _ _ _ _ g2]; rfl
        have c1 : (w3.alloc (.cells #[.int .i64 (k : Int), .int .i64 ((x : Int) + 1 : Int)] 35)).cell? ⟨w.heap.size + 1, 1, none⟩ = some (.int .i64 c) := by rw [cell_of_row _ _ _ _ _ _ g2]; rfl
        have q1 := setRow_heap _ (w.heap.size + 1 + 1) Z Z _ _ g3
        have hbf := below_setRow hb0 (show w.heap.size ≤ w.heap.size + 1 + 1 by omega) Z
        go_wp2_with (first
          | (with_reducible refine wpList_build_z rfl 24 rfl Z (bz _) ?_)
          | (with_reducible refine wpList_store_z rfl 24 (.tmp 4) (.tmp 29) rfl _ rfl Z rfl Z _ g3 rfl hsi hZ1 ?_)
          | fail)
        refine bodyPost_ret (results_cell_tmp rfl _ _ (w.heap.size + 1 + 1) 24 Z (0, 0) _ rfl q1 Try.underlying24 rfl hsi) rfl ⟨rfl, hbf⟩
  · have e1 : addV v s c = z16 := by unfold addV addOK; simp [hok]
    have e2 : addE v s c = 50 := by unfold addE addOK; simp [hok]
    have e3 : dotE s c = 50 := by unfold dotE; rw [if_neg hok]
    rw [e1, e2, HZ.out]
    rw [e3] at qc
    go_enter Try.func19, Try.ntmps19
    go_wp2_with (first
      | (with_reducible refine wpList_alloc_z rfl 24 rfl Z hz0 ?_)
      | fail)
    rw [← hw1]
    clear hw1
    refine qc.mono ?_
    rintro e w2 ⟨rfl, h2⟩
    replace g1 := hup _ _ _ _ h2 g1
    replace g2 := hup _ _ _ _ h2 g2
    replace g3 := hup _ _ _ _ h2 g3
    replace hb0 := below_then hb0 h2 (Nat.le_refl _)
    clear h2 qc c0 c1
    have q1 := setRow_heap _ (w.heap.size + 1 + 1) Z Z _ _ g3
    have hbf := below_setRow hb0 (show w.heap.size ≤ w.heap.size + 1 + 1 by omega) Z
    go_wp2_with (first
      | (with_reducible refine wpList_build_z rfl 24 rfl Z (bz _) ?_)
      | (with_reducible refine wpList_store_z rfl 24 (.tmp 4) (.tmp 13) rfl _ rfl Z rfl Z _ g3 rfl hsi hZ1 ?_)
      | fail)
    refine bodyPost_ret (results_cell_tmp rfl _ _ (w.heap.size + 1 + 1) 24 Z (0, 0) _ rfl q1 Try.underlying24 rfl hsi) rfl ⟨rfl, hbf⟩
end Go.Proofs.Ytfifbjlmbdgmjaa
