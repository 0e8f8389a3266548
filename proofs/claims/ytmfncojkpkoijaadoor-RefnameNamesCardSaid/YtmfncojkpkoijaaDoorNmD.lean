/- Names of refs: Breaks. -/
import Derived.Test.YtmfncojkpkoijaaDoorNmC
import Derived.Shelf.AbstractIn
namespace Go.Proofs.YtmfncojkpkoijaaDoor
open Go.RowKit Go.Shelf
attribute [local go_sem] Oper.semAt_some
set_option linter.unusedVariables false

theorem brL_first (B : Nat) (l : List UInt8) (pre : List RuleX) (x : RuleX) (rest : List RuleX) (h : ruleL B l = pre ++ x :: rest) (hp : ∀ y ∈ pre, y.t = false) (hx : x.t = true) : (brL l : Int) = x.n := by
  have hget : ∀ j, j < pre.length → ∀ y, (ruleL B l)[j]? = some y → y.t = false := fun j hj y hy => by
    rw [h, List.getElem?_append_left hj] at hy
    exact hp y (List.mem_of_getElem? hy)
  have hat : (ruleL B l)[pre.length]? = some x := by rw [h, List.getElem?_append_right (Nat.le_refl _), Nat.sub_self]; rfl
  have hlt : pre.length < 8 := (List.getElem?_eq_some_iff.1 hat).1
  generalize pre.length = k at *
  clear h hp
  have g0 : 0 < k → longB l = false := fun hk => hget 0 hk _ rfl
  have g1 : 1 < k → (!l.all mayB) = false := fun hk => hget 1 hk _ rfl
  have g2 : 2 < k → (partsL l).any (·.isEmpty) = false := fun hk => hget 2 hk _ rfl
  have g3 : 3 < k → (partsL l).any (fun p => p.head? == some 46) = false := fun hk => hget 3 hk _ rfl
  have g4 : 4 < k → pairL 46 46 l = false := fun hk => hget 4 hk _ rfl
  have g5 : 5 < k → (partsL l).any (fun p => lockL.isSuffixOf p) = false := fun hk => hget 5 hk _ rfl
  have g6 : 6 < k → (l.getLast? == some 46) = false := fun hk => hget 6 hk _ rfl
  clear hget
  unfold longB at g0
  simp only [decide_eq_false_iff_not] at g0
  have g1' : 1 < k → ¬ l.all mayB = false := fun hk e => by have := g1 hk; rw [e] at this; cases this
  match k, hat, hlt with
  | 0, hat, _ => cases hat; have : l.length < 1 ∨ 100 < l.length := of_decide_eq_true hx; unfold brL; rw [if_pos this]; rfl
  | 1, hat, _ => cases hat; have : l.all mayB = false := by simpa using hx
                 unfold brL; rw [if_neg (g0 (by omega)), if_pos this]; rfl
  | 2, hat, _ => cases hat; unfold brL; rw [if_neg (g0 (by omega)), if_neg (g1' (by omega)), if_pos hx]; rfl
  | 3, hat, _ => cases hat; unfold brL; rw [if_neg (g0 (by omega)), if_neg (g1' (by omega)), g2 (by omega), if_neg Bool.false_ne_true, if_pos hx]; rfl
  | 4, hat, _ => cases hat; unfold brL; rw [if_neg (g0 (by omega)), if_neg (g1' (by omega)), g2 (by omega), if_neg Bool.false_ne_true, g3 (by omega), if_neg Bool.false_ne_true, if_pos hx]; rfl
  | 5, hat, _ => cases hat; unfold brL; rw [if_neg (g0 (by omega)), if_neg (g1' (by omega)), g2 (by omega), if_neg Bool.false_ne_true, g3 (by omega), if_neg Bool.false_ne_true, g4 (by omega), if_neg Bool.false_ne_true, if_pos hx]; rfl
  | 6, hat, _ => cases hat; unfold brL; rw [if_neg (g0 (by omega)), if_neg (g1' (by omega)), g2 (by omega), if_neg Bool.false_ne_true, g3 (by omega), if_neg Bool.false_ne_true, g4 (by omega), if_neg Bool.false_ne_true, g5 (by omega), if_neg Bool.false_ne_true, if_pos hx]; rfl
  | 7, hat, _ => cases hat; unfold brL; rw [if_neg (g0 (by omega)), if_neg (g1' (by omega)), g2 (by omega), if_neg Bool.false_ne_true, g3 (by omega), if_neg Bool.false_ne_true, g4 (by omega), if_neg Bool.false_ne_true, g5 (by omega), if_neg Bool.false_ne_true, g6 (by omega), if_neg Bool.false_ne_true, if_pos hx]; rfl
  | k + 8, _, h => omega
theorem brL_none (B : Nat) (l : List UInt8) (hp : ∀ y ∈ ruleL B l, y.t = false) : brL l = 0 := by
  unfold ruleL at hp
  simp only [List.mem_cons, List.not_mem_nil, or_false, forall_eq_or_imp, forall_eq] at hp
  obtain ⟨g0, g1, g2, g3, g4, g5, g6, g7⟩ := hp
  unfold longB at g0
  simp only [decide_eq_false_iff_not] at g0
  have g1' : ¬ l.all mayB = false := fun e => by rw [e] at g1; cases g1
  unfold brL
  rw [if_neg g0, if_neg g1', g2, if_neg Bool.false_ne_true, g3, if_neg Bool.false_ne_true, g4, if_neg Bool.false_ne_true, g5, if_neg Bool.false_ne_true, g6, if_neg Bool.false_ne_true, g7, if_neg Bool.false_ne_true]
theorem row_cell {w : World} {g : Nat} {v : Value} {t : TypeId} {fr : Nat × Nat} (h : w.heap[g]? = some (.cells #[v] t fr)) : w.cell? ⟨g, 0, none⟩ = some v := by rw [cell_of_row _ _ _ _ _ _ h]; rfl
/-- What each rule answers. -/
theorem rule_any (B : Nat) (l : List UInt8) (hl : l.length ≤ 1000) (x : RuleX) (hx : x ∈ ruleL B l) (W : World) (hS : RuSt B W) :
    Calls Tryd.prog x.g (#[.string (bstr l)] ++ x.lb) W (fun e W' => e = .returned (.bool x.t) ∧ Below W.heap.size W W') ∧ ∀ args w, (callFunc x.g args).run Tryd.prog w = .ok (.enter x.g args) w := by
  obtain ⟨h0, h1, h2, h3, h4, h5, h6, h7⟩ := hS
  have up : ∀ {b : Bool} {e : Ending} {W' : World}, e = .returned (.bool b) ∧ W' = W → e = .returned (.bool b) ∧ Below W.heap.size W W' := fun ⟨h, k⟩ => ⟨h, by rw [k]; exact Below.refl _ _⟩
  unfold ruleL at hx
  simp only [List.mem_cons, List.not_mem_nil, or_false] at hx
  rcases hx with rfl | rfl | rfl | rfl | rfl | rfl | rfl | rfl
  · exact ⟨(r1_any l W).mono fun e W' h => up h, enters_of Tryd.func48 (by kernel_rfl) rfl⟩
  · exact ⟨byByte_any l hl W h7, enters_of Tryd.func49 (by kernel_rfl) rfl⟩
  · exact ⟨byPart_any l hl B _ _ W h7 (row_cell h0) (enters_of Tryd.func51 (by kernel_rfl) rfl) fun p _ W => r2_any p W, enters_of Tryd.func71 (by kernel_rfl) rfl⟩
  · exact ⟨byPart_any l hl (B + 1) _ _ W h7 (row_cell h1) (enters_of Tryd.func52 (by kernel_rfl) rfl) fun p _ W => r3_any p W, enters_of Tryd.func71 (by kernel_rfl) rfl⟩
  · exact ⟨(has1_any l 46 46 (B + 2) (by omega) W h7 (row_cell h2)).mono fun e W' h => up h, enters_of Tryd.func72 (by kernel_rfl) rfl⟩
  · exact ⟨byPart_any l hl (B + 3) _ _ W h7 (row_cell h3) (enters_of Tryd.func54 (by kernel_rfl) rfl) fun p hp W => r4_any p (by omega) W, enters_of Tryd.func71 (by kernel_rfl) rfl⟩
  · exact ⟨(r5_any l (by omega) W).mono fun e W' h => up h, enters_of Tryd.func55 (by kernel_rfl) rfl⟩
  · exact ⟨(has1_any l 64 123 (B + 4) (by omega) W h7 (row_cell h4)).mono fun e W' h => up h, enters_of Tryd.func72 (by kernel_rfl) rfl⟩

/-- Between two rounds. -/
def BrI (l : List UInt8) (w : World) (pre : List RuleX) (W : World) : Prop :=
  W.heap[w.heap.size]? = some (.cells #[.string (bstr l)] 9 (0, 0)) ∧ W.heap[w.heap.size + 1]? = some (.cells #[.int .i64 0] 3 (0, 0)) ∧ (∀ y ∈ pre, y.t = false) ∧ Below w.heap.size w W
/-- The loop left. -/
def BrX (l : List UInt8) (w : World) (c : Code) (_ : List RuleX) (W : World) : Prop :=
  c = .exit 0 ∧ W.heap[w.heap.size + 1]? = some (.cells #[.int .i64 (brL l)] 3 (0, 0)) ∧ Below w.heap.size w W
theorem get_putObj {w : World} {k i : Nat} {o o' : Obj} {cs : Array Value} {t : TypeId} {fr : Nat × Nat} (hi : w.heap[i]? = some (.cells cs t fr)) (hk : w.heap[k]? = some o) (ho : o.isCells = false) : (w.putObj k o').heap[i]? = some (.cells cs t fr) := by
  rw [World.putObj_heap_other (fun e => by subst e; rw [hk] at hi; cases hi; cases ho)]
  exact hi
theorem below_putObj' {B : Nat} {w W : World} {k : Nat} {o o' : Obj} (h : Below B w W) (hB : B ≤ k) : Below B w (W.putObj k o') :=
  ⟨h.os, h.tape, h.output, by rw [World.putObj_size]; exact h.size, fun i hi => by rw [World.putObj_heap_other (by omega)]; exact h.block i hi⟩
set_option maxRecDepth 100000 in
set_option maxHeartbeats 4000000 in
theorem breaks_any (l : List UInt8) (hl : l.length ≤ 1000) (w : World) (hm : MaxOK w) :
    Calls Tryd.prog 9 #[.string (bstr l)] w fun e w' => e = .returned (.int .i64 (brL l : Int)) ∧ Below w.heap.size w w' := by
  have cr := rules_any
  unfold fnV at cr
  have hb2 : Below w.heap.size w ((w.alloc (.cells #[.string (bstr l)] 9)).alloc (.cells #[.int .i64 0] 3)) := ((Below.refl _ w).alloc (Nat.le_refl _) _).alloc (by simp) _
  have hg0 : ((w.alloc (.cells #[.string (bstr l)] 9)).alloc (.cells #[.int .i64 0] 3)).heap[w.heap.size]? = some (.cells #[.string (bstr l)] 9 (0, 0)) := heap_alloc2_old _ _ _
  have hg1 : ((w.alloc (.cells #[.string (bstr l)] 9)).alloc (.cells #[.int .i64 0] 3)).heap[w.heap.size + 1]? = some (.cells #[.int .i64 0] 3 (0, 0)) := heap_alloc2_new _ _ _
  have hz : ((w.alloc (.cells #[.string (bstr l)] 9)).alloc (.cells #[.int .i64 0] 3)).heap.size = w.heap.size + 2 := by simp only [World.size_alloc]
  refine (callsIn_wide (n := 5)).1 ?_
  refine callsIn_of_wp_marks Tryd.func9 rfl trivial ?_ rfl
  simp only [Tryd.ntmps9, List.size_toArray, List.length_cons, List.length_nil, Nat.reduceAdd, Nat.reduceSub, Array.replicate_succ, Array.replicate_zero, List.push_toArray, List.append_toArray, List.nil_append, List.cons_append]
  gi_wp2_with fail
  refine wpIn_wide.2 (wp_scope_straight ((wpIn_wide (n := 5)).1 ?_))
  gi_wp2_with (first
    | (refine wpIn_label ?_)
    | fail)
  gi_wp2_with (first
    | (refine ⟨trivial, ?_⟩; gi_at_call 30; refine (callsIn_wide.2 (cr _ (hm.below hb2))).mono ?_; rintro e W0 ⟨rfl, hB0, hS0⟩)
    | fail)
  rw [hz] at hB0 hS0
  simp only [World.size_alloc, Nat.add_assoc, Nat.reduceAdd]
  replace hg0 := (hB0.block _ (by omega)).trans hg0
  replace hg1 := (hB0.block _ (by omega)).trans hg1
  have hb0 : Below w.heap.size w W0 := hb2.trans (hB0.mono (by omega))
  have hz0 : w.heap.size + 2 ≤ W0.heap.size := by have := hB0.size; rwa [hz] at this
  clear hB0 hb2 hz cr hm
  have hch : ∀ (a b : World), Below a.heap.size a b → ∀ (k : Nat) (o : Obj), a.heap[k]? = some o → o.isCells = false → b.heap[k]? = some o := fun a b h k o hk _ => get_below h hk
  refine range_box (F := Fence.wide) (n := 5) rfl (by omega) (gf := 56) (lb := #[.pointer (some ⟨w.heap.size + 8, 0, none⟩)]) rfl trivial (enters_of Tryd.func56 (by kernel_rfl) rfl) (fun x : RuleX => #[.agg #[.int .i64 x.n, x.v]]) (fun _ => rfl) (ruleL (w.heap.size + 2) l) (fun _ => RuSt (w.heap.size + 2)) (fun A A' => Below A.heap.size A A')
    (fun r o => rules_hands Fence.wide 4 trivial rfl (by omega) (w.heap.size + 2) l _ ?st) hch (BrI l w) (BrX l w) ?h0 ?hIc ?hIp ?hSp ?hIxp (fun x => .cells #[.int .i64 x.n, x.v] 52) ?hCa ?hSc
    (fun bx x => { tmps := #[.string (bstr l), .pointer (some ⟨w.heap.size, 0, none⟩), .int .i64 0, .pointer (some ⟨w.heap.size + 1, 0, none⟩), .pointer (some ⟨bx, 0, none⟩), .func (.func 56) #[] #[.pointer (some ⟨w.heap.size + 8, 0, none⟩)], .agg #[.int .i64 x.n, x.v], undef, undef, undef, undef, undef, undef, undef], defers := [] }) ?assign ?body ?done ?stop
  case st => exact (hS0.below ((Below.refl _ _).alloc (Nat.le_refl _) _)).below ((Below.refl _ _).alloc (Nat.le_refl _) _)
  case h0 =>
    intro o r
    have hb := ((Below.refl _ W0).alloc (Nat.le_refl _) o).alloc (show W0.heap.size ≤ (W0.alloc o).heap.size by simp) r
    exact ⟨get_below hb hg0, get_below hb hg1, (fun y hy => by cases hy), below_then hb0 hb (Nat.le_refl _)⟩
  case hIc =>
    rintro s X Y ⟨h1, h2, h3, h4⟩ hn
    exact ⟨get_below hn h1, get_below hn h2, h3, below_then h4 hn (Nat.le_refl _)⟩
  case hIp =>
    rintro s X k o o' ⟨h1, h2, h3, h4⟩ hk ho hc
    exact ⟨get_putObj h1 ho hc, get_putObj h2 ho hc, h3, below_putObj' (o := o) h4 (by omega)⟩
  case hSp =>
    rintro s X k o o' h hk ho hc
    exact h.putObj ho hc o'
  case hIxp =>
    rintro cd s X k o o' ⟨h1, h2, h3⟩ hk ho hc
    exact ⟨h1, get_putObj h2 ho hc, below_putObj' (o := o) h3 (by omega)⟩
  case hCa =>
    intro A x
    exact (Below.refl _ _).alloc (Nat.le_refl _) _
  case hSc =>
    intro k A A' h hb
    exact h.below hb
  case assign =>
    intro L x W K hK
    unfold RuleX.v at hK ⊢
    gi_wp2
    exact hK
  case body =>
    intro L pre x rest bx W hl2 hI hst hlt hbx hr
    obtain ⟨h1, h2, h3, h4⟩ := hI
    obtain ⟨hc, eg⟩ := rule_any (w.heap.size + 2) l hl x (by rw [hl2]; simp) W hst
    have hn := brL_first (w.heap.size + 2) l pre x rest hl2 h3
    obtain ⟨xn, xg, xl, xb⟩ := x
    unfold RuleX.v at hr ⊢
    dsimp only at hc eg hn hr ⊢
    have c0 := row_cell h1
    have c1 := row_cell h2
    have f1 : W.frozen? ⟨w.heap.size + 1, 0, none⟩ = false := frozen_of_row W _ 0 _ _ h2
    have c2 : W.cell? ⟨bx, 0, none⟩ = some (.int .i64 xn) := by rw [cell_of_row _ _ _ _ _ _ hr]; rfl
    have c3 : W.cell? ⟨bx, 1, none⟩ = some (.func (.func xg) #[] xl) := by rw [cell_of_row _ _ _ _ _ _ hr]; rfl
    have key : ∀ W', Below W.heap.size W W' → (W'.cell? ⟨bx, 0, none⟩ = some (.int .i64 xn) ∧ W'.cell? ⟨w.heap.size + 1, 0, none⟩ = some (.int .i64 0) ∧ W'.frozen? ⟨w.heap.size + 1, 0, none⟩ = false) ∧ W'.heap[w.heap.size + 1]? = some (.cells #[.int .i64 0] 3 (0, 0)) ∧ RuSt (w.heap.size + 2) W' ∧ W'.heap[w.heap.size]? = some (.cells #[.string (bstr l)] 9 (0, 0)) ∧ Below w.heap.size w W' ∧ KeepsOthers W W' := fun W' hb => by
      have g2 := get_below hb h2
      have gr := get_below hb hr
      exact ⟨⟨by rw [cell_of_row _ _ _ _ _ _ gr]; rfl, row_cell g2, frozen_of_row W' _ 0 _ _ g2⟩, g2, hst.below hb, get_below hb h1, below_then h4 hb (Nat.le_refl _), ⟨hb.size, fun k o hk _ => get_below hb hk⟩⟩
    have H3 := Lib.hid h3
    clear h1 h2 h3 h4 hr hst hl2 hg0 hg1 hS0 hch hb0
    gi_wp2_with (first
      | (refine ⟨trivial, ?_⟩; gi_at_fn xg; refine ((callsIn_wide.2 hc).inRound L).mono ?_; rintro e W' ⟨rfl, hb⟩)
      | fail)
    · rename_i hxb
      obtain ⟨_, k2, k3, k4, k5, k6⟩ := key W' hb
      refine ⟨k6.trans (KeepsOthers.setCell _ _ _), rfl, ?_, k5.setCell (p := ⟨w.heap.size + 1, 0, none⟩) (show w.heap.size ≤ w.heap.size + 1 by omega) _⟩
      rw [heap_setCell_same W' (w.heap.size + 1) 0 _ _ _ k2, hn hxb]
      rfl
    · rename_i hxb
      obtain ⟨_, k2, k3, k4, k5, k6⟩ := key W' hb
      refine ⟨k6, k3, k4, k2, fun y hy => ?_, k5⟩
      rcases List.mem_append.1 hy with hy | hy
      · exact H3.out y hy
      · rw [List.mem_singleton] at hy
        subst hy
        exact hxb
  case done =>
    rintro D W rfl ⟨h1, h2, h3, h4⟩ hst hD
    have hb := brL_none _ l h3
    have c1 := row_cell h2
    gi_wp2
    rw [Exit.noGoto_ret]
    refine ⟨by simp, .inl ⟨_, _, rfl, run_takeDeferred hD, ?_⟩⟩
    exact ⟨_, results_tmp rfl _ _ _, by rw [hb]; rfl, below_putObj' (o := .deferred none) h4 (by omega)⟩
  case stop =>
    rintro D c pre W rfl hpre ⟨rfl, h2, h3⟩ hD
    have c1 := row_cell h2
    gi_wp2
    rw [Exit.noGoto_ret]
    refine ⟨by simp, .inl ⟨_, _, rfl, run_takeDeferred hD, ?_⟩⟩
    exact ⟨_, results_tmp rfl _ _ _, rfl, below_putObj' (o := .deferred none) h3 (by omega)⟩
end Go.Proofs.YtmfncojkpkoijaaDoor
