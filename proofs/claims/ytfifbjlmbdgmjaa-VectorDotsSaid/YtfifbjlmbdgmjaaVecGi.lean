/- Regions that draw their order: their obligations (printed by regen2.py). -/
import Derived.Test.YtfifbjlmbdgmjaaVecE
import Derived.Test.YtfifbjlmbdgmjaaRegS
namespace Go.Proofs.Ytfifbjlmbdgmjaa
open Go.RowKit
set_option linter.unusedVariables false
set_option linter.unusedSimpArgs false
set_option linter.unusedSectionVars false
def dots_b1R (vv aa : List Nat) (gv gd ga m : Nat) (c : Int) (ss : Int) : Nat → Value → World → Prop
  | 0 => fun x_ _ => x_ = (Value.bool true)
  | 1 => fun x_ _ => x_ = (Value.bool true)
  | 2 => fun x_ _ => x_ = (Value.agg (vC vv))
  | 3 => fun x_ _ => x_ = (Value.agg (vC aa))
  | 4 => fun x_ _ => x_ = (Value.int IntKind.u64 (m : Int))
  | 5 => fun x_ _ => x_ = (Value.int IntKind.i64 (m : Int))
  | 6 => fun x_ _ => x_ = (Value.int IntKind.u64 (m : Int))
  | 7 => fun x_ _ => x_ = (Value.bool true)
  | 8 => fun x_ _ => x_ = (Value.bool true)
  | 9 => fun x_ _ => x_ = (Value.bool true)
  | 10 => fun x_ _ => x_ = (Value.agg (vC aa))
  | 11 => fun x_ _ => x_ = (Value.agg (vC vv))
  | 12 => fun x_ _ => x_ = (Value.int IntKind.u64 0)
  | 13 => fun x_ _ => x_ = (Value.bool true)
  | 14 => fun x_ _ => x_ = (Value.bool true)
  | 15 => fun x_ _ => x_ = (Value.bool true)
  | 16 => fun x_ _ => x_ = (Value.bool false)
  | 17 => fun x_ _ => x_ = (Value.bool true)
  | 18 => fun x_ _ => x_ = (Value.bool true)
  | 19 => fun x_ _ => x_ = undef
  | 20 => fun x_ _ => x_ = undef
  | 21 => fun x_ _ => x_ = undef
  | 22 => fun x_ _ => x_ = (Value.bool true)
  | 23 => fun x_ _ => x_ = (Value.bool true)
  | 24 => fun x_ _ => x_ = (Value.bool true)
  | 25 => fun x_ _ => x_ = (Value.agg (vC aa))
  | 26 => fun x_ _ => x_ = (Value.agg (dC ss c))
  | 27 => fun x_ _ => x_ = (Value.bool false)
  | 28 => fun x_ _ => x_ = (Value.pointer (some ⟨gd, 0, none⟩))
  | 29 => fun x_ _ => x_ = (Value.int IntKind.i64 ss)
  | 30 => fun x_ _ => x_ = (Value.bool false)
  | 31 => fun x_ _ => x_ = (Value.bool false)
  | 32 => fun x_ _ => x_ = undef
  | 33 => fun x_ _ => x_ = undef
  | 34 => fun x_ _ => x_ = undef
  | 35 => fun x_ _ => x_ = (Value.bool false)
  | 36 => fun x_ _ => x_ = (Value.bool false)
  | 37 => fun x_ _ => x_ = undef
  | 38 => fun x_ _ => x_ = undef
  | 39 => fun x_ _ => x_ = undef
  | 40 => fun x_ _ => x_ = (Value.bool false)
  | 41 => fun x_ _ => x_ = (Value.bool false)
  | 42 => fun x_ _ => x_ = undef
  | 43 => fun x_ _ => x_ = undef
  | 44 => fun x_ _ => x_ = undef
  | 45 => fun x_ _ => x_ = undef
  | 46 => fun x_ _ => x_ = undef
  | 47 => fun x_ _ => x_ = undef
  | 48 => fun x_ _ => x_ = undef
  | 49 => fun x_ _ => x_ = undef
  | 50 => fun x_ _ => x_ = undef
  | 51 => fun x_ _ => x_ = undef
  | 52 => fun x_ _ => x_ = undef
  | 53 => fun x_ _ => x_ = (Value.bool false)
  | 54 => fun x_ _ => x_ = (Value.bool true)
  | 55 => fun x_ _ => x_ = (Value.bool true)
  | 56 => fun x_ _ => x_ = (Value.bool true)
  | _ => fun _ _ => True
theorem dots_b1_stable (vv aa : List Nat) (gv gd ga m : Nat) (c : Int) (ss : Int) : ∀ i_ u_ w_ w_', (dots_b1R vv aa gv gd ga m c ss) i_ u_ w_ → Below w_.heap.size w_ w_' → (dots_b1R vv aa gv gd ga m c ss) i_ u_ w_' := fun i_ u_ w_ w_' h_ hb_ => by
  match i_, h_ with
  | 0, h_ => exact h_
  | 1, h_ => exact h_
  | 2, h_ => exact h_
  | 3, h_ => exact h_
  | 4, h_ => exact h_
  | 5, h_ => exact h_
  | 6, h_ => exact h_
  | 7, h_ => exact h_
  | 8, h_ => exact h_
  | 9, h_ => exact h_
  | 10, h_ => exact h_
  | 11, h_ => exact h_
  | 12, h_ => exact h_
  | 13, h_ => exact h_
  | 14, h_ => exact h_
  | 15, h_ => exact h_
  | 16, h_ => exact h_
  | 17, h_ => exact h_
  | 18, h_ => exact h_
  | 19, h_ => exact h_
  | 20, h_ => exact h_
  | 21, h_ => exact h_
  | 22, h_ => exact h_
  | 23, h_ => exact h_
  | 24, h_ => exact h_
  | 25, h_ => exact h_
  | 26, h_ => exact h_
  | 27, h_ => exact h_
  | 28, h_ => exact h_
  | 29, h_ => exact h_
  | 30, h_ => exact h_
  | 31, h_ => exact h_
  | 32, h_ => exact h_
  | 33, h_ => exact h_
  | 34, h_ => exact h_
  | 35, h_ => exact h_
  | 36, h_ => exact h_
  | 37, h_ => exact h_
  | 38, h_ => exact h_
  | 39, h_ => exact h_
  | 40, h_ => exact h_
  | 41, h_ => exact h_
  | 42, h_ => exact h_
  | 43, h_ => exact h_
  | 44, h_ => exact h_
  | 45, h_ => exact h_
  | 46, h_ => exact h_
  | 47, h_ => exact h_
  | 48, h_ => exact h_
  | 49, h_ => exact h_
  | 50, h_ => exact h_
  | 51, h_ => exact h_
  | 52, h_ => exact h_
  | 53, h_ => exact h_
  | 54, h_ => exact h_
  | 55, h_ => exact h_
  | 56, h_ => exact h_
  | (_ + 57), _ => trivial
section
variable (vv aa : List Nat) (gv gd ga m : Nat) (c : Int) (ss : Int) (w0 : World) (a0 : Act)
variable (hv : vv.length = 16) (ha : aa.length = 16) (sv : small vv) (sa : small aa) (mw : IntKind.u64.wrap (m : Int) = m) (l1 : lackV vv aa = m) (l2 : lackV aa vv = 0) (fh : hasV aa ss c = false)
variable (k1 : ((0 : Int) ≤ ss) = False)
variable (M_gv : ∀ W, Below w0.heap.size w0 W → W.heap[gv]? = some (.cells (vC vv) 24 (0, 0)))
variable (M_ga : ∀ W, Below w0.heap.size w0 W → W.heap[ga]? = some (.cells (vC aa) 24 (0, 0)))
variable (M_gd : ∀ W, Below w0.heap.size w0 W → W.heap[gd]? = some (.cells (dC ss c) 35 (0, 0)))
variable (CD0 : ∀ W, Below w0.heap.size w0 W → W.cell? ⟨gd, 0, none⟩ = some (Value.int IntKind.i64 ss))
variable (CD1 : ∀ W, Below w0.heap.size w0 W → W.cell? ⟨gd, 1, none⟩ = some (Value.int IntKind.i64 c))
variable (i3 : a0.eval (.tmp 3) = (Value.pointer (some ⟨gv, 0, none⟩))) (i5 : a0.eval (.tmp 5) = (Value.pointer (some ⟨gd, 0, none⟩))) (i7 : a0.eval (.tmp 7) = (Value.bool true)) (i8 : a0.eval (.tmp 8) = (Value.pointer (some ⟨ga, 0, none⟩))) (i9 : a0.eval (.tmp 9) = (Value.int IntKind.i64 (m : Int))) (i16 : a0.eval (.tmp 16) = (Value.bool false)) (hsz : a0.tmps.size = 135)
include vv aa gv gd ga m c ss w0 a0 hv ha sv sa mw l1 l2 fh k1 M_gv M_ga M_gd CD0 CD1 i3 i5 i7 i8 i9 i16 hsz
set_option maxHeartbeats 4000000 in
set_option maxRecDepth 20000 in
theorem dots_b1_h0 :
    Reg.OpOK Try.prog (Reg.opsOf Try.f5 20) a0 w0 (dots_b1R vv aa gv gd ga m c ss) (fun _ _ _ _ => True) 0 := by
    refine Reg.op_ok2 (fun af => { dst := some 79, op := Op.move (Operand.tmp 7), type := 4, pos := "outright.go:87", after := af, guard := none }) #[] (by kernel_rfl) [] (by kernel_rfl) fun af v W hb hd => ?_
    have e7 := (Reg.gfr_eval0 (ops := (Reg.opsOf Try.f5 20)) (a0 := a0) (v := v) (L := []) 7 (by kernel_rfl)).trans i7
    refine ⟨Reg.wanted_none rfl, ?_⟩
    generalize Reg.gfr (Reg.opsOf Try.f5 20) a0 v [] = G at e7 ⊢
    generalize hρ : G.eval = ρ at e7
    have hρ' : G.eval = ρ := hρ
    refine Reg.go_run (Value.bool true) W ?_ ?_
    · rw [hρ']; simp [execOp, go_sem, e7]
    · exact ⟨Below.refl _ _, rfl⟩
set_option maxHeartbeats 4000000 in
set_option maxRecDepth 20000 in
theorem dots_b1_h1 :
    Reg.OpOK Try.prog (Reg.opsOf Try.f5 20) a0 w0 (dots_b1R vv aa gv gd ga m c ss) (fun _ _ _ _ => True) 1 := by
    refine Reg.op_ok2 (fun af => { dst := some 80, op := Op.move (Operand.tmp 79), type := 4, pos := "outright.go:87", after := af, guard := none }) #[{ on := 0, ground := Ground.data }] (by kernel_rfl) [0] (by kernel_rfl) fun af v W hb hd => ?_
    have d0 : v 0 = (Value.bool true) := hd 0 (by decide)
    have e79 := (Reg.gfr_eval (ops := (Reg.opsOf Try.f5 20)) (a0 := a0) (v := v) (L := [0]) 79 0 (by kernel_rfl) (by rw [hsz]; omega)).trans d0
    refine ⟨Reg.wanted_none rfl, ?_⟩
    generalize Reg.gfr (Reg.opsOf Try.f5 20) a0 v [0] = G at e79 ⊢
    generalize hρ : G.eval = ρ at e79
    have hρ' : G.eval = ρ := hρ
    refine Reg.go_run (Value.bool true) W ?_ ?_
    · rw [hρ']; simp [execOp, go_sem, e79]
    · exact ⟨Below.refl _ _, rfl⟩
set_option maxHeartbeats 4000000 in
set_option maxRecDepth 20000 in
theorem dots_b1_h2 :
    Reg.OpOK Try.prog (Reg.opsOf Try.f5 20) a0 w0 (dots_b1R vv aa gv gd ga m c ss) (fun _ _ _ _ => True) 2 := by
    refine Reg.op_ok2 (fun af => { dst := some 81, op := Op.load 24 (Operand.tmp 3), type := 24, pos := "outright.go:87", after := af, guard := some (1, true) }) #[{ on := 1, ground := Ground.guard }] (by kernel_rfl) [1] (by kernel_rfl) fun af v W hb hd => ?_
    have d1 : v 1 = (Value.bool true) := hd 1 (by decide)
    have e3 := (Reg.gfr_eval0 (ops := (Reg.opsOf Try.f5 20)) (a0 := a0) (v := v) (L := [1]) 3 (by kernel_rfl)).trans i3
    have e80 := (Reg.gfr_eval (ops := (Reg.opsOf Try.f5 20)) (a0 := a0) (v := v) (L := [1]) 80 1 (by kernel_rfl) (by rw [hsz]; omega)).trans d1
    refine ⟨Reg.wanted_of rfl (by kernel_rfl) e80, ?_⟩
    generalize Reg.gfr (Reg.opsOf Try.f5 20) a0 v [1] = G at e3 ⊢
    generalize hρ : G.eval = ρ at e3
    have hρ' : G.eval = ρ := hρ
    exact fun K hK => wp_load_row 24 (.tmp 3) rfl gv (by rw [hρ']; exact e3) 24 (vC vv) (0, 0) _ (M_gv W hb) Try.underlying24 rfl (vec_size hv) (hK _ _ ⟨Below.refl _ _, rfl⟩)
set_option maxHeartbeats 4000000 in
set_option maxRecDepth 20000 in
theorem dots_b1_h3 :
    Reg.OpOK Try.prog (Reg.opsOf Try.f5 20) a0 w0 (dots_b1R vv aa gv gd ga m c ss) (fun _ _ _ _ => True) 3 := by
    refine Reg.op_ok2 (fun af => { dst := some 82, op := Op.load 24 (Operand.tmp 8), type := 24, pos := "outright.go:87", after := af, guard := some (1, true) }) #[{ on := 1, ground := Ground.guard }] (by kernel_rfl) [1] (by kernel_rfl) fun af v W hb hd => ?_
    have d1 : v 1 = (Value.bool true) := hd 1 (by decide)
    have e8 := (Reg.gfr_eval0 (ops := (Reg.opsOf Try.f5 20)) (a0 := a0) (v := v) (L := [1]) 8 (by kernel_rfl)).trans i8
    have e80 := (Reg.gfr_eval (ops := (Reg.opsOf Try.f5 20)) (a0 := a0) (v := v) (L := [1]) 80 1 (by kernel_rfl) (by rw [hsz]; omega)).trans d1
    refine ⟨Reg.wanted_of rfl (by kernel_rfl) e80, ?_⟩
    generalize Reg.gfr (Reg.opsOf Try.f5 20) a0 v [1] = G at e8 ⊢
    generalize hρ : G.eval = ρ at e8
    have hρ' : G.eval = ρ := hρ
    exact fun K hK => wp_load_row 24 (.tmp 8) rfl ga (by rw [hρ']; exact e8) 24 (vC aa) (0, 0) _ (M_ga W hb) Try.underlying24 rfl (vec_size ha) (hK _ _ ⟨Below.refl _ _, rfl⟩)
set_option maxHeartbeats 4000000 in
set_option maxRecDepth 20000 in
theorem dots_b1_h4 :
    Reg.OpOK Try.prog (Reg.opsOf Try.f5 20) a0 w0 (dots_b1R vv aa gv gd ga m c ss) (fun _ _ _ _ => True) 4 := by
    refine Reg.op_ok2 (fun af => { dst := some 83, op := Op.call { callee := Callee.value (Operand.func 15), args := #[Operand.tmp 81, Operand.tmp 82], argTypes := #[24, 24] }, type := 31, pos := "outright.go:87", after := af, guard := some (1, true) }) #[{ on := 2, ground := Ground.data }, { on := 3, ground := Ground.data }, { on := 1, ground := Ground.chain }, { on := 1, ground := Ground.guard }] (by kernel_rfl) [2, 3, 1, 1] (by kernel_rfl) fun af v W hb hd => ?_
    have d1 : v 1 = (Value.bool true) := hd 1 (by decide)
    have d2 : v 2 = (Value.agg (vC vv)) := hd 2 (by decide)
    have d3 : v 3 = (Value.agg (vC aa)) := hd 3 (by decide)
    have e81 := (Reg.gfr_eval (ops := (Reg.opsOf Try.f5 20)) (a0 := a0) (v := v) (L := [2, 3, 1, 1]) 81 2 (by kernel_rfl) (by rw [hsz]; omega)).trans d2
    have e82 := (Reg.gfr_eval (ops := (Reg.opsOf Try.f5 20)) (a0 := a0) (v := v) (L := [2, 3, 1, 1]) 82 3 (by kernel_rfl) (by rw [hsz]; omega)).trans d3
    have e80 := (Reg.gfr_eval (ops := (Reg.opsOf Try.f5 20)) (a0 := a0) (v := v) (L := [2, 3, 1, 1]) 80 1 (by kernel_rfl) (by rw [hsz]; omega)).trans d1
    refine ⟨Reg.wanted_of rfl (by kernel_rfl) e80, ?_⟩
    have eF : ∀ f, (Reg.gfr (Reg.opsOf Try.f5 20) a0 v [2, 3, 1, 1]).eval (.func f) = .func (.func f) #[] #[] := fun _ => rfl
    generalize Reg.gfr (Reg.opsOf Try.f5 20) a0 v [2, 3, 1, 1] = G at e81 e82 eF ⊢
    generalize hρ : G.eval = ρ at e81 e82 eF
    have hρ' : G.eval = ρ := hρ
    refine Reg.go_call 15 #[(Value.agg (vC vv)), (Value.agg (vC aa))] (by rw [hρ']; simp [execOp, go_sem, e81, e82, eF]) ((lacks_any vv aa hv ha sv sa W).mono fun e w' he => ?_)
    obtain ⟨rfl, hbb⟩ := he
    exact ⟨_, rfl, hbb, (show _ = _ from by rw [l1] <;> rfl)⟩
set_option maxHeartbeats 4000000 in
set_option maxRecDepth 20000 in
theorem dots_b1_h5 :
    Reg.OpOK Try.prog (Reg.opsOf Try.f5 20) a0 w0 (dots_b1R vv aa gv gd ga m c ss) (fun _ _ _ _ => True) 5 := by
    refine Reg.op_ok2 (fun af => { dst := some 84, op := Op.move (Operand.tmp 9), type := 3, pos := "outright.go:87", after := af, guard := some (1, true) }) #[{ on := 1, ground := Ground.guard }] (by kernel_rfl) [1] (by kernel_rfl) fun af v W hb hd => ?_
    have d1 : v 1 = (Value.bool true) := hd 1 (by decide)
    have e9 := (Reg.gfr_eval0 (ops := (Reg.opsOf Try.f5 20)) (a0 := a0) (v := v) (L := [1]) 9 (by kernel_rfl)).trans i9
    have e80 := (Reg.gfr_eval (ops := (Reg.opsOf Try.f5 20)) (a0 := a0) (v := v) (L := [1]) 80 1 (by kernel_rfl) (by rw [hsz]; omega)).trans d1
    refine ⟨Reg.wanted_of rfl (by kernel_rfl) e80, ?_⟩
    generalize Reg.gfr (Reg.opsOf Try.f5 20) a0 v [1] = G at e9 ⊢
    generalize hρ : G.eval = ρ at e9
    have hρ' : G.eval = ρ := hρ
    refine Reg.go_run (Value.int IntKind.i64 (m : Int)) W ?_ ?_
    · rw [hρ']; simp [execOp, go_sem, e9]
    · exact ⟨Below.refl _ _, rfl⟩
set_option maxHeartbeats 4000000 in
set_option maxRecDepth 20000 in
theorem dots_b1_h6 :
    Reg.OpOK Try.prog (Reg.opsOf Try.f5 20) a0 w0 (dots_b1R vv aa gv gd ga m c ss) (fun _ _ _ _ => True) 6 := by
    refine Reg.op_ok2 (fun af => { dst := some 85, op := Op.convert 3 31 (Operand.tmp 84), type := 31, pos := "outright.go:87", after := af, guard := some (1, true) }) #[{ on := 5, ground := Ground.data }, { on := 1, ground := Ground.guard }] (by kernel_rfl) [5, 1] (by kernel_rfl) fun af v W hb hd => ?_
    have d1 : v 1 = (Value.bool true) := hd 1 (by decide)
    have d5 : v 5 = (Value.int IntKind.i64 (m : Int)) := hd 5 (by decide)
    have e84 := (Reg.gfr_eval (ops := (Reg.opsOf Try.f5 20)) (a0 := a0) (v := v) (L := [5, 1]) 84 5 (by kernel_rfl) (by rw [hsz]; omega)).trans d5
    have e80 := (Reg.gfr_eval (ops := (Reg.opsOf Try.f5 20)) (a0 := a0) (v := v) (L := [5, 1]) 80 1 (by kernel_rfl) (by rw [hsz]; omega)).trans d1
    refine ⟨Reg.wanted_of rfl (by kernel_rfl) e80, ?_⟩
    generalize Reg.gfr (Reg.opsOf Try.f5 20) a0 v [5, 1] = G at e84 ⊢
    generalize hρ : G.eval = ρ at e84
    have hρ' : G.eval = ρ := hρ
    refine Reg.go_run (Value.int IntKind.u64 (m : Int)) W ?_ ?_
    · rw [hρ']; simp [execOp, go_sem, e84, mw]
    · exact ⟨Below.refl _ _, rfl⟩
set_option maxHeartbeats 4000000 in
set_option maxRecDepth 20000 in
theorem dots_b1_h7 :
    Reg.OpOK Try.prog (Reg.opsOf Try.f5 20) a0 w0 (dots_b1R vv aa gv gd ga m c ss) (fun _ _ _ _ => True) 7 := by
    refine Reg.op_ok2 (fun af => { dst := some 86, op := Op.binOp BinOp.eql 31 (Operand.tmp 83) (Operand.tmp 85) 31, type := 4, pos := "outright.go:87", after := af, guard := some (1, true) }) #[{ on := 4, ground := Ground.data }, { on := 6, ground := Ground.data }, { on := 1, ground := Ground.guard }] (by kernel_rfl) [4, 6, 1] (by kernel_rfl) fun af v W hb hd => ?_
    have d1 : v 1 = (Value.bool true) := hd 1 (by decide)
    have d4 : v 4 = (Value.int IntKind.u64 (m : Int)) := hd 4 (by decide)
    have d6 : v 6 = (Value.int IntKind.u64 (m : Int)) := hd 6 (by decide)
    have e83 := (Reg.gfr_eval (ops := (Reg.opsOf Try.f5 20)) (a0 := a0) (v := v) (L := [4, 6, 1]) 83 4 (by kernel_rfl) (by rw [hsz]; omega)).trans d4
    have e85 := (Reg.gfr_eval (ops := (Reg.opsOf Try.f5 20)) (a0 := a0) (v := v) (L := [4, 6, 1]) 85 6 (by kernel_rfl) (by rw [hsz]; omega)).trans d6
    have e80 := (Reg.gfr_eval (ops := (Reg.opsOf Try.f5 20)) (a0 := a0) (v := v) (L := [4, 6, 1]) 80 1 (by kernel_rfl) (by rw [hsz]; omega)).trans d1
    refine ⟨Reg.wanted_of rfl (by kernel_rfl) e80, ?_⟩
    generalize Reg.gfr (Reg.opsOf Try.f5 20) a0 v [4, 6, 1] = G at e83 e85 ⊢
    generalize hρ : G.eval = ρ at e83 e85
    have hρ' : G.eval = ρ := hρ
    refine Reg.go_run (Value.bool true) W ?_ ?_
    · rw [hρ']; simp [execOp, go_sem, e83, e85]
    · exact ⟨Below.refl _ _, rfl⟩
set_option maxHeartbeats 4000000 in
set_option maxRecDepth 20000 in
theorem dots_b1_h8 :
    Reg.OpOK Try.prog (Reg.opsOf Try.f5 20) a0 w0 (dots_b1R vv aa gv gd ga m c ss) (fun _ _ _ _ => True) 8 := by
    refine Reg.op_ok2 (fun af => { dst := some 87, op := Op.pick (Operand.tmp 80) (Operand.tmp 86) (Operand.const (Value.bool false)), type := 4, pos := "outright.go:87", after := af, guard := none }) #[{ on := 1, ground := Ground.data }, { on := 7, ground := Ground.data }] (by kernel_rfl) [1, 7] (by kernel_rfl) fun af v W hb hd => ?_
    have d1 : v 1 = (Value.bool true) := hd 1 (by decide)
    have d7 : v 7 = (Value.bool true) := hd 7 (by decide)
    have e80 := (Reg.gfr_eval (ops := (Reg.opsOf Try.f5 20)) (a0 := a0) (v := v) (L := [1, 7]) 80 1 (by kernel_rfl) (by rw [hsz]; omega)).trans d1
    have e86 := (Reg.gfr_eval (ops := (Reg.opsOf Try.f5 20)) (a0 := a0) (v := v) (L := [1, 7]) 86 7 (by kernel_rfl) (by rw [hsz]; omega)).trans d7
    refine ⟨Reg.wanted_none rfl, ?_⟩
    have eC : ∀ x, (Reg.gfr (Reg.opsOf Try.f5 20) a0 v [1, 7]).eval (.const x) = x := fun _ => rfl
    generalize Reg.gfr (Reg.opsOf Try.f5 20) a0 v [1, 7] = G at e80 e86 eC ⊢
    generalize hρ : G.eval = ρ at e80 e86 eC
    have hρ' : G.eval = ρ := hρ
    refine Reg.go_run (Value.bool true) W ?_ ?_
    · rw [hρ']; simp [execOp, go_sem, e80, e86, eC]
    · exact ⟨Below.refl _ _, rfl⟩
set_option maxHeartbeats 4000000 in
set_option maxRecDepth 20000 in
theorem dots_b1_h9 :
    Reg.OpOK Try.prog (Reg.opsOf Try.f5 20) a0 w0 (dots_b1R vv aa gv gd ga m c ss) (fun _ _ _ _ => True) 9 := by
    refine Reg.op_ok2 (fun af => { dst := some 88, op := Op.move (Operand.tmp 87), type := 4, pos := "outright.go:87", after := af, guard := none }) #[{ on := 8, ground := Ground.data }, { on := 4, ground := Ground.chain }] (by kernel_rfl) [8, 4] (by kernel_rfl) fun af v W hb hd => ?_
    have d8 : v 8 = (Value.bool true) := hd 8 (by decide)
    have e87 := (Reg.gfr_eval (ops := (Reg.opsOf Try.f5 20)) (a0 := a0) (v := v) (L := [8, 4]) 87 8 (by kernel_rfl) (by rw [hsz]; omega)).trans d8
    refine ⟨Reg.wanted_none rfl, ?_⟩
    generalize Reg.gfr (Reg.opsOf Try.f5 20) a0 v [8, 4] = G at e87 ⊢
    generalize hρ : G.eval = ρ at e87
    have hρ' : G.eval = ρ := hρ
    refine Reg.go_run (Value.bool true) W ?_ ?_
    · rw [hρ']; simp [execOp, go_sem, e87]
    · exact ⟨Below.refl _ _, rfl⟩
set_option maxHeartbeats 4000000 in
set_option maxRecDepth 20000 in
theorem dots_b1_h10 :
    Reg.OpOK Try.prog (Reg.opsOf Try.f5 20) a0 w0 (dots_b1R vv aa gv gd ga m c ss) (fun _ _ _ _ => True) 10 := by
    refine Reg.op_ok2 (fun af => { dst := some 89, op := Op.load 24 (Operand.tmp 8), type := 24, pos := "outright.go:87", after := af, guard := some (9, true) }) #[{ on := 9, ground := Ground.guard }] (by kernel_rfl) [9] (by kernel_rfl) fun af v W hb hd => ?_
    have d9 : v 9 = (Value.bool true) := hd 9 (by decide)
    have e8 := (Reg.gfr_eval0 (ops := (Reg.opsOf Try.f5 20)) (a0 := a0) (v := v) (L := [9]) 8 (by kernel_rfl)).trans i8
    have e88 := (Reg.gfr_eval (ops := (Reg.opsOf Try.f5 20)) (a0 := a0) (v := v) (L := [9]) 88 9 (by kernel_rfl) (by rw [hsz]; omega)).trans d9
    refine ⟨Reg.wanted_of rfl (by kernel_rfl) e88, ?_⟩
    generalize Reg.gfr (Reg.opsOf Try.f5 20) a0 v [9] = G at e8 ⊢
    generalize hρ : G.eval = ρ at e8
    have hρ' : G.eval = ρ := hρ
    exact fun K hK => wp_load_row 24 (.tmp 8) rfl ga (by rw [hρ']; exact e8) 24 (vC aa) (0, 0) _ (M_ga W hb) Try.underlying24 rfl (vec_size ha) (hK _ _ ⟨Below.refl _ _, rfl⟩)
set_option maxHeartbeats 4000000 in
set_option maxRecDepth 20000 in
theorem dots_b1_h11 :
    Reg.OpOK Try.prog (Reg.opsOf Try.f5 20) a0 w0 (dots_b1R vv aa gv gd ga m c ss) (fun _ _ _ _ => True) 11 := by
    refine Reg.op_ok2 (fun af => { dst := some 90, op := Op.load 24 (Operand.tmp 3), type := 24, pos := "outright.go:87", after := af, guard := some (9, true) }) #[{ on := 9, ground := Ground.guard }] (by kernel_rfl) [9] (by kernel_rfl) fun af v W hb hd => ?_
    have d9 : v 9 = (Value.bool true) := hd 9 (by decide)
    have e3 := (Reg.gfr_eval0 (ops := (Reg.opsOf Try.f5 20)) (a0 := a0) (v := v) (L := [9]) 3 (by kernel_rfl)).trans i3
    have e88 := (Reg.gfr_eval (ops := (Reg.opsOf Try.f5 20)) (a0 := a0) (v := v) (L := [9]) 88 9 (by kernel_rfl) (by rw [hsz]; omega)).trans d9
    refine ⟨Reg.wanted_of rfl (by kernel_rfl) e88, ?_⟩
    generalize Reg.gfr (Reg.opsOf Try.f5 20) a0 v [9] = G at e3 ⊢
    generalize hρ : G.eval = ρ at e3
    have hρ' : G.eval = ρ := hρ
    exact fun K hK => wp_load_row 24 (.tmp 3) rfl gv (by rw [hρ']; exact e3) 24 (vC vv) (0, 0) _ (M_gv W hb) Try.underlying24 rfl (vec_size hv) (hK _ _ ⟨Below.refl _ _, rfl⟩)
set_option maxHeartbeats 4000000 in
set_option maxRecDepth 20000 in
theorem dots_b1_h12 :
    Reg.OpOK Try.prog (Reg.opsOf Try.f5 20) a0 w0 (dots_b1R vv aa gv gd ga m c ss) (fun _ _ _ _ => True) 12 := by
    refine Reg.op_ok2 (fun af => { dst := some 91, op := Op.call { callee := Callee.value (Operand.func 15), args := #[Operand.tmp 89, Operand.tmp 90], argTypes := #[24, 24] }, type := 31, pos := "outright.go:87", after := af, guard := some (9, true) }) #[{ on := 10, ground := Ground.data }, { on := 11, ground := Ground.data }, { on := 9, ground := Ground.chain }, { on := 9, ground := Ground.guard }] (by kernel_rfl) [10, 11, 9, 9] (by kernel_rfl) fun af v W hb hd => ?_
    have d9 : v 9 = (Value.bool true) := hd 9 (by decide)
    have d10 : v 10 = (Value.agg (vC aa)) := hd 10 (by decide)
    have d11 : v 11 = (Value.agg (vC vv)) := hd 11 (by decide)
    have e89 := (Reg.gfr_eval (ops := (Reg.opsOf Try.f5 20)) (a0 := a0) (v := v) (L := [10, 11, 9, 9]) 89 10 (by kernel_rfl) (by rw [hsz]; omega)).trans d10
    have e90 := (Reg.gfr_eval (ops := (Reg.opsOf Try.f5 20)) (a0 := a0) (v := v) (L := [10, 11, 9, 9]) 90 11 (by kernel_rfl) (by rw [hsz]; omega)).trans d11
    have e88 := (Reg.gfr_eval (ops := (Reg.opsOf Try.f5 20)) (a0 := a0) (v := v) (L := [10, 11, 9, 9]) 88 9 (by kernel_rfl) (by rw [hsz]; omega)).trans d9
    refine ⟨Reg.wanted_of rfl (by kernel_rfl) e88, ?_⟩
    have eF : ∀ f, (Reg.gfr (Reg.opsOf Try.f5 20) a0 v [10, 11, 9, 9]).eval (.func f) = .func (.func f) #[] #[] := fun _ => rfl
    generalize Reg.gfr (Reg.opsOf Try.f5 20) a0 v [10, 11, 9, 9] = G at e89 e90 eF ⊢
    generalize hρ : G.eval = ρ at e89 e90 eF
    have hρ' : G.eval = ρ := hρ
    refine Reg.go_call 15 #[(Value.agg (vC aa)), (Value.agg (vC vv))] (by rw [hρ']; simp [execOp, go_sem, e89, e90, eF]) ((lacks_any aa vv ha hv sa sv W).mono fun e w' he => ?_)
    obtain ⟨rfl, hbb⟩ := he
    exact ⟨_, rfl, hbb, (show _ = _ from by rw [l2] <;> rfl)⟩
set_option maxHeartbeats 4000000 in
set_option maxRecDepth 20000 in
theorem dots_b1_h13 :
    Reg.OpOK Try.prog (Reg.opsOf Try.f5 20) a0 w0 (dots_b1R vv aa gv gd ga m c ss) (fun _ _ _ _ => True) 13 := by
    refine Reg.op_ok2 (fun af => { dst := some 92, op := Op.binOp BinOp.eql 31 (Operand.tmp 91) (Operand.const (Value.int IntKind.u64 0)) 31, type := 4, pos := "outright.go:87", after := af, guard := some (9, true) }) #[{ on := 12, ground := Ground.data }, { on := 9, ground := Ground.guard }] (by kernel_rfl) [12, 9] (by kernel_rfl) fun af v W hb hd => ?_
    have d9 : v 9 = (Value.bool true) := hd 9 (by decide)
    have d12 : v 12 = (Value.int IntKind.u64 0) := hd 12 (by decide)
    have e91 := (Reg.gfr_eval (ops := (Reg.opsOf Try.f5 20)) (a0 := a0) (v := v) (L := [12, 9]) 91 12 (by kernel_rfl) (by rw [hsz]; omega)).trans d12
    have e88 := (Reg.gfr_eval (ops := (Reg.opsOf Try.f5 20)) (a0 := a0) (v := v) (L := [12, 9]) 88 9 (by kernel_rfl) (by rw [hsz]; omega)).trans d9
    refine ⟨Reg.wanted_of rfl (by kernel_rfl) e88, ?_⟩
    have eC : ∀ x, (Reg.gfr (Reg.opsOf Try.f5 20) a0 v [12, 9]).eval (.const x) = x := fun _ => rfl
    generalize Reg.gfr (Reg.opsOf Try.f5 20) a0 v [12, 9] = G at e91 eC ⊢
    generalize hρ : G.eval = ρ at e91 eC
    have hρ' : G.eval = ρ := hρ
    refine Reg.go_run (Value.bool true) W ?_ ?_
    · rw [hρ']; simp [execOp, go_sem, e91, eC]
    · exact ⟨Below.refl _ _, rfl⟩
set_option maxHeartbeats 4000000 in
set_option maxRecDepth 20000 in
theorem dots_b1_h14 :
    Reg.OpOK Try.prog (Reg.opsOf Try.f5 20) a0 w0 (dots_b1R vv aa gv gd ga m c ss) (fun _ _ _ _ => True) 14 := by
    refine Reg.op_ok2 (fun af => { dst := some 93, op := Op.pick (Operand.tmp 88) (Operand.tmp 92) (Operand.const (Value.bool false)), type := 4, pos := "outright.go:87", after := af, guard := none }) #[{ on := 9, ground := Ground.data }, { on := 13, ground := Ground.data }] (by kernel_rfl) [9, 13] (by kernel_rfl) fun af v W hb hd => ?_
    have d9 : v 9 = (Value.bool true) := hd 9 (by decide)
    have d13 : v 13 = (Value.bool true) := hd 13 (by decide)
    have e88 := (Reg.gfr_eval (ops := (Reg.opsOf Try.f5 20)) (a0 := a0) (v := v) (L := [9, 13]) 88 9 (by kernel_rfl) (by rw [hsz]; omega)).trans d9
    have e92 := (Reg.gfr_eval (ops := (Reg.opsOf Try.f5 20)) (a0 := a0) (v := v) (L := [9, 13]) 92 13 (by kernel_rfl) (by rw [hsz]; omega)).trans d13
    refine ⟨Reg.wanted_none rfl, ?_⟩
    have eC : ∀ x, (Reg.gfr (Reg.opsOf Try.f5 20) a0 v [9, 13]).eval (.const x) = x := fun _ => rfl
    generalize Reg.gfr (Reg.opsOf Try.f5 20) a0 v [9, 13] = G at e88 e92 eC ⊢
    generalize hρ : G.eval = ρ at e88 e92 eC
    have hρ' : G.eval = ρ := hρ
    refine Reg.go_run (Value.bool true) W ?_ ?_
    · rw [hρ']; simp [execOp, go_sem, e88, e92, eC]
    · exact ⟨Below.refl _ _, rfl⟩
set_option maxHeartbeats 4000000 in
set_option maxRecDepth 20000 in
theorem dots_b1_h15 :
    Reg.OpOK Try.prog (Reg.opsOf Try.f5 20) a0 w0 (dots_b1R vv aa gv gd ga m c ss) (fun _ _ _ _ => True) 15 := by
    refine Reg.op_ok2 (fun af => { dst := some 94, op := Op.move (Operand.tmp 93), type := 4, pos := "outright.go:87", after := af, guard := none }) #[{ on := 14, ground := Ground.data }, { on := 12, ground := Ground.chain }] (by kernel_rfl) [14, 12] (by kernel_rfl) fun af v W hb hd => ?_
    have d14 : v 14 = (Value.bool true) := hd 14 (by decide)
    have e93 := (Reg.gfr_eval (ops := (Reg.opsOf Try.f5 20)) (a0 := a0) (v := v) (L := [14, 12]) 93 14 (by kernel_rfl) (by rw [hsz]; omega)).trans d14
    refine ⟨Reg.wanted_none rfl, ?_⟩
    generalize Reg.gfr (Reg.opsOf Try.f5 20) a0 v [14, 12] = G at e93 ⊢
    generalize hρ : G.eval = ρ at e93
    have hρ' : G.eval = ρ := hρ
    refine Reg.go_run (Value.bool true) W ?_ ?_
    · rw [hρ']; simp [execOp, go_sem, e93]
    · exact ⟨Below.refl _ _, rfl⟩
set_option maxHeartbeats 4000000 in
set_option maxRecDepth 20000 in
theorem dots_b1_h16 :
    Reg.OpOK Try.prog (Reg.opsOf Try.f5 20) a0 w0 (dots_b1R vv aa gv gd ga m c ss) (fun _ _ _ _ => True) 16 := by
    refine Reg.op_ok2 (fun af => { dst := some 95, op := Op.move (Operand.tmp 16), type := 4, pos := "outright.go:87", after := af, guard := some (15, true) }) #[{ on := 15, ground := Ground.guard }] (by kernel_rfl) [15] (by kernel_rfl) fun af v W hb hd => ?_
    have d15 : v 15 = (Value.bool true) := hd 15 (by decide)
    have e16 := (Reg.gfr_eval0 (ops := (Reg.opsOf Try.f5 20)) (a0 := a0) (v := v) (L := [15]) 16 (by kernel_rfl)).trans i16
    have e94 := (Reg.gfr_eval (ops := (Reg.opsOf Try.f5 20)) (a0 := a0) (v := v) (L := [15]) 94 15 (by kernel_rfl) (by rw [hsz]; omega)).trans d15
    refine ⟨Reg.wanted_of rfl (by kernel_rfl) e94, ?_⟩
    generalize Reg.gfr (Reg.opsOf Try.f5 20) a0 v [15] = G at e16 ⊢
    generalize hρ : G.eval = ρ at e16
    have hρ' : G.eval = ρ := hρ
    refine Reg.go_run (Value.bool false) W ?_ ?_
    · rw [hρ']; simp [execOp, go_sem, e16]
    · exact ⟨Below.refl _ _, rfl⟩
set_option maxHeartbeats 4000000 in
set_option maxRecDepth 20000 in
theorem dots_b1_h17 :
    Reg.OpOK Try.prog (Reg.opsOf Try.f5 20) a0 w0 (dots_b1R vv aa gv gd ga m c ss) (fun _ _ _ _ => True) 17 := by
    refine Reg.op_ok2 (fun af => { dst := some 96, op := Op.unOp UnOp.not 4 (Operand.tmp 95), type := 4, pos := "outright.go:87", after := af, guard := some (15, true) }) #[{ on := 16, ground := Ground.data }, { on := 15, ground := Ground.guard }] (by kernel_rfl) [16, 15] (by kernel_rfl) fun af v W hb hd => ?_
    have d15 : v 15 = (Value.bool true) := hd 15 (by decide)
    have d16 : v 16 = (Value.bool false) := hd 16 (by decide)
    have e95 := (Reg.gfr_eval (ops := (Reg.opsOf Try.f5 20)) (a0 := a0) (v := v) (L := [16, 15]) 95 16 (by kernel_rfl) (by rw [hsz]; omega)).trans d16
    have e94 := (Reg.gfr_eval (ops := (Reg.opsOf Try.f5 20)) (a0 := a0) (v := v) (L := [16, 15]) 94 15 (by kernel_rfl) (by rw [hsz]; omega)).trans d15
    refine ⟨Reg.wanted_of rfl (by kernel_rfl) e94, ?_⟩
    generalize Reg.gfr (Reg.opsOf Try.f5 20) a0 v [16, 15] = G at e95 ⊢
    generalize hρ : G.eval = ρ at e95
    have hρ' : G.eval = ρ := hρ
    refine Reg.go_run (Value.bool true) W ?_ ?_
    · rw [hρ']; simp [execOp, go_sem, e95]
    · exact ⟨Below.refl _ _, rfl⟩
set_option maxHeartbeats 4000000 in
set_option maxRecDepth 20000 in
theorem dots_b1_h18 :
    Reg.OpOK Try.prog (Reg.opsOf Try.f5 20) a0 w0 (dots_b1R vv aa gv gd ga m c ss) (fun _ _ _ _ => True) 18 := by
    refine Reg.op_ok2 (fun af => { dst := some 97, op := Op.move (Operand.tmp 96), type := 4, pos := "outright.go:87", after := af, guard := some (15, true) }) #[{ on := 17, ground := Ground.data }, { on := 15, ground := Ground.chain }, { on := 15, ground := Ground.guard }] (by kernel_rfl) [17, 15, 15] (by kernel_rfl) fun af v W hb hd => ?_
    have d15 : v 15 = (Value.bool true) := hd 15 (by decide)
    have d17 : v 17 = (Value.bool true) := hd 17 (by decide)
    have e96 := (Reg.gfr_eval (ops := (Reg.opsOf Try.f5 20)) (a0 := a0) (v := v) (L := [17, 15, 15]) 96 17 (by kernel_rfl) (by rw [hsz]; omega)).trans d17
    have e94 := (Reg.gfr_eval (ops := (Reg.opsOf Try.f5 20)) (a0 := a0) (v := v) (L := [17, 15, 15]) 94 15 (by kernel_rfl) (by rw [hsz]; omega)).trans d15
    refine ⟨Reg.wanted_of rfl (by kernel_rfl) e94, ?_⟩
    generalize Reg.gfr (Reg.opsOf Try.f5 20) a0 v [17, 15, 15] = G at e96 ⊢
    generalize hρ : G.eval = ρ at e96
    have hρ' : G.eval = ρ := hρ
    refine Reg.go_run (Value.bool true) W ?_ ?_
    · rw [hρ']; simp [execOp, go_sem, e96]
    · exact ⟨Below.refl _ _, rfl⟩
set_option maxHeartbeats 4000000 in
set_option maxRecDepth 20000 in
theorem dots_b1_h19 :
    Reg.OpOK Try.prog (Reg.opsOf Try.f5 20) a0 w0 (dots_b1R vv aa gv gd ga m c ss) (fun _ _ _ _ => True) 19 := by
    refine Reg.op_no2 (fun af => { dst := some 98, op := Op.load 24 (Operand.tmp 8), type := 24, pos := "outright.go:87", after := af, guard := some (18, false) }) #[{ on := 18, ground := Ground.guard }] (by kernel_rfl) [18] (by kernel_rfl) fun af v W hb hd => ?_
    have d18 : v 18 = (Value.bool true) := hd 18 (by decide)
    have e97 := (Reg.gfr_eval (ops := (Reg.opsOf Try.f5 20)) (a0 := a0) (v := v) (L := [18]) 97 18 (by kernel_rfl) (by rw [hsz]; omega)).trans d18
    exact ⟨Reg.wanted_not rfl (by kernel_rfl) e97, rfl, fun _ _ _ _ => ⟨trivial, trivial⟩⟩
set_option maxHeartbeats 4000000 in
set_option maxRecDepth 20000 in
theorem dots_b1_h20 :
    Reg.OpOK Try.prog (Reg.opsOf Try.f5 20) a0 w0 (dots_b1R vv aa gv gd ga m c ss) (fun _ _ _ _ => True) 20 := by
    refine Reg.op_no2 (fun af => { dst := some 99, op := Op.load 35 (Operand.tmp 5), type := 35, pos := "outright.go:87", after := af, guard := some (18, false) }) #[{ on := 18, ground := Ground.guard }] (by kernel_rfl) [18] (by kernel_rfl) fun af v W hb hd => ?_
    have d18 : v 18 = (Value.bool true) := hd 18 (by decide)
    have e97 := (Reg.gfr_eval (ops := (Reg.opsOf Try.f5 20)) (a0 := a0) (v := v) (L := [18]) 97 18 (by kernel_rfl) (by rw [hsz]; omega)).trans d18
    exact ⟨Reg.wanted_not rfl (by kernel_rfl) e97, rfl, fun _ _ _ _ => ⟨trivial, trivial⟩⟩
set_option maxHeartbeats 4000000 in
set_option maxRecDepth 20000 in
theorem dots_b1_h21 :
    Reg.OpOK Try.prog (Reg.opsOf Try.f5 20) a0 w0 (dots_b1R vv aa gv gd ga m c ss) (fun _ _ _ _ => True) 21 := by
    refine Reg.op_no2 (fun af => { dst := some 100, op := Op.call { callee := Callee.value (Operand.func 18), args := #[Operand.tmp 98, Operand.tmp 99], argTypes := #[24, 35] }, type := 4, pos := "outright.go:87", after := af, guard := some (18, false) }) #[{ on := 19, ground := Ground.data }, { on := 20, ground := Ground.data }, { on := 18, ground := Ground.chain }, { on := 18, ground := Ground.guard }] (by kernel_rfl) [19, 20, 18, 18] (by kernel_rfl) fun af v W hb hd => ?_
    have d18 : v 18 = (Value.bool true) := hd 18 (by decide)
    have e97 := (Reg.gfr_eval (ops := (Reg.opsOf Try.f5 20)) (a0 := a0) (v := v) (L := [19, 20, 18, 18]) 97 18 (by kernel_rfl) (by rw [hsz]; omega)).trans d18
    exact ⟨Reg.wanted_not rfl (by kernel_rfl) e97, rfl, fun _ _ _ _ => ⟨trivial, trivial⟩⟩
set_option maxHeartbeats 4000000 in
set_option maxRecDepth 20000 in
theorem dots_b1_h22 :
    Reg.OpOK Try.prog (Reg.opsOf Try.f5 20) a0 w0 (dots_b1R vv aa gv gd ga m c ss) (fun _ _ _ _ => True) 22 := by
    refine Reg.op_ok2 (fun af => { dst := some 101, op := Op.pick (Operand.tmp 97) (Operand.const (Value.bool true)) (Operand.tmp 100), type := 4, pos := "outright.go:87", after := af, guard := some (15, true) }) #[{ on := 18, ground := Ground.data }, { on := 21, ground := Ground.data }, { on := 15, ground := Ground.guard }] (by kernel_rfl) [18, 21, 15] (by kernel_rfl) fun af v W hb hd => ?_
    have d15 : v 15 = (Value.bool true) := hd 15 (by decide)
    have d18 : v 18 = (Value.bool true) := hd 18 (by decide)
    have d21 : v 21 = undef := hd 21 (by decide)
    have e97 := (Reg.gfr_eval (ops := (Reg.opsOf Try.f5 20)) (a0 := a0) (v := v) (L := [18, 21, 15]) 97 18 (by kernel_rfl) (by rw [hsz]; omega)).trans d18
    have e100 := (Reg.gfr_eval (ops := (Reg.opsOf Try.f5 20)) (a0 := a0) (v := v) (L := [18, 21, 15]) 100 21 (by kernel_rfl) (by rw [hsz]; omega)).trans d21
    have e94 := (Reg.gfr_eval (ops := (Reg.opsOf Try.f5 20)) (a0 := a0) (v := v) (L := [18, 21, 15]) 94 15 (by kernel_rfl) (by rw [hsz]; omega)).trans d15
    refine ⟨Reg.wanted_of rfl (by kernel_rfl) e94, ?_⟩
    have eC : ∀ x, (Reg.gfr (Reg.opsOf Try.f5 20) a0 v [18, 21, 15]).eval (.const x) = x := fun _ => rfl
    generalize Reg.gfr (Reg.opsOf Try.f5 20) a0 v [18, 21, 15] = G at e97 e100 eC ⊢
    generalize hρ : G.eval = ρ at e97 e100 eC
    have hρ' : G.eval = ρ := hρ
    refine Reg.go_run (Value.bool true) W ?_ ?_
    · rw [hρ']; simp [execOp, go_sem, e97, e100, eC]
    · exact ⟨Below.refl _ _, rfl⟩
set_option maxHeartbeats 4000000 in
set_option maxRecDepth 20000 in
theorem dots_b1_h23 :
    Reg.OpOK Try.prog (Reg.opsOf Try.f5 20) a0 w0 (dots_b1R vv aa gv gd ga m c ss) (fun _ _ _ _ => True) 23 := by
    refine Reg.op_ok2 (fun af => { dst := some 102, op := Op.pick (Operand.tmp 94) (Operand.tmp 101) (Operand.const (Value.bool false)), type := 4, pos := "outright.go:87", after := af, guard := none }) #[{ on := 15, ground := Ground.data }, { on := 22, ground := Ground.data }] (by kernel_rfl) [15, 22] (by kernel_rfl) fun af v W hb hd => ?_
    have d15 : v 15 = (Value.bool true) := hd 15 (by decide)
    have d22 : v 22 = (Value.bool true) := hd 22 (by decide)
    have e94 := (Reg.gfr_eval (ops := (Reg.opsOf Try.f5 20)) (a0 := a0) (v := v) (L := [15, 22]) 94 15 (by kernel_rfl) (by rw [hsz]; omega)).trans d15
    have e101 := (Reg.gfr_eval (ops := (Reg.opsOf Try.f5 20)) (a0 := a0) (v := v) (L := [15, 22]) 101 22 (by kernel_rfl) (by rw [hsz]; omega)).trans d22
    refine ⟨Reg.wanted_none rfl, ?_⟩
    have eC : ∀ x, (Reg.gfr (Reg.opsOf Try.f5 20) a0 v [15, 22]).eval (.const x) = x := fun _ => rfl
    generalize Reg.gfr (Reg.opsOf Try.f5 20) a0 v [15, 22] = G at e94 e101 eC ⊢
    generalize hρ : G.eval = ρ at e94 e101 eC
    have hρ' : G.eval = ρ := hρ
    refine Reg.go_run (Value.bool true) W ?_ ?_
    · rw [hρ']; simp [execOp, go_sem, e94, e101, eC]
    · exact ⟨Below.refl _ _, rfl⟩
set_option maxHeartbeats 4000000 in
set_option maxRecDepth 20000 in
theorem dots_b1_h24 :
    Reg.OpOK Try.prog (Reg.opsOf Try.f5 20) a0 w0 (dots_b1R vv aa gv gd ga m c ss) (fun _ _ _ _ => True) 24 := by
    refine Reg.op_ok2 (fun af => { dst := some 103, op := Op.move (Operand.tmp 102), type := 4, pos := "outright.go:87", after := af, guard := none }) #[{ on := 23, ground := Ground.data }, { on := 21, ground := Ground.chain }] (by kernel_rfl) [23, 21] (by kernel_rfl) fun af v W hb hd => ?_
    have d23 : v 23 = (Value.bool true) := hd 23 (by decide)
    have e102 := (Reg.gfr_eval (ops := (Reg.opsOf Try.f5 20)) (a0 := a0) (v := v) (L := [23, 21]) 102 23 (by kernel_rfl) (by rw [hsz]; omega)).trans d23
    refine ⟨Reg.wanted_none rfl, ?_⟩
    generalize Reg.gfr (Reg.opsOf Try.f5 20) a0 v [23, 21] = G at e102 ⊢
    generalize hρ : G.eval = ρ at e102
    have hρ' : G.eval = ρ := hρ
    refine Reg.go_run (Value.bool true) W ?_ ?_
    · rw [hρ']; simp [execOp, go_sem, e102]
    · exact ⟨Below.refl _ _, rfl⟩
set_option maxHeartbeats 4000000 in
set_option maxRecDepth 20000 in
theorem dots_b1_h25 :
    Reg.OpOK Try.prog (Reg.opsOf Try.f5 20) a0 w0 (dots_b1R vv aa gv gd ga m c ss) (fun _ _ _ _ => True) 25 := by
    refine Reg.op_ok2 (fun af => { dst := some 104, op := Op.load 24 (Operand.tmp 8), type := 24, pos := "outright.go:87", after := af, guard := some (24, true) }) #[{ on := 24, ground := Ground.guard }] (by kernel_rfl) [24] (by kernel_rfl) fun af v W hb hd => ?_
    have d24 : v 24 = (Value.bool true) := hd 24 (by decide)
    have e8 := (Reg.gfr_eval0 (ops := (Reg.opsOf Try.f5 20)) (a0 := a0) (v := v) (L := [24]) 8 (by kernel_rfl)).trans i8
    have e103 := (Reg.gfr_eval (ops := (Reg.opsOf Try.f5 20)) (a0 := a0) (v := v) (L := [24]) 103 24 (by kernel_rfl) (by rw [hsz]; omega)).trans d24
    refine ⟨Reg.wanted_of rfl (by kernel_rfl) e103, ?_⟩
    generalize Reg.gfr (Reg.opsOf Try.f5 20) a0 v [24] = G at e8 ⊢
    generalize hρ : G.eval = ρ at e8
    have hρ' : G.eval = ρ := hρ
    exact fun K hK => wp_load_row 24 (.tmp 8) rfl ga (by rw [hρ']; exact e8) 24 (vC aa) (0, 0) _ (M_ga W hb) Try.underlying24 rfl (vec_size ha) (hK _ _ ⟨Below.refl _ _, rfl⟩)
set_option maxHeartbeats 4000000 in
set_option maxRecDepth 20000 in
theorem dots_b1_h26 :
    Reg.OpOK Try.prog (Reg.opsOf Try.f5 20) a0 w0 (dots_b1R vv aa gv gd ga m c ss) (fun _ _ _ _ => True) 26 := by
    refine Reg.op_ok2 (fun af => { dst := some 105, op := Op.load 35 (Operand.tmp 5), type := 35, pos := "outright.go:87", after := af, guard := some (24, true) }) #[{ on := 24, ground := Ground.guard }] (by kernel_rfl) [24] (by kernel_rfl) fun af v W hb hd => ?_
    have d24 : v 24 = (Value.bool true) := hd 24 (by decide)
    have e5 := (Reg.gfr_eval0 (ops := (Reg.opsOf Try.f5 20)) (a0 := a0) (v := v) (L := [24]) 5 (by kernel_rfl)).trans i5
    have e103 := (Reg.gfr_eval (ops := (Reg.opsOf Try.f5 20)) (a0 := a0) (v := v) (L := [24]) 103 24 (by kernel_rfl) (by rw [hsz]; omega)).trans d24
    refine ⟨Reg.wanted_of rfl (by kernel_rfl) e103, ?_⟩
    generalize Reg.gfr (Reg.opsOf Try.f5 20) a0 v [24] = G at e5 ⊢
    generalize hρ : G.eval = ρ at e5
    have hρ' : G.eval = ρ := hρ
    exact fun K hK => wp_load_row 35 (.tmp 5) rfl gd (by rw [hρ']; exact e5) 35 (dC ss c) (0, 0) _ (M_gd W hb) Try.underlying35 rfl size_dot (hK _ _ ⟨Below.refl _ _, rfl⟩)
set_option maxHeartbeats 4000000 in
set_option maxRecDepth 20000 in
theorem dots_b1_h27 :
    Reg.OpOK Try.prog (Reg.opsOf Try.f5 20) a0 w0 (dots_b1R vv aa gv gd ga m c ss) (fun _ _ _ _ => True) 27 := by
    refine Reg.op_ok2 (fun af => { dst := some 106, op := Op.call { callee := Callee.value (Operand.func 18), args := #[Operand.tmp 104, Operand.tmp 105], argTypes := #[24, 35] }, type := 4, pos := "outright.go:87", after := af, guard := some (24, true) }) #[{ on := 25, ground := Ground.data }, { on := 26, ground := Ground.data }, { on := 24, ground := Ground.chain }, { on := 24, ground := Ground.guard }] (by kernel_rfl) [25, 26, 24, 24] (by kernel_rfl) fun af v W hb hd => ?_
    have d24 : v 24 = (Value.bool true) := hd 24 (by decide)
    have d25 : v 25 = (Value.agg (vC aa)) := hd 25 (by decide)
    have d26 : v 26 = (Value.agg (dC ss c)) := hd 26 (by decide)
    have e104 := (Reg.gfr_eval (ops := (Reg.opsOf Try.f5 20)) (a0 := a0) (v := v) (L := [25, 26, 24, 24]) 104 25 (by kernel_rfl) (by rw [hsz]; omega)).trans d25
    have e105 := (Reg.gfr_eval (ops := (Reg.opsOf Try.f5 20)) (a0 := a0) (v := v) (L := [25, 26, 24, 24]) 105 26 (by kernel_rfl) (by rw [hsz]; omega)).trans d26
    have e103 := (Reg.gfr_eval (ops := (Reg.opsOf Try.f5 20)) (a0 := a0) (v := v) (L := [25, 26, 24, 24]) 103 24 (by kernel_rfl) (by rw [hsz]; omega)).trans d24
    refine ⟨Reg.wanted_of rfl (by kernel_rfl) e103, ?_⟩
    have eF : ∀ f, (Reg.gfr (Reg.opsOf Try.f5 20) a0 v [25, 26, 24, 24]).eval (.func f) = .func (.func f) #[] #[] := fun _ => rfl
    generalize Reg.gfr (Reg.opsOf Try.f5 20) a0 v [25, 26, 24, 24] = G at e104 e105 eF ⊢
    generalize hρ : G.eval = ρ at e104 e105 eF
    have hρ' : G.eval = ρ := hρ
    refine Reg.go_call 18 #[(Value.agg (vC aa)), (Value.agg (dC ss c))] (by rw [hρ']; simp [execOp, go_sem, e104, e105, eF]) ((has_any aa ha sa ss c W).mono fun e w' he => ?_)
    obtain ⟨rfl, hbb⟩ := he
    exact ⟨_, rfl, hbb, (show _ = _ from by rw [fh] <;> rfl)⟩
set_option maxHeartbeats 4000000 in
set_option maxRecDepth 20000 in
theorem dots_b1_h28 :
    Reg.OpOK Try.prog (Reg.opsOf Try.f5 20) a0 w0 (dots_b1R vv aa gv gd ga m c ss) (fun _ _ _ _ => True) 28 := by
    refine Reg.op_ok2 (fun af => { dst := some 107, op := Op.fieldAddr 35 (Operand.tmp 5) 0, type := 0, pos := "outright.go:87", after := af, guard := some (24, true) }) #[{ on := 24, ground := Ground.guard }] (by kernel_rfl) [24] (by kernel_rfl) fun af v W hb hd => ?_
    have d24 : v 24 = (Value.bool true) := hd 24 (by decide)
    have e5 := (Reg.gfr_eval0 (ops := (Reg.opsOf Try.f5 20)) (a0 := a0) (v := v) (L := [24]) 5 (by kernel_rfl)).trans i5
    have e103 := (Reg.gfr_eval (ops := (Reg.opsOf Try.f5 20)) (a0 := a0) (v := v) (L := [24]) 103 24 (by kernel_rfl) (by rw [hsz]; omega)).trans d24
    refine ⟨Reg.wanted_of rfl (by kernel_rfl) e103, ?_⟩
    generalize Reg.gfr (Reg.opsOf Try.f5 20) a0 v [24] = G at e5 ⊢
    generalize hρ : G.eval = ρ at e5
    have hρ' : G.eval = ρ := hρ
    refine Reg.go_run (Value.pointer (some ⟨gd, 0, none⟩)) W ?_ ?_
    · rw [hρ']; simp [execOp, go_sem, e5]
    · exact ⟨Below.refl _ _, rfl⟩
set_option maxHeartbeats 4000000 in
set_option maxRecDepth 20000 in
theorem dots_b1_h29 :
    Reg.OpOK Try.prog (Reg.opsOf Try.f5 20) a0 w0 (dots_b1R vv aa gv gd ga m c ss) (fun _ _ _ _ => True) 29 := by
    refine Reg.op_ok2 (fun af => { dst := some 108, op := Op.load 3 (Operand.tmp 107), type := 3, pos := "outright.go:87", after := af, guard := some (24, true) }) #[{ on := 28, ground := Ground.data }, { on := 24, ground := Ground.guard }] (by kernel_rfl) [28, 24] (by kernel_rfl) fun af v W hb hd => ?_
    have d24 : v 24 = (Value.bool true) := hd 24 (by decide)
    have d28 : v 28 = (Value.pointer (some ⟨gd, 0, none⟩)) := hd 28 (by decide)
    have e107 := (Reg.gfr_eval (ops := (Reg.opsOf Try.f5 20)) (a0 := a0) (v := v) (L := [28, 24]) 107 28 (by kernel_rfl) (by rw [hsz]; omega)).trans d28
    have e103 := (Reg.gfr_eval (ops := (Reg.opsOf Try.f5 20)) (a0 := a0) (v := v) (L := [28, 24]) 103 24 (by kernel_rfl) (by rw [hsz]; omega)).trans d24
    refine ⟨Reg.wanted_of rfl (by kernel_rfl) e103, ?_⟩
    generalize Reg.gfr (Reg.opsOf Try.f5 20) a0 v [28, 24] = G at e107 ⊢
    generalize hρ : G.eval = ρ at e107
    have hρ' : G.eval = ρ := hρ
    refine Reg.go_run (Value.int IntKind.i64 ss) W ?_ ?_
    · rw [hρ']; simp [execOp, go_sem, e107, CD0 W hb]
    · exact ⟨Below.refl _ _, rfl⟩
set_option maxHeartbeats 4000000 in
set_option maxRecDepth 20000 in
theorem dots_b1_h30 :
    Reg.OpOK Try.prog (Reg.opsOf Try.f5 20) a0 w0 (dots_b1R vv aa gv gd ga m c ss) (fun _ _ _ _ => True) 30 := by
    refine Reg.op_ok2 (fun af => { dst := some 109, op := Op.binOp BinOp.geq 3 (Operand.tmp 108) (Operand.const (Value.int IntKind.i64 0)) 3, type := 4, pos := "outright.go:87", after := af, guard := some (24, true) }) #[{ on := 29, ground := Ground.data }, { on := 24, ground := Ground.guard }] (by kernel_rfl) [29, 24] (by kernel_rfl) fun af v W hb hd => ?_
    have d24 : v 24 = (Value.bool true) := hd 24 (by decide)
    have d29 : v 29 = (Value.int IntKind.i64 ss) := hd 29 (by decide)
    have e108 := (Reg.gfr_eval (ops := (Reg.opsOf Try.f5 20)) (a0 := a0) (v := v) (L := [29, 24]) 108 29 (by kernel_rfl) (by rw [hsz]; omega)).trans d29
    have e103 := (Reg.gfr_eval (ops := (Reg.opsOf Try.f5 20)) (a0 := a0) (v := v) (L := [29, 24]) 103 24 (by kernel_rfl) (by rw [hsz]; omega)).trans d24
    refine ⟨Reg.wanted_of rfl (by kernel_rfl) e103, ?_⟩
    have eC : ∀ x, (Reg.gfr (Reg.opsOf Try.f5 20) a0 v [29, 24]).eval (.const x) = x := fun _ => rfl
    generalize Reg.gfr (Reg.opsOf Try.f5 20) a0 v [29, 24] = G at e108 eC ⊢
    generalize hρ : G.eval = ρ at e108 eC
    have hρ' : G.eval = ρ := hρ
    refine Reg.go_run (Value.bool false) W ?_ ?_
    · rw [hρ']; simp [execOp, go_sem, e108, eC, k1]
    · exact ⟨Below.refl _ _, rfl⟩
set_option maxHeartbeats 4000000 in
set_option maxRecDepth 20000 in
theorem dots_b1_h31 :
    Reg.OpOK Try.prog (Reg.opsOf Try.f5 20) a0 w0 (dots_b1R vv aa gv gd ga m c ss) (fun _ _ _ _ => True) 31 := by
    refine Reg.op_ok2 (fun af => { dst := some 110, op := Op.move (Operand.tmp 109), type := 4, pos := "outright.go:87", after := af, guard := some (24, true) }) #[{ on := 30, ground := Ground.data }, { on := 27, ground := Ground.chain }, { on := 24, ground := Ground.guard }] (by kernel_rfl) [30, 27, 24] (by kernel_rfl) fun af v W hb hd => ?_
    have d24 : v 24 = (Value.bool true) := hd 24 (by decide)
    have d30 : v 30 = (Value.bool false) := hd 30 (by decide)
    have e109 := (Reg.gfr_eval (ops := (Reg.opsOf Try.f5 20)) (a0 := a0) (v := v) (L := [30, 27, 24]) 109 30 (by kernel_rfl) (by rw [hsz]; omega)).trans d30
    have e103 := (Reg.gfr_eval (ops := (Reg.opsOf Try.f5 20)) (a0 := a0) (v := v) (L := [30, 27, 24]) 103 24 (by kernel_rfl) (by rw [hsz]; omega)).trans d24
    refine ⟨Reg.wanted_of rfl (by kernel_rfl) e103, ?_⟩
    generalize Reg.gfr (Reg.opsOf Try.f5 20) a0 v [30, 27, 24] = G at e109 ⊢
    generalize hρ : G.eval = ρ at e109
    have hρ' : G.eval = ρ := hρ
    refine Reg.go_run (Value.bool false) W ?_ ?_
    · rw [hρ']; simp [execOp, go_sem, e109]
    · exact ⟨Below.refl _ _, rfl⟩
set_option maxHeartbeats 4000000 in
set_option maxRecDepth 20000 in
theorem dots_b1_h32 :
    Reg.OpOK Try.prog (Reg.opsOf Try.f5 20) a0 w0 (dots_b1R vv aa gv gd ga m c ss) (fun _ _ _ _ => True) 32 := by
    refine Reg.op_no2 (fun af => { dst := some 111, op := Op.fieldAddr 35 (Operand.tmp 5) 0, type := 0, pos := "outright.go:87", after := af, guard := some (31, true) }) #[{ on := 31, ground := Ground.guard }] (by kernel_rfl) [31] (by kernel_rfl) fun af v W hb hd => ?_
    have d31 : v 31 = (Value.bool false) := hd 31 (by decide)
    have e110 := (Reg.gfr_eval (ops := (Reg.opsOf Try.f5 20)) (a0 := a0) (v := v) (L := [31]) 110 31 (by kernel_rfl) (by rw [hsz]; omega)).trans d31
    exact ⟨Reg.wanted_not rfl (by kernel_rfl) e110, rfl, fun _ _ _ _ => ⟨trivial, trivial⟩⟩
set_option maxHeartbeats 4000000 in
set_option maxRecDepth 20000 in
theorem dots_b1_h33 :
    Reg.OpOK Try.prog (Reg.opsOf Try.f5 20) a0 w0 (dots_b1R vv aa gv gd ga m c ss) (fun _ _ _ _ => True) 33 := by
    refine Reg.op_no2 (fun af => { dst := some 112, op := Op.load 3 (Operand.tmp 111), type := 3, pos := "outright.go:87", after := af, guard := some (31, true) }) #[{ on := 32, ground := Ground.data }, { on := 31, ground := Ground.guard }] (by kernel_rfl) [32, 31] (by kernel_rfl) fun af v W hb hd => ?_
    have d31 : v 31 = (Value.bool false) := hd 31 (by decide)
    have e110 := (Reg.gfr_eval (ops := (Reg.opsOf Try.f5 20)) (a0 := a0) (v := v) (L := [32, 31]) 110 31 (by kernel_rfl) (by rw [hsz]; omega)).trans d31
    exact ⟨Reg.wanted_not rfl (by kernel_rfl) e110, rfl, fun _ _ _ _ => ⟨trivial, trivial⟩⟩
set_option maxHeartbeats 4000000 in
set_option maxRecDepth 20000 in
theorem dots_b1_h34 :
    Reg.OpOK Try.prog (Reg.opsOf Try.f5 20) a0 w0 (dots_b1R vv aa gv gd ga m c ss) (fun _ _ _ _ => True) 34 := by
    refine Reg.op_no2 (fun af => { dst := some 113, op := Op.binOp BinOp.lss 3 (Operand.tmp 112) (Operand.const (Value.int IntKind.i64 16)) 3, type := 4, pos := "outright.go:87", after := af, guard := some (31, true) }) #[{ on := 33, ground := Ground.data }, { on := 31, ground := Ground.guard }] (by kernel_rfl) [33, 31] (by kernel_rfl) fun af v W hb hd => ?_
    have d31 : v 31 = (Value.bool false) := hd 31 (by decide)
    have e110 := (Reg.gfr_eval (ops := (Reg.opsOf Try.f5 20)) (a0 := a0) (v := v) (L := [33, 31]) 110 31 (by kernel_rfl) (by rw [hsz]; omega)).trans d31
    exact ⟨Reg.wanted_not rfl (by kernel_rfl) e110, rfl, fun _ _ _ _ => ⟨trivial, trivial⟩⟩
set_option maxHeartbeats 4000000 in
set_option maxRecDepth 20000 in
theorem dots_b1_h35 :
    Reg.OpOK Try.prog (Reg.opsOf Try.f5 20) a0 w0 (dots_b1R vv aa gv gd ga m c ss) (fun _ _ _ _ => True) 35 := by
    refine Reg.op_ok2 (fun af => { dst := some 114, op := Op.pick (Operand.tmp 110) (Operand.tmp 113) (Operand.const (Value.bool false)), type := 4, pos := "outright.go:87", after := af, guard := some (24, true) }) #[{ on := 31, ground := Ground.data }, { on := 34, ground := Ground.data }, { on := 24, ground := Ground.guard }] (by kernel_rfl) [31, 34, 24] (by kernel_rfl) fun af v W hb hd => ?_
    have d24 : v 24 = (Value.bool true) := hd 24 (by decide)
    have d31 : v 31 = (Value.bool false) := hd 31 (by decide)
    have d34 : v 34 = undef := hd 34 (by decide)
    have e110 := (Reg.gfr_eval (ops := (Reg.opsOf Try.f5 20)) (a0 := a0) (v := v) (L := [31, 34, 24]) 110 31 (by kernel_rfl) (by rw [hsz]; omega)).trans d31
    have e113 := (Reg.gfr_eval (ops := (Reg.opsOf Try.f5 20)) (a0 := a0) (v := v) (L := [31, 34, 24]) 113 34 (by kernel_rfl) (by rw [hsz]; omega)).trans d34
    have e103 := (Reg.gfr_eval (ops := (Reg.opsOf Try.f5 20)) (a0 := a0) (v := v) (L := [31, 34, 24]) 103 24 (by kernel_rfl) (by rw [hsz]; omega)).trans d24
    refine ⟨Reg.wanted_of rfl (by kernel_rfl) e103, ?_⟩
    have eC : ∀ x, (Reg.gfr (Reg.opsOf Try.f5 20) a0 v [31, 34, 24]).eval (.const x) = x := fun _ => rfl
    generalize Reg.gfr (Reg.opsOf Try.f5 20) a0 v [31, 34, 24] = G at e110 e113 eC ⊢
    generalize hρ : G.eval = ρ at e110 e113 eC
    have hρ' : G.eval = ρ := hρ
    refine Reg.go_run (Value.bool false) W ?_ ?_
    · rw [hρ']; simp [execOp, go_sem, e110, e113, eC]
    · exact ⟨Below.refl _ _, rfl⟩
set_option maxHeartbeats 4000000 in
set_option maxRecDepth 20000 in
theorem dots_b1_h36 :
    Reg.OpOK Try.prog (Reg.opsOf Try.f5 20) a0 w0 (dots_b1R vv aa gv gd ga m c ss) (fun _ _ _ _ => True) 36 := by
    refine Reg.op_ok2 (fun af => { dst := some 115, op := Op.move (Operand.tmp 114), type := 4, pos := "outright.go:87", after := af, guard := some (24, true) }) #[{ on := 35, ground := Ground.data }, { on := 31, ground := Ground.chain }, { on := 24, ground := Ground.guard }] (by kernel_rfl) [35, 31, 24] (by kernel_rfl) fun af v W hb hd => ?_
    have d24 : v 24 = (Value.bool true) := hd 24 (by decide)
    have d35 : v 35 = (Value.bool false) := hd 35 (by decide)
    have e114 := (Reg.gfr_eval (ops := (Reg.opsOf Try.f5 20)) (a0 := a0) (v := v) (L := [35, 31, 24]) 114 35 (by kernel_rfl) (by rw [hsz]; omega)).trans d35
    have e103 := (Reg.gfr_eval (ops := (Reg.opsOf Try.f5 20)) (a0 := a0) (v := v) (L := [35, 31, 24]) 103 24 (by kernel_rfl) (by rw [hsz]; omega)).trans d24
    refine ⟨Reg.wanted_of rfl (by kernel_rfl) e103, ?_⟩
    generalize Reg.gfr (Reg.opsOf Try.f5 20) a0 v [35, 31, 24] = G at e114 ⊢
    generalize hρ : G.eval = ρ at e114
    have hρ' : G.eval = ρ := hρ
    refine Reg.go_run (Value.bool false) W ?_ ?_
    · rw [hρ']; simp [execOp, go_sem, e114]
    · exact ⟨Below.refl _ _, rfl⟩
set_option maxHeartbeats 4000000 in
set_option maxRecDepth 20000 in
theorem dots_b1_h37 :
    Reg.OpOK Try.prog (Reg.opsOf Try.f5 20) a0 w0 (dots_b1R vv aa gv gd ga m c ss) (fun _ _ _ _ => True) 37 := by
    refine Reg.op_no2 (fun af => { dst := some 116, op := Op.fieldAddr 35 (Operand.tmp 5) 1, type := 0, pos := "outright.go:87", after := af, guard := some (36, true) }) #[{ on := 36, ground := Ground.guard }] (by kernel_rfl) [36] (by kernel_rfl) fun af v W hb hd => ?_
    have d36 : v 36 = (Value.bool false) := hd 36 (by decide)
    have e115 := (Reg.gfr_eval (ops := (Reg.opsOf Try.f5 20)) (a0 := a0) (v := v) (L := [36]) 115 36 (by kernel_rfl) (by rw [hsz]; omega)).trans d36
    exact ⟨Reg.wanted_not rfl (by kernel_rfl) e115, rfl, fun _ _ _ _ => ⟨trivial, trivial⟩⟩
set_option maxHeartbeats 4000000 in
set_option maxRecDepth 20000 in
theorem dots_b1_h38 :
    Reg.OpOK Try.prog (Reg.opsOf Try.f5 20) a0 w0 (dots_b1R vv aa gv gd ga m c ss) (fun _ _ _ _ => True) 38 := by
    refine Reg.op_no2 (fun af => { dst := some 117, op := Op.load 3 (Operand.tmp 116), type := 3, pos := "outright.go:87", after := af, guard := some (36, true) }) #[{ on := 37, ground := Ground.data }, { on := 36, ground := Ground.guard }] (by kernel_rfl) [37, 36] (by kernel_rfl) fun af v W hb hd => ?_
    have d36 : v 36 = (Value.bool false) := hd 36 (by decide)
    have e115 := (Reg.gfr_eval (ops := (Reg.opsOf Try.f5 20)) (a0 := a0) (v := v) (L := [37, 36]) 115 36 (by kernel_rfl) (by rw [hsz]; omega)).trans d36
    exact ⟨Reg.wanted_not rfl (by kernel_rfl) e115, rfl, fun _ _ _ _ => ⟨trivial, trivial⟩⟩
set_option maxHeartbeats 4000000 in
set_option maxRecDepth 20000 in
theorem dots_b1_h39 :
    Reg.OpOK Try.prog (Reg.opsOf Try.f5 20) a0 w0 (dots_b1R vv aa gv gd ga m c ss) (fun _ _ _ _ => True) 39 := by
    refine Reg.op_no2 (fun af => { dst := some 118, op := Op.binOp BinOp.geq 3 (Operand.tmp 117) (Operand.const (Value.int IntKind.i64 1)) 3, type := 4, pos := "outright.go:87", after := af, guard := some (36, true) }) #[{ on := 38, ground := Ground.data }, { on := 36, ground := Ground.guard }] (by kernel_rfl) [38, 36] (by kernel_rfl) fun af v W hb hd => ?_
    have d36 : v 36 = (Value.bool false) := hd 36 (by decide)
    have e115 := (Reg.gfr_eval (ops := (Reg.opsOf Try.f5 20)) (a0 := a0) (v := v) (L := [38, 36]) 115 36 (by kernel_rfl) (by rw [hsz]; omega)).trans d36
    exact ⟨Reg.wanted_not rfl (by kernel_rfl) e115, rfl, fun _ _ _ _ => ⟨trivial, trivial⟩⟩
set_option maxHeartbeats 4000000 in
set_option maxRecDepth 20000 in
theorem dots_b1_h40 :
    Reg.OpOK Try.prog (Reg.opsOf Try.f5 20) a0 w0 (dots_b1R vv aa gv gd ga m c ss) (fun _ _ _ _ => True) 40 := by
    refine Reg.op_ok2 (fun af => { dst := some 119, op := Op.pick (Operand.tmp 115) (Operand.tmp 118) (Operand.const (Value.bool false)), type := 4, pos := "outright.go:87", after := af, guard := some (24, true) }) #[{ on := 36, ground := Ground.data }, { on := 39, ground := Ground.data }, { on := 24, ground := Ground.guard }] (by kernel_rfl) [36, 39, 24] (by kernel_rfl) fun af v W hb hd => ?_
    have d24 : v 24 = (Value.bool true) := hd 24 (by decide)
    have d36 : v 36 = (Value.bool false) := hd 36 (by decide)
    have d39 : v 39 = undef := hd 39 (by decide)
    have e115 := (Reg.gfr_eval (ops := (Reg.opsOf Try.f5 20)) (a0 := a0) (v := v) (L := [36, 39, 24]) 115 36 (by kernel_rfl) (by rw [hsz]; omega)).trans d36
    have e118 := (Reg.gfr_eval (ops := (Reg.opsOf Try.f5 20)) (a0 := a0) (v := v) (L := [36, 39, 24]) 118 39 (by kernel_rfl) (by rw [hsz]; omega)).trans d39
    have e103 := (Reg.gfr_eval (ops := (Reg.opsOf Try.f5 20)) (a0 := a0) (v := v) (L := [36, 39, 24]) 103 24 (by kernel_rfl) (by rw [hsz]; omega)).trans d24
    refine ⟨Reg.wanted_of rfl (by kernel_rfl) e103, ?_⟩
    have eC : ∀ x, (Reg.gfr (Reg.opsOf Try.f5 20) a0 v [36, 39, 24]).eval (.const x) = x := fun _ => rfl
    generalize Reg.gfr (Reg.opsOf Try.f5 20) a0 v [36, 39, 24] = G at e115 e118 eC ⊢
    generalize hρ : G.eval = ρ at e115 e118 eC
    have hρ' : G.eval = ρ := hρ
    refine Reg.go_run (Value.bool false) W ?_ ?_
    · rw [hρ']; simp [execOp, go_sem, e115, e118, eC]
    · exact ⟨Below.refl _ _, rfl⟩
set_option maxHeartbeats 4000000 in
set_option maxRecDepth 20000 in
theorem dots_b1_h41 :
    Reg.OpOK Try.prog (Reg.opsOf Try.f5 20) a0 w0 (dots_b1R vv aa gv gd ga m c ss) (fun _ _ _ _ => True) 41 := by
    refine Reg.op_ok2 (fun af => { dst := some 120, op := Op.move (Operand.tmp 119), type := 4, pos := "outright.go:87", after := af, guard := some (24, true) }) #[{ on := 40, ground := Ground.data }, { on := 36, ground := Ground.chain }, { on := 24, ground := Ground.guard }] (by kernel_rfl) [40, 36, 24] (by kernel_rfl) fun af v W hb hd => ?_
    have d24 : v 24 = (Value.bool true) := hd 24 (by decide)
    have d40 : v 40 = (Value.bool false) := hd 40 (by decide)
    have e119 := (Reg.gfr_eval (ops := (Reg.opsOf Try.f5 20)) (a0 := a0) (v := v) (L := [40, 36, 24]) 119 40 (by kernel_rfl) (by rw [hsz]; omega)).trans d40
    have e103 := (Reg.gfr_eval (ops := (Reg.opsOf Try.f5 20)) (a0 := a0) (v := v) (L := [40, 36, 24]) 103 24 (by kernel_rfl) (by rw [hsz]; omega)).trans d24
    refine ⟨Reg.wanted_of rfl (by kernel_rfl) e103, ?_⟩
    generalize Reg.gfr (Reg.opsOf Try.f5 20) a0 v [40, 36, 24] = G at e119 ⊢
    generalize hρ : G.eval = ρ at e119
    have hρ' : G.eval = ρ := hρ
    refine Reg.go_run (Value.bool false) W ?_ ?_
    · rw [hρ']; simp [execOp, go_sem, e119]
    · exact ⟨Below.refl _ _, rfl⟩
set_option maxHeartbeats 4000000 in
set_option maxRecDepth 20000 in
theorem dots_b1_h42 :
    Reg.OpOK Try.prog (Reg.opsOf Try.f5 20) a0 w0 (dots_b1R vv aa gv gd ga m c ss) (fun _ _ _ _ => True) 42 := by
    refine Reg.op_no2 (fun af => { dst := some 121, op := Op.fieldAddr 35 (Operand.tmp 5) 1, type := 0, pos := "outright.go:87", after := af, guard := some (41, true) }) #[{ on := 41, ground := Ground.guard }] (by kernel_rfl) [41] (by kernel_rfl) fun af v W hb hd => ?_
    have d41 : v 41 = (Value.bool false) := hd 41 (by decide)
    have e120 := (Reg.gfr_eval (ops := (Reg.opsOf Try.f5 20)) (a0 := a0) (v := v) (L := [41]) 120 41 (by kernel_rfl) (by rw [hsz]; omega)).trans d41
    exact ⟨Reg.wanted_not rfl (by kernel_rfl) e120, rfl, fun _ _ _ _ => ⟨trivial, trivial⟩⟩
set_option maxHeartbeats 4000000 in
set_option maxRecDepth 20000 in
theorem dots_b1_h43 :
    Reg.OpOK Try.prog (Reg.opsOf Try.f5 20) a0 w0 (dots_b1R vv aa gv gd ga m c ss) (fun _ _ _ _ => True) 43 := by
    refine Reg.op_no2 (fun af => { dst := some 122, op := Op.load 3 (Operand.tmp 121), type := 3, pos := "outright.go:87", after := af, guard := some (41, true) }) #[{ on := 42, ground := Ground.data }, { on := 41, ground := Ground.guard }] (by kernel_rfl) [42, 41] (by kernel_rfl) fun af v W hb hd => ?_
    have d41 : v 41 = (Value.bool false) := hd 41 (by decide)
    have e120 := (Reg.gfr_eval (ops := (Reg.opsOf Try.f5 20)) (a0 := a0) (v := v) (L := [42, 41]) 120 41 (by kernel_rfl) (by rw [hsz]; omega)).trans d41
    exact ⟨Reg.wanted_not rfl (by kernel_rfl) e120, rfl, fun _ _ _ _ => ⟨trivial, trivial⟩⟩
set_option maxHeartbeats 4000000 in
set_option maxRecDepth 20000 in
theorem dots_b1_h44 :
    Reg.OpOK Try.prog (Reg.opsOf Try.f5 20) a0 w0 (dots_b1R vv aa gv gd ga m c ss) (fun _ _ _ _ => True) 44 := by
    refine Reg.op_no2 (fun af => { dst := some 123, op := Op.fieldAddr 35 (Operand.tmp 5) 0, type := 0, pos := "outright.go:87", after := af, guard := some (41, true) }) #[{ on := 41, ground := Ground.guard }] (by kernel_rfl) [41] (by kernel_rfl) fun af v W hb hd => ?_
    have d41 : v 41 = (Value.bool false) := hd 41 (by decide)
    have e120 := (Reg.gfr_eval (ops := (Reg.opsOf Try.f5 20)) (a0 := a0) (v := v) (L := [41]) 120 41 (by kernel_rfl) (by rw [hsz]; omega)).trans d41
    exact ⟨Reg.wanted_not rfl (by kernel_rfl) e120, rfl, fun _ _ _ _ => ⟨trivial, trivial⟩⟩
set_option maxHeartbeats 4000000 in
set_option maxRecDepth 20000 in
theorem dots_b1_h45 :
    Reg.OpOK Try.prog (Reg.opsOf Try.f5 20) a0 w0 (dots_b1R vv aa gv gd ga m c ss) (fun _ _ _ _ => True) 45 := by
    refine Reg.op_no2 (fun af => { dst := some 124, op := Op.load 3 (Operand.tmp 123), type := 3, pos := "outright.go:87", after := af, guard := some (41, true) }) #[{ on := 44, ground := Ground.data }, { on := 41, ground := Ground.guard }] (by kernel_rfl) [44, 41] (by kernel_rfl) fun af v W hb hd => ?_
    have d41 : v 41 = (Value.bool false) := hd 41 (by decide)
    have e120 := (Reg.gfr_eval (ops := (Reg.opsOf Try.f5 20)) (a0 := a0) (v := v) (L := [44, 41]) 120 41 (by kernel_rfl) (by rw [hsz]; omega)).trans d41
    exact ⟨Reg.wanted_not rfl (by kernel_rfl) e120, rfl, fun _ _ _ _ => ⟨trivial, trivial⟩⟩
set_option maxHeartbeats 4000000 in
set_option maxRecDepth 20000 in
theorem dots_b1_h46 :
    Reg.OpOK Try.prog (Reg.opsOf Try.f5 20) a0 w0 (dots_b1R vv aa gv gd ga m c ss) (fun _ _ _ _ => True) 46 := by
    refine Reg.op_no2 (fun af => { dst := some 125, op := Op.binOp BinOp.rem 3 (Operand.tmp 124) (Operand.const (Value.int IntKind.i64 16)) 3, type := 3, pos := "outright.go:87", after := af, guard := some (41, true) }) #[{ on := 45, ground := Ground.data }, { on := 41, ground := Ground.guard }] (by kernel_rfl) [45, 41] (by kernel_rfl) fun af v W hb hd => ?_
    have d41 : v 41 = (Value.bool false) := hd 41 (by decide)
    have e120 := (Reg.gfr_eval (ops := (Reg.opsOf Try.f5 20)) (a0 := a0) (v := v) (L := [45, 41]) 120 41 (by kernel_rfl) (by rw [hsz]; omega)).trans d41
    exact ⟨Reg.wanted_not rfl (by kernel_rfl) e120, rfl, fun _ _ _ _ => ⟨trivial, trivial⟩⟩
set_option maxHeartbeats 4000000 in
set_option maxRecDepth 20000 in
theorem dots_b1_h47 :
    Reg.OpOK Try.prog (Reg.opsOf Try.f5 20) a0 w0 (dots_b1R vv aa gv gd ga m c ss) (fun _ _ _ _ => True) 47 := by
    refine Reg.op_no2 (fun af => { dst := some 126, op := Op.binOp BinOp.add 3 (Operand.tmp 125) (Operand.const (Value.int IntKind.i64 16)) 3, type := 3, pos := "outright.go:87", after := af, guard := some (41, true) }) #[{ on := 46, ground := Ground.data }, { on := 41, ground := Ground.guard }] (by kernel_rfl) [46, 41] (by kernel_rfl) fun af v W hb hd => ?_
    have d41 : v 41 = (Value.bool false) := hd 41 (by decide)
    have e120 := (Reg.gfr_eval (ops := (Reg.opsOf Try.f5 20)) (a0 := a0) (v := v) (L := [46, 41]) 120 41 (by kernel_rfl) (by rw [hsz]; omega)).trans d41
    exact ⟨Reg.wanted_not rfl (by kernel_rfl) e120, rfl, fun _ _ _ _ => ⟨trivial, trivial⟩⟩
set_option maxHeartbeats 4000000 in
set_option maxRecDepth 20000 in
theorem dots_b1_h48 :
    Reg.OpOK Try.prog (Reg.opsOf Try.f5 20) a0 w0 (dots_b1R vv aa gv gd ga m c ss) (fun _ _ _ _ => True) 48 := by
    refine Reg.op_no2 (fun af => { dst := some 127, op := Op.binOp BinOp.rem 3 (Operand.tmp 126) (Operand.const (Value.int IntKind.i64 16)) 3, type := 3, pos := "outright.go:87", after := af, guard := some (41, true) }) #[{ on := 47, ground := Ground.data }, { on := 41, ground := Ground.guard }] (by kernel_rfl) [47, 41] (by kernel_rfl) fun af v W hb hd => ?_
    have d41 : v 41 = (Value.bool false) := hd 41 (by decide)
    have e120 := (Reg.gfr_eval (ops := (Reg.opsOf Try.f5 20)) (a0 := a0) (v := v) (L := [47, 41]) 120 41 (by kernel_rfl) (by rw [hsz]; omega)).trans d41
    exact ⟨Reg.wanted_not rfl (by kernel_rfl) e120, rfl, fun _ _ _ _ => ⟨trivial, trivial⟩⟩
set_option maxHeartbeats 4000000 in
set_option maxRecDepth 20000 in
theorem dots_b1_h49 :
    Reg.OpOK Try.prog (Reg.opsOf Try.f5 20) a0 w0 (dots_b1R vv aa gv gd ga m c ss) (fun _ _ _ _ => True) 49 := by
    refine Reg.op_no2 (fun af => { dst := some 128, op := Op.indexAddr 24 (Operand.tmp 8) (Operand.tmp 127), type := 0, pos := "outright.go:87", after := af, guard := some (41, true) }) #[{ on := 48, ground := Ground.data }, { on := 41, ground := Ground.guard }] (by kernel_rfl) [48, 41] (by kernel_rfl) fun af v W hb hd => ?_
    have d41 : v 41 = (Value.bool false) := hd 41 (by decide)
    have e120 := (Reg.gfr_eval (ops := (Reg.opsOf Try.f5 20)) (a0 := a0) (v := v) (L := [48, 41]) 120 41 (by kernel_rfl) (by rw [hsz]; omega)).trans d41
    exact ⟨Reg.wanted_not rfl (by kernel_rfl) e120, rfl, fun _ _ _ _ => ⟨trivial, trivial⟩⟩
set_option maxHeartbeats 4000000 in
set_option maxRecDepth 20000 in
theorem dots_b1_h50 :
    Reg.OpOK Try.prog (Reg.opsOf Try.f5 20) a0 w0 (dots_b1R vv aa gv gd ga m c ss) (fun _ _ _ _ => True) 50 := by
    refine Reg.op_no2 (fun af => { dst := some 129, op := Op.load 22 (Operand.tmp 128), type := 22, pos := "outright.go:87", after := af, guard := some (41, true) }) #[{ on := 49, ground := Ground.data }, { on := 41, ground := Ground.guard }] (by kernel_rfl) [49, 41] (by kernel_rfl) fun af v W hb hd => ?_
    have d41 : v 41 = (Value.bool false) := hd 41 (by decide)
    have e120 := (Reg.gfr_eval (ops := (Reg.opsOf Try.f5 20)) (a0 := a0) (v := v) (L := [49, 41]) 120 41 (by kernel_rfl) (by rw [hsz]; omega)).trans d41
    exact ⟨Reg.wanted_not rfl (by kernel_rfl) e120, rfl, fun _ _ _ _ => ⟨trivial, trivial⟩⟩
set_option maxHeartbeats 4000000 in
set_option maxRecDepth 20000 in
theorem dots_b1_h51 :
    Reg.OpOK Try.prog (Reg.opsOf Try.f5 20) a0 w0 (dots_b1R vv aa gv gd ga m c ss) (fun _ _ _ _ => True) 51 := by
    refine Reg.op_no2 (fun af => { dst := some 130, op := Op.convert 22 3 (Operand.tmp 129), type := 3, pos := "outright.go:87", after := af, guard := some (41, true) }) #[{ on := 50, ground := Ground.data }, { on := 41, ground := Ground.guard }] (by kernel_rfl) [50, 41] (by kernel_rfl) fun af v W hb hd => ?_
    have d41 : v 41 = (Value.bool false) := hd 41 (by decide)
    have e120 := (Reg.gfr_eval (ops := (Reg.opsOf Try.f5 20)) (a0 := a0) (v := v) (L := [50, 41]) 120 41 (by kernel_rfl) (by rw [hsz]; omega)).trans d41
    exact ⟨Reg.wanted_not rfl (by kernel_rfl) e120, rfl, fun _ _ _ _ => ⟨trivial, trivial⟩⟩
set_option maxHeartbeats 4000000 in
set_option maxRecDepth 20000 in
theorem dots_b1_h52 :
    Reg.OpOK Try.prog (Reg.opsOf Try.f5 20) a0 w0 (dots_b1R vv aa gv gd ga m c ss) (fun _ _ _ _ => True) 52 := by
    refine Reg.op_no2 (fun af => { dst := some 131, op := Op.binOp BinOp.leq 3 (Operand.tmp 122) (Operand.tmp 130) 3, type := 4, pos := "outright.go:87", after := af, guard := some (41, true) }) #[{ on := 43, ground := Ground.data }, { on := 51, ground := Ground.data }, { on := 41, ground := Ground.guard }] (by kernel_rfl) [43, 51, 41] (by kernel_rfl) fun af v W hb hd => ?_
    have d41 : v 41 = (Value.bool false) := hd 41 (by decide)
    have e120 := (Reg.gfr_eval (ops := (Reg.opsOf Try.f5 20)) (a0 := a0) (v := v) (L := [43, 51, 41]) 120 41 (by kernel_rfl) (by rw [hsz]; omega)).trans d41
    exact ⟨Reg.wanted_not rfl (by kernel_rfl) e120, rfl, fun _ _ _ _ => ⟨trivial, trivial⟩⟩
set_option maxHeartbeats 4000000 in
set_option maxRecDepth 20000 in
theorem dots_b1_h53 :
    Reg.OpOK Try.prog (Reg.opsOf Try.f5 20) a0 w0 (dots_b1R vv aa gv gd ga m c ss) (fun _ _ _ _ => True) 53 := by
    refine Reg.op_ok2 (fun af => { dst := some 132, op := Op.pick (Operand.tmp 120) (Operand.tmp 131) (Operand.const (Value.bool false)), type := 4, pos := "outright.go:87", after := af, guard := some (24, true) }) #[{ on := 41, ground := Ground.data }, { on := 52, ground := Ground.data }, { on := 24, ground := Ground.guard }] (by kernel_rfl) [41, 52, 24] (by kernel_rfl) fun af v W hb hd => ?_
    have d24 : v 24 = (Value.bool true) := hd 24 (by decide)
    have d41 : v 41 = (Value.bool false) := hd 41 (by decide)
    have d52 : v 52 = undef := hd 52 (by decide)
    have e120 := (Reg.gfr_eval (ops := (Reg.opsOf Try.f5 20)) (a0 := a0) (v := v) (L := [41, 52, 24]) 120 41 (by kernel_rfl) (by rw [hsz]; omega)).trans d41
    have e131 := (Reg.gfr_eval (ops := (Reg.opsOf Try.f5 20)) (a0 := a0) (v := v) (L := [41, 52, 24]) 131 52 (by kernel_rfl) (by rw [hsz]; omega)).trans d52
    have e103 := (Reg.gfr_eval (ops := (Reg.opsOf Try.f5 20)) (a0 := a0) (v := v) (L := [41, 52, 24]) 103 24 (by kernel_rfl) (by rw [hsz]; omega)).trans d24
    refine ⟨Reg.wanted_of rfl (by kernel_rfl) e103, ?_⟩
    have eC : ∀ x, (Reg.gfr (Reg.opsOf Try.f5 20) a0 v [41, 52, 24]).eval (.const x) = x := fun _ => rfl
    generalize Reg.gfr (Reg.opsOf Try.f5 20) a0 v [41, 52, 24] = G at e120 e131 eC ⊢
    generalize hρ : G.eval = ρ at e120 e131 eC
    have hρ' : G.eval = ρ := hρ
    refine Reg.go_run (Value.bool false) W ?_ ?_
    · rw [hρ']; simp [execOp, go_sem, e120, e131, eC]
    · exact ⟨Below.refl _ _, rfl⟩
set_option maxHeartbeats 4000000 in
set_option maxRecDepth 20000 in
theorem dots_b1_h54 :
    Reg.OpOK Try.prog (Reg.opsOf Try.f5 20) a0 w0 (dots_b1R vv aa gv gd ga m c ss) (fun _ _ _ _ => True) 54 := by
    refine Reg.op_ok2 (fun af => { dst := some 133, op := Op.binOp BinOp.eql 4 (Operand.tmp 106) (Operand.tmp 132) 4, type := 4, pos := "outright.go:87", after := af, guard := some (24, true) }) #[{ on := 27, ground := Ground.data }, { on := 53, ground := Ground.data }, { on := 24, ground := Ground.guard }] (by kernel_rfl) [27, 53, 24] (by kernel_rfl) fun af v W hb hd => ?_
    have d24 : v 24 = (Value.bool true) := hd 24 (by decide)
    have d27 : v 27 = (Value.bool false) := hd 27 (by decide)
    have d53 : v 53 = (Value.bool false) := hd 53 (by decide)
    have e106 := (Reg.gfr_eval (ops := (Reg.opsOf Try.f5 20)) (a0 := a0) (v := v) (L := [27, 53, 24]) 106 27 (by kernel_rfl) (by rw [hsz]; omega)).trans d27
    have e132 := (Reg.gfr_eval (ops := (Reg.opsOf Try.f5 20)) (a0 := a0) (v := v) (L := [27, 53, 24]) 132 53 (by kernel_rfl) (by rw [hsz]; omega)).trans d53
    have e103 := (Reg.gfr_eval (ops := (Reg.opsOf Try.f5 20)) (a0 := a0) (v := v) (L := [27, 53, 24]) 103 24 (by kernel_rfl) (by rw [hsz]; omega)).trans d24
    refine ⟨Reg.wanted_of rfl (by kernel_rfl) e103, ?_⟩
    generalize Reg.gfr (Reg.opsOf Try.f5 20) a0 v [27, 53, 24] = G at e106 e132 ⊢
    generalize hρ : G.eval = ρ at e106 e132
    have hρ' : G.eval = ρ := hρ
    refine Reg.go_run (Value.bool true) W ?_ ?_
    · rw [hρ']; simp [execOp, go_sem, e106, e132]
    · exact ⟨Below.refl _ _, rfl⟩
set_option maxHeartbeats 4000000 in
set_option maxRecDepth 20000 in
theorem dots_b1_h55 :
    Reg.OpOK Try.prog (Reg.opsOf Try.f5 20) a0 w0 (dots_b1R vv aa gv gd ga m c ss) (fun _ _ _ _ => True) 55 := by
    refine Reg.op_ok2 (fun af => { dst := some 134, op := Op.pick (Operand.tmp 103) (Operand.tmp 133) (Operand.const (Value.bool false)), type := 4, pos := "outright.go:87", after := af, guard := none }) #[{ on := 24, ground := Ground.data }, { on := 54, ground := Ground.data }] (by kernel_rfl) [24, 54] (by kernel_rfl) fun af v W hb hd => ?_
    have d24 : v 24 = (Value.bool true) := hd 24 (by decide)
    have d54 : v 54 = (Value.bool true) := hd 54 (by decide)
    have e103 := (Reg.gfr_eval (ops := (Reg.opsOf Try.f5 20)) (a0 := a0) (v := v) (L := [24, 54]) 103 24 (by kernel_rfl) (by rw [hsz]; omega)).trans d24
    have e133 := (Reg.gfr_eval (ops := (Reg.opsOf Try.f5 20)) (a0 := a0) (v := v) (L := [24, 54]) 133 54 (by kernel_rfl) (by rw [hsz]; omega)).trans d54
    refine ⟨Reg.wanted_none rfl, ?_⟩
    have eC : ∀ x, (Reg.gfr (Reg.opsOf Try.f5 20) a0 v [24, 54]).eval (.const x) = x := fun _ => rfl
    generalize Reg.gfr (Reg.opsOf Try.f5 20) a0 v [24, 54] = G at e103 e133 eC ⊢
    generalize hρ : G.eval = ρ at e103 e133 eC
    have hρ' : G.eval = ρ := hρ
    refine Reg.go_run (Value.bool true) W ?_ ?_
    · rw [hρ']; simp [execOp, go_sem, e103, e133, eC]
    · exact ⟨Below.refl _ _, rfl⟩
set_option maxHeartbeats 4000000 in
set_option maxRecDepth 20000 in
theorem dots_b1_h56 :
    Reg.OpOK Try.prog (Reg.opsOf Try.f5 20) a0 w0 (dots_b1R vv aa gv gd ga m c ss) (fun _ _ _ _ => True) 56 := by
    refine Reg.op_ok2 (fun af => { dst := some 6, op := Op.assign (Operand.tmp 134), type := 4, pos := "outright.go:87", after := af, guard := none }) #[{ on := 55, ground := Ground.data }, { on := 41, ground := Ground.chain }, { on := 0, ground := Ground.phase }, { on := 1, ground := Ground.phase }, { on := 2, ground := Ground.phase }, { on := 3, ground := Ground.phase }, { on := 4, ground := Ground.phase }, { on := 5, ground := Ground.phase }, { on := 6, ground := Ground.phase }, { on := 7, ground := Ground.phase }, { on := 8, ground := Ground.phase }, { on := 9, ground := Ground.phase }, { on := 10, ground := Ground.phase }, { on := 11, ground := Ground.phase }, { on := 12, ground := Ground.phase }, { on := 13, ground := Ground.phase }, { on := 14, ground := Ground.phase }, { on := 15, ground := Ground.phase }, { on := 16, ground := Ground.phase }, { on := 17, ground := Ground.phase }, { on := 18, ground := Ground.phase }, { on := 19, ground := Ground.phase }, { on := 20, ground := Ground.phase }, { on := 21, ground := Ground.phase }, { on := 22, ground := Ground.phase }, { on := 23, ground := Ground.phase }, { on := 24, ground := Ground.phase }, { on := 25, ground := Ground.phase }, { on := 26, ground := Ground.phase }, { on := 27, ground := Ground.phase }, { on := 28, ground := Ground.phase }, { on := 29, ground := Ground.phase }, { on := 30, ground := Ground.phase }, { on := 31, ground := Ground.phase }, { on := 32, ground := Ground.phase }, { on := 33, ground := Ground.phase }, { on := 34, ground := Ground.phase }, { on := 35, ground := Ground.phase }, { on := 36, ground := Ground.phase }, { on := 37, ground := Ground.phase }, { on := 38, ground := Ground.phase }, { on := 39, ground := Ground.phase }, { on := 40, ground := Ground.phase }, { on := 41, ground := Ground.phase }, { on := 42, ground := Ground.phase }, { on := 43, ground := Ground.phase }, { on := 44, ground := Ground.phase }, { on := 45, ground := Ground.phase }, { on := 46, ground := Ground.phase }, { on := 47, ground := Ground.phase }, { on := 48, ground := Ground.phase }, { on := 49, ground := Ground.phase }, { on := 50, ground := Ground.phase }, { on := 51, ground := Ground.phase }, { on := 52, ground := Ground.phase }, { on := 53, ground := Ground.phase }, { on := 54, ground := Ground.phase }, { on := 55, ground := Ground.phase }] (by kernel_rfl) [55, 41, 0, 1, 2, 3, 4, 5, 6, 7, 8, 9, 10, 11, 12, 13, 14, 15, 16, 17, 18, 19, 20, 21, 22, 23, 24, 25, 26, 27, 28, 29, 30, 31, 32, 33, 34, 35, 36, 37, 38, 39, 40, 41, 42, 43, 44, 45, 46, 47, 48, 49, 50, 51, 52, 53, 54, 55] (by kernel_rfl) fun af v W hb hd => ?_
    have d55 : v 55 = (Value.bool true) := hd 55 (by decide)
    have e134 := (Reg.gfr_eval (ops := (Reg.opsOf Try.f5 20)) (a0 := a0) (v := v) (L := [55, 41, 0, 1, 2, 3, 4, 5, 6, 7, 8, 9, 10, 11, 12, 13, 14, 15, 16, 17, 18, 19, 20, 21, 22, 23, 24, 25, 26, 27, 28, 29, 30, 31, 32, 33, 34, 35, 36, 37, 38, 39, 40, 41, 42, 43, 44, 45, 46, 47, 48, 49, 50, 51, 52, 53, 54, 55]) 134 55 (by kernel_rfl) (by rw [hsz]; omega)).trans d55
    refine ⟨Reg.wanted_none rfl, ?_⟩
    generalize Reg.gfr (Reg.opsOf Try.f5 20) a0 v [55, 41, 0, 1, 2, 3, 4, 5, 6, 7, 8, 9, 10, 11, 12, 13, 14, 15, 16, 17, 18, 19, 20, 21, 22, 23, 24, 25, 26, 27, 28, 29, 30, 31, 32, 33, 34, 35, 36, 37, 38, 39, 40, 41, 42, 43, 44, 45, 46, 47, 48, 49, 50, 51, 52, 53, 54, 55] = G at e134 ⊢
    generalize hρ : G.eval = ρ at e134
    have hρ' : G.eval = ρ := hρ
    refine Reg.go_run (Value.bool true) W ?_ ?_
    · rw [hρ']; simp [execOp, go_sem, e134]
    · exact ⟨Below.refl _ _, rfl⟩
end
set_option maxHeartbeats 4000000 in
set_option maxRecDepth 20000 in
theorem dots_b1 (vv aa : List Nat) (gv gd ga m : Nat) (c : Int) (ss : Int) (w0 : World) {s0 s1 s2 s4 s6 s10 s11 s12 s13 s14 s15 s17 s18 s19 s20 s21 s22 s23 s24 s25 s26 s27 s28 s29 s30 s31 s32 s33 s34 s35 s36 s37 s38 s39 s40 s41 s42 s43 s44 s45 s46 s47 s48 s49 s50 s51 s52 s53 s54 s55 s56 s57 s58 s59 s60 s61 s62 s63 s64 s65 s66 s67 s68 s69 s70 s71 s72 s73 s74 s75 s76 s77 s78 s79 s80 s81 s82 s83 s84 s85 s86 s87 s88 s89 s90 s91 s92 s93 s94 s95 s96 s97 s98 s99 s100 s101 s102 s103 s104 s105 s106 s107 s108 s109 s110 s111 s112 s113 s114 s115 s116 s117 s118 s119 s120 s121 s122 s123 s124 s125 s126 s127 s128 s129 s130 s131 s132 s133 s134 : Value}
    (hv : vv.length = 16) (ha : aa.length = 16) (sv : small vv) (sa : small aa) (mw : IntKind.u64.wrap (m : Int) = m) (l1 : lackV vv aa = m) (l2 : lackV aa vv = 0) (fh : hasV aa ss c = false)
    (k1 : ((0 : Int) ≤ ss) = False)
    (M_gv : ∀ W, Below w0.heap.size w0 W → W.heap[gv]? = some (.cells (vC vv) 24 (0, 0)))
    (M_ga : ∀ W, Below w0.heap.size w0 W → W.heap[ga]? = some (.cells (vC aa) 24 (0, 0)))
    (M_gd : ∀ W, Below w0.heap.size w0 W → W.heap[gd]? = some (.cells (dC ss c) 35 (0, 0)))
    (CD0 : ∀ W, Below w0.heap.size w0 W → W.cell? ⟨gd, 0, none⟩ = some (Value.int IntKind.i64 ss))
    (CD1 : ∀ W, Below w0.heap.size w0 W → W.cell? ⟨gd, 1, none⟩ = some (Value.int IntKind.i64 c))
    {Q : Exit → Act → World → Prop}
    (hend : ∀ (w : World), Below w0.heap.size w0 w → Q .normal { tmps := #[s0, s1, s2, (Value.pointer (some ⟨gv, 0, none⟩)), s4, (Value.pointer (some ⟨gd, 0, none⟩)), (Value.bool true), (Value.bool true), (Value.pointer (some ⟨ga, 0, none⟩)), (Value.int IntKind.i64 (m : Int)), s10, s11, s12, s13, s14, s15, (Value.bool false), s17, s18, s19, s20, s21, s22, s23, s24, s25, s26, s27, s28, s29, s30, s31, s32, s33, s34, s35, s36, s37, s38, s39, s40, s41, s42, s43, s44, s45, s46, s47, s48, s49, s50, s51, s52, s53, s54, s55, s56, s57, s58, s59, s60, s61, s62, s63, s64, s65, s66, s67, s68, s69, s70, s71, s72, s73, s74, s75, s76, s77, s78, (Value.bool true), (Value.bool true), (Value.agg (vC vv)), (Value.agg (vC aa)), (Value.int IntKind.u64 (m : Int)), (Value.int IntKind.i64 (m : Int)), (Value.int IntKind.u64 (m : Int)), (Value.bool true), (Value.bool true), (Value.bool true), (Value.agg (vC aa)), (Value.agg (vC vv)), (Value.int IntKind.u64 0), (Value.bool true), (Value.bool true), (Value.bool true), (Value.bool false), (Value.bool true), (Value.bool true), undef, undef, undef, (Value.bool true), (Value.bool true), (Value.bool true), (Value.agg (vC aa)), (Value.agg (dC ss c)), (Value.bool false), (Value.pointer (some ⟨gd, 0, none⟩)), (Value.int IntKind.i64 ss), (Value.bool false), (Value.bool false), undef, undef, undef, (Value.bool false), (Value.bool false), undef, undef, undef, (Value.bool false), (Value.bool false), undef, undef, undef, undef, undef, undef, undef, undef, undef, undef, undef, (Value.bool false), (Value.bool true), (Value.bool true)], defers := [] } w) :
    (Code.region 20 (Reg.opsOf Try.f5 20) true).wp Try.prog Q { tmps := #[s0, s1, s2, (Value.pointer (some ⟨gv, 0, none⟩)), s4, (Value.pointer (some ⟨gd, 0, none⟩)), s6, (Value.bool true), (Value.pointer (some ⟨ga, 0, none⟩)), (Value.int IntKind.i64 (m : Int)), s10, s11, s12, s13, s14, s15, (Value.bool false), s17, s18, s19, s20, s21, s22, s23, s24, s25, s26, s27, s28, s29, s30, s31, s32, s33, s34, s35, s36, s37, s38, s39, s40, s41, s42, s43, s44, s45, s46, s47, s48, s49, s50, s51, s52, s53, s54, s55, s56, s57, s58, s59, s60, s61, s62, s63, s64, s65, s66, s67, s68, s69, s70, s71, s72, s73, s74, s75, s76, s77, s78, s79, s80, s81, s82, s83, s84, s85, s86, s87, s88, s89, s90, s91, s92, s93, s94, s95, s96, s97, s98, s99, s100, s101, s102, s103, s104, s105, s106, s107, s108, s109, s110, s111, s112, s113, s114, s115, s116, s117, s118, s119, s120, s121, s122, s123, s124, s125, s126, s127, s128, s129, s130, s131, s132, s133, s134], defers := [] } w0 := by
  obtain ⟨a0, ha0⟩ : ∃ a0 : Act, a0 = { tmps := #[s0, s1, s2, (Value.pointer (some ⟨gv, 0, none⟩)), s4, (Value.pointer (some ⟨gd, 0, none⟩)), s6, (Value.bool true), (Value.pointer (some ⟨ga, 0, none⟩)), (Value.int IntKind.i64 (m : Int)), s10, s11, s12, s13, s14, s15, (Value.bool false), s17, s18, s19, s20, s21, s22, s23, s24, s25, s26, s27, s28, s29, s30, s31, s32, s33, s34, s35, s36, s37, s38, s39, s40, s41, s42, s43, s44, s45, s46, s47, s48, s49, s50, s51, s52, s53, s54, s55, s56, s57, s58, s59, s60, s61, s62, s63, s64, s65, s66, s67, s68, s69, s70, s71, s72, s73, s74, s75, s76, s77, s78, s79, s80, s81, s82, s83, s84, s85, s86, s87, s88, s89, s90, s91, s92, s93, s94, s95, s96, s97, s98, s99, s100, s101, s102, s103, s104, s105, s106, s107, s108, s109, s110, s111, s112, s113, s114, s115, s116, s117, s118, s119, s120, s121, s122, s123, s124, s125, s126, s127, s128, s129, s130, s131, s132, s133, s134], defers := [] } := ⟨_, rfl⟩
  have hfin : ∀ v : Nat → Value, Reg.gfr (Reg.opsOf Try.f5 20) a0 v (List.range 57) = { tmps := #[s0, s1, s2, (Value.pointer (some ⟨gv, 0, none⟩)), s4, (Value.pointer (some ⟨gd, 0, none⟩)), v 56, (Value.bool true), (Value.pointer (some ⟨ga, 0, none⟩)), (Value.int IntKind.i64 (m : Int)), s10, s11, s12, s13, s14, s15, (Value.bool false), s17, s18, s19, s20, s21, s22, s23, s24, s25, s26, s27, s28, s29, s30, s31, s32, s33, s34, s35, s36, s37, s38, s39, s40, s41, s42, s43, s44, s45, s46, s47, s48, s49, s50, s51, s52, s53, s54, s55, s56, s57, s58, s59, s60, s61, s62, s63, s64, s65, s66, s67, s68, s69, s70, s71, s72, s73, s74, s75, s76, s77, s78, v 0, v 1, v 2, v 3, v 4, v 5, v 6, v 7, v 8, v 9, v 10, v 11, v 12, v 13, v 14, v 15, v 16, v 17, v 18, v 19, v 20, v 21, v 22, v 23, v 24, v 25, v 26, v 27, v 28, v 29, v 30, v 31, v 32, v 33, v 34, v 35, v 36, v 37, v 38, v 39, v 40, v 41, v 42, v 43, v 44, v 45, v 46, v 47, v 48, v 49, v 50, v 51, v 52, v 53, v 54, v 55], defers := [] } := fun v => by rw [ha0]; kernel_rfl
  rw [← ha0]
  have i3 : a0.eval (.tmp 3) = (Value.pointer (some ⟨gv, 0, none⟩)) := by rw [ha0]; rfl
  have i5 : a0.eval (.tmp 5) = (Value.pointer (some ⟨gd, 0, none⟩)) := by rw [ha0]; rfl
  have i7 : a0.eval (.tmp 7) = (Value.bool true) := by rw [ha0]; rfl
  have i8 : a0.eval (.tmp 8) = (Value.pointer (some ⟨ga, 0, none⟩)) := by rw [ha0]; rfl
  have i9 : a0.eval (.tmp 9) = (Value.int IntKind.i64 (m : Int)) := by rw [ha0]; rfl
  have i16 : a0.eval (.tmp 16) = (Value.bool false) := by rw [ha0]; rfl
  have hsz : a0.tmps.size = 135 := by rw [ha0]; rfl
  clear ha0
  have hn : (Reg.opsOf Try.f5 20).size = 57 := by kernel_rfl
  have h0 := dots_b1_h0 vv aa gv gd ga m c ss w0 a0 hv ha sv sa mw l1 l2 fh k1 M_gv M_ga M_gd CD0 CD1 i3 i5 i7 i8 i9 i16 hsz
  have h1 := dots_b1_h1 vv aa gv gd ga m c ss w0 a0 hv ha sv sa mw l1 l2 fh k1 M_gv M_ga M_gd CD0 CD1 i3 i5 i7 i8 i9 i16 hsz
  have h2 := dots_b1_h2 vv aa gv gd ga m c ss w0 a0 hv ha sv sa mw l1 l2 fh k1 M_gv M_ga M_gd CD0 CD1 i3 i5 i7 i8 i9 i16 hsz
  have h3 := dots_b1_h3 vv aa gv gd ga m c ss w0 a0 hv ha sv sa mw l1 l2 fh k1 M_gv M_ga M_gd CD0 CD1 i3 i5 i7 i8 i9 i16 hsz
  have h4 := dots_b1_h4 vv aa gv gd ga m c ss w0 a0 hv ha sv sa mw l1 l2 fh k1 M_gv M_ga M_gd CD0 CD1 i3 i5 i7 i8 i9 i16 hsz
  have h5 := dots_b1_h5 vv aa gv gd ga m c ss w0 a0 hv ha sv sa mw l1 l2 fh k1 M_gv M_ga M_gd CD0 CD1 i3 i5 i7 i8 i9 i16 hsz
  have h6 := dots_b1_h6 vv aa gv gd ga m c ss w0 a0 hv ha sv sa mw l1 l2 fh k1 M_gv M_ga M_gd CD0 CD1 i3 i5 i7 i8 i9 i16 hsz
  have h7 := dots_b1_h7 vv aa gv gd ga m c ss w0 a0 hv ha sv sa mw l1 l2 fh k1 M_gv M_ga M_gd CD0 CD1 i3 i5 i7 i8 i9 i16 hsz
  have h8 := dots_b1_h8 vv aa gv gd ga m c ss w0 a0 hv ha sv sa mw l1 l2 fh k1 M_gv M_ga M_gd CD0 CD1 i3 i5 i7 i8 i9 i16 hsz
  have h9 := dots_b1_h9 vv aa gv gd ga m c ss w0 a0 hv ha sv sa mw l1 l2 fh k1 M_gv M_ga M_gd CD0 CD1 i3 i5 i7 i8 i9 i16 hsz
  have h10 := dots_b1_h10 vv aa gv gd ga m c ss w0 a0 hv ha sv sa mw l1 l2 fh k1 M_gv M_ga M_gd CD0 CD1 i3 i5 i7 i8 i9 i16 hsz
  have h11 := dots_b1_h11 vv aa gv gd ga m c ss w0 a0 hv ha sv sa mw l1 l2 fh k1 M_gv M_ga M_gd CD0 CD1 i3 i5 i7 i8 i9 i16 hsz
  have h12 := dots_b1_h12 vv aa gv gd ga m c ss w0 a0 hv ha sv sa mw l1 l2 fh k1 M_gv M_ga M_gd CD0 CD1 i3 i5 i7 i8 i9 i16 hsz
  have h13 := dots_b1_h13 vv aa gv gd ga m c ss w0 a0 hv ha sv sa mw l1 l2 fh k1 M_gv M_ga M_gd CD0 CD1 i3 i5 i7 i8 i9 i16 hsz
  have h14 := dots_b1_h14 vv aa gv gd ga m c ss w0 a0 hv ha sv sa mw l1 l2 fh k1 M_gv M_ga M_gd CD0 CD1 i3 i5 i7 i8 i9 i16 hsz
  have h15 := dots_b1_h15 vv aa gv gd ga m c ss w0 a0 hv ha sv sa mw l1 l2 fh k1 M_gv M_ga M_gd CD0 CD1 i3 i5 i7 i8 i9 i16 hsz
  have h16 := dots_b1_h16 vv aa gv gd ga m c ss w0 a0 hv ha sv sa mw l1 l2 fh k1 M_gv M_ga M_gd CD0 CD1 i3 i5 i7 i8 i9 i16 hsz
  have h17 := dots_b1_h17 vv aa gv gd ga m c ss w0 a0 hv ha sv sa mw l1 l2 fh k1 M_gv M_ga M_gd CD0 CD1 i3 i5 i7 i8 i9 i16 hsz
  have h18 := dots_b1_h18 vv aa gv gd ga m c ss w0 a0 hv ha sv sa mw l1 l2 fh k1 M_gv M_ga M_gd CD0 CD1 i3 i5 i7 i8 i9 i16 hsz
  have h19 := dots_b1_h19 vv aa gv gd ga m c ss w0 a0 hv ha sv sa mw l1 l2 fh k1 M_gv M_ga M_gd CD0 CD1 i3 i5 i7 i8 i9 i16 hsz
  have h20 := dots_b1_h20 vv aa gv gd ga m c ss w0 a0 hv ha sv sa mw l1 l2 fh k1 M_gv M_ga M_gd CD0 CD1 i3 i5 i7 i8 i9 i16 hsz
  have h21 := dots_b1_h21 vv aa gv gd ga m c ss w0 a0 hv ha sv sa mw l1 l2 fh k1 M_gv M_ga M_gd CD0 CD1 i3 i5 i7 i8 i9 i16 hsz
  have h22 := dots_b1_h22 vv aa gv gd ga m c ss w0 a0 hv ha sv sa mw l1 l2 fh k1 M_gv M_ga M_gd CD0 CD1 i3 i5 i7 i8 i9 i16 hsz
  have h23 := dots_b1_h23 vv aa gv gd ga m c ss w0 a0 hv ha sv sa mw l1 l2 fh k1 M_gv M_ga M_gd CD0 CD1 i3 i5 i7 i8 i9 i16 hsz
  have h24 := dots_b1_h24 vv aa gv gd ga m c ss w0 a0 hv ha sv sa mw l1 l2 fh k1 M_gv M_ga M_gd CD0 CD1 i3 i5 i7 i8 i9 i16 hsz
  have h25 := dots_b1_h25 vv aa gv gd ga m c ss w0 a0 hv ha sv sa mw l1 l2 fh k1 M_gv M_ga M_gd CD0 CD1 i3 i5 i7 i8 i9 i16 hsz
  have h26 := dots_b1_h26 vv aa gv gd ga m c ss w0 a0 hv ha sv sa mw l1 l2 fh k1 M_gv M_ga M_gd CD0 CD1 i3 i5 i7 i8 i9 i16 hsz
  have h27 := dots_b1_h27 vv aa gv gd ga m c ss w0 a0 hv ha sv sa mw l1 l2 fh k1 M_gv M_ga M_gd CD0 CD1 i3 i5 i7 i8 i9 i16 hsz
  have h28 := dots_b1_h28 vv aa gv gd ga m c ss w0 a0 hv ha sv sa mw l1 l2 fh k1 M_gv M_ga M_gd CD0 CD1 i3 i5 i7 i8 i9 i16 hsz
  have h29 := dots_b1_h29 vv aa gv gd ga m c ss w0 a0 hv ha sv sa mw l1 l2 fh k1 M_gv M_ga M_gd CD0 CD1 i3 i5 i7 i8 i9 i16 hsz
  have h30 := dots_b1_h30 vv aa gv gd ga m c ss w0 a0 hv ha sv sa mw l1 l2 fh k1 M_gv M_ga M_gd CD0 CD1 i3 i5 i7 i8 i9 i16 hsz
  have h31 := dots_b1_h31 vv aa gv gd ga m c ss w0 a0 hv ha sv sa mw l1 l2 fh k1 M_gv M_ga M_gd CD0 CD1 i3 i5 i7 i8 i9 i16 hsz
  have h32 := dots_b1_h32 vv aa gv gd ga m c ss w0 a0 hv ha sv sa mw l1 l2 fh k1 M_gv M_ga M_gd CD0 CD1 i3 i5 i7 i8 i9 i16 hsz
  have h33 := dots_b1_h33 vv aa gv gd ga m c ss w0 a0 hv ha sv sa mw l1 l2 fh k1 M_gv M_ga M_gd CD0 CD1 i3 i5 i7 i8 i9 i16 hsz
  have h34 := dots_b1_h34 vv aa gv gd ga m c ss w0 a0 hv ha sv sa mw l1 l2 fh k1 M_gv M_ga M_gd CD0 CD1 i3 i5 i7 i8 i9 i16 hsz
  have h35 := dots_b1_h35 vv aa gv gd ga m c ss w0 a0 hv ha sv sa mw l1 l2 fh k1 M_gv M_ga M_gd CD0 CD1 i3 i5 i7 i8 i9 i16 hsz
  have h36 := dots_b1_h36 vv aa gv gd ga m c ss w0 a0 hv ha sv sa mw l1 l2 fh k1 M_gv M_ga M_gd CD0 CD1 i3 i5 i7 i8 i9 i16 hsz
  have h37 := dots_b1_h37 vv aa gv gd ga m c ss w0 a0 hv ha sv sa mw l1 l2 fh k1 M_gv M_ga M_gd CD0 CD1 i3 i5 i7 i8 i9 i16 hsz
  have h38 := dots_b1_h38 vv aa gv gd ga m c ss w0 a0 hv ha sv sa mw l1 l2 fh k1 M_gv M_ga M_gd CD0 CD1 i3 i5 i7 i8 i9 i16 hsz
  have h39 := dots_b1_h39 vv aa gv gd ga m c ss w0 a0 hv ha sv sa mw l1 l2 fh k1 M_gv M_ga M_gd CD0 CD1 i3 i5 i7 i8 i9 i16 hsz
  have h40 := dots_b1_h40 vv aa gv gd ga m c ss w0 a0 hv ha sv sa mw l1 l2 fh k1 M_gv M_ga M_gd CD0 CD1 i3 i5 i7 i8 i9 i16 hsz
  have h41 := dots_b1_h41 vv aa gv gd ga m c ss w0 a0 hv ha sv sa mw l1 l2 fh k1 M_gv M_ga M_gd CD0 CD1 i3 i5 i7 i8 i9 i16 hsz
  have h42 := dots_b1_h42 vv aa gv gd ga m c ss w0 a0 hv ha sv sa mw l1 l2 fh k1 M_gv M_ga M_gd CD0 CD1 i3 i5 i7 i8 i9 i16 hsz
  have h43 := dots_b1_h43 vv aa gv gd ga m c ss w0 a0 hv ha sv sa mw l1 l2 fh k1 M_gv M_ga M_gd CD0 CD1 i3 i5 i7 i8 i9 i16 hsz
  have h44 := dots_b1_h44 vv aa gv gd ga m c ss w0 a0 hv ha sv sa mw l1 l2 fh k1 M_gv M_ga M_gd CD0 CD1 i3 i5 i7 i8 i9 i16 hsz
  have h45 := dots_b1_h45 vv aa gv gd ga m c ss w0 a0 hv ha sv sa mw l1 l2 fh k1 M_gv M_ga M_gd CD0 CD1 i3 i5 i7 i8 i9 i16 hsz
  have h46 := dots_b1_h46 vv aa gv gd ga m c ss w0 a0 hv ha sv sa mw l1 l2 fh k1 M_gv M_ga M_gd CD0 CD1 i3 i5 i7 i8 i9 i16 hsz
  have h47 := dots_b1_h47 vv aa gv gd ga m c ss w0 a0 hv ha sv sa mw l1 l2 fh k1 M_gv M_ga M_gd CD0 CD1 i3 i5 i7 i8 i9 i16 hsz
  have h48 := dots_b1_h48 vv aa gv gd ga m c ss w0 a0 hv ha sv sa mw l1 l2 fh k1 M_gv M_ga M_gd CD0 CD1 i3 i5 i7 i8 i9 i16 hsz
  have h49 := dots_b1_h49 vv aa gv gd ga m c ss w0 a0 hv ha sv sa mw l1 l2 fh k1 M_gv M_ga M_gd CD0 CD1 i3 i5 i7 i8 i9 i16 hsz
  have h50 := dots_b1_h50 vv aa gv gd ga m c ss w0 a0 hv ha sv sa mw l1 l2 fh k1 M_gv M_ga M_gd CD0 CD1 i3 i5 i7 i8 i9 i16 hsz
  have h51 := dots_b1_h51 vv aa gv gd ga m c ss w0 a0 hv ha sv sa mw l1 l2 fh k1 M_gv M_ga M_gd CD0 CD1 i3 i5 i7 i8 i9 i16 hsz
  have h52 := dots_b1_h52 vv aa gv gd ga m c ss w0 a0 hv ha sv sa mw l1 l2 fh k1 M_gv M_ga M_gd CD0 CD1 i3 i5 i7 i8 i9 i16 hsz
  have h53 := dots_b1_h53 vv aa gv gd ga m c ss w0 a0 hv ha sv sa mw l1 l2 fh k1 M_gv M_ga M_gd CD0 CD1 i3 i5 i7 i8 i9 i16 hsz
  have h54 := dots_b1_h54 vv aa gv gd ga m c ss w0 a0 hv ha sv sa mw l1 l2 fh k1 M_gv M_ga M_gd CD0 CD1 i3 i5 i7 i8 i9 i16 hsz
  have h55 := dots_b1_h55 vv aa gv gd ga m c ss w0 a0 hv ha sv sa mw l1 l2 fh k1 M_gv M_ga M_gd CD0 CD1 i3 i5 i7 i8 i9 i16 hsz
  have h56 := dots_b1_h56 vv aa gv gd ga m c ss w0 a0 hv ha sv sa mw l1 l2 fh k1 M_gv M_ga M_gd CD0 CD1 i3 i5 i7 i8 i9 i16 hsz
  refine Reg.region_all (by kernel_rfl) (dots_b1R vv aa gv gd ga m c ss) (by rw [hn, hsz]; kernel_rfl) (dots_b1_stable vv aa gv gd ga m c ss) (fun i hi => ?_) (fun v w hb hR => ?_)
  · rw [hn] at hi
    match i, List.mem_range.1 hi with
    | 0, _ => exact h0
    | 1, _ => exact h1
    | 2, _ => exact h2
    | 3, _ => exact h3
    | 4, _ => exact h4
    | 5, _ => exact h5
    | 6, _ => exact h6
    | 7, _ => exact h7
    | 8, _ => exact h8
    | 9, _ => exact h9
    | 10, _ => exact h10
    | 11, _ => exact h11
    | 12, _ => exact h12
    | 13, _ => exact h13
    | 14, _ => exact h14
    | 15, _ => exact h15
    | 16, _ => exact h16
    | 17, _ => exact h17
    | 18, _ => exact h18
    | 19, _ => exact h19
    | 20, _ => exact h20
    | 21, _ => exact h21
    | 22, _ => exact h22
    | 23, _ => exact h23
    | 24, _ => exact h24
    | 25, _ => exact h25
    | 26, _ => exact h26
    | 27, _ => exact h27
    | 28, _ => exact h28
    | 29, _ => exact h29
    | 30, _ => exact h30
    | 31, _ => exact h31
    | 32, _ => exact h32
    | 33, _ => exact h33
    | 34, _ => exact h34
    | 35, _ => exact h35
    | 36, _ => exact h36
    | 37, _ => exact h37
    | 38, _ => exact h38
    | 39, _ => exact h39
    | 40, _ => exact h40
    | 41, _ => exact h41
    | 42, _ => exact h42
    | 43, _ => exact h43
    | 44, _ => exact h44
    | 45, _ => exact h45
    | 46, _ => exact h46
    | 47, _ => exact h47
    | 48, _ => exact h48
    | 49, _ => exact h49
    | 50, _ => exact h50
    | 51, _ => exact h51
    | 52, _ => exact h52
    | 53, _ => exact h53
    | 54, _ => exact h54
    | 55, _ => exact h55
    | 56, _ => exact h56
    | (_ + 57), h => omega
  · rw [hn] at hR ⊢
    have v0 : v 0 = (Value.bool true) := hR 0 (by decide)
    have v1 : v 1 = (Value.bool true) := hR 1 (by decide)
    have v2 : v 2 = (Value.agg (vC vv)) := hR 2 (by decide)
    have v3 : v 3 = (Value.agg (vC aa)) := hR 3 (by decide)
    have v4 : v 4 = (Value.int IntKind.u64 (m : Int)) := hR 4 (by decide)
    have v5 : v 5 = (Value.int IntKind.i64 (m : Int)) := hR 5 (by decide)
    have v6 : v 6 = (Value.int IntKind.u64 (m : Int)) := hR 6 (by decide)
    have v7 : v 7 = (Value.bool true) := hR 7 (by decide)
    have v8 : v 8 = (Value.bool true) := hR 8 (by decide)
    have v9 : v 9 = (Value.bool true) := hR 9 (by decide)
    have v10 : v 10 = (Value.agg (vC aa)) := hR 10 (by decide)
    have v11 : v 11 = (Value.agg (vC vv)) := hR 11 (by decide)
    have v12 : v 12 = (Value.int IntKind.u64 0) := hR 12 (by decide)
    have v13 : v 13 = (Value.bool true) := hR 13 (by decide)
    have v14 : v 14 = (Value.bool true) := hR 14 (by decide)
    have v15 : v 15 = (Value.bool true) := hR 15 (by decide)
    have v16 : v 16 = (Value.bool false) := hR 16 (by decide)
    have v17 : v 17 = (Value.bool true) := hR 17 (by decide)
    have v18 : v 18 = (Value.bool true) := hR 18 (by decide)
    have v19 : v 19 = undef := hR 19 (by decide)
    have v20 : v 20 = undef := hR 20 (by decide)
    have v21 : v 21 = undef := hR 21 (by decide)
    have v22 : v 22 = (Value.bool true) := hR 22 (by decide)
    have v23 : v 23 = (Value.bool true) := hR 23 (by decide)
    have v24 : v 24 = (Value.bool true) := hR 24 (by decide)
    have v25 : v 25 = (Value.agg (vC aa)) := hR 25 (by decide)
    have v26 : v 26 = (Value.agg (dC ss c)) := hR 26 (by decide)
    have v27 : v 27 = (Value.bool false) := hR 27 (by decide)
    have v28 : v 28 = (Value.pointer (some ⟨gd, 0, none⟩)) := hR 28 (by decide)
    have v29 : v 29 = (Value.int IntKind.i64 ss) := hR 29 (by decide)
    have v30 : v 30 = (Value.bool false) := hR 30 (by decide)
    have v31 : v 31 = (Value.bool false) := hR 31 (by decide)
    have v32 : v 32 = undef := hR 32 (by decide)
    have v33 : v 33 = undef := hR 33 (by decide)
    have v34 : v 34 = undef := hR 34 (by decide)
    have v35 : v 35 = (Value.bool false) := hR 35 (by decide)
    have v36 : v 36 = (Value.bool false) := hR 36 (by decide)
    have v37 : v 37 = undef := hR 37 (by decide)
    have v38 : v 38 = undef := hR 38 (by decide)
    have v39 : v 39 = undef := hR 39 (by decide)
    have v40 : v 40 = (Value.bool false) := hR 40 (by decide)
    have v41 : v 41 = (Value.bool false) := hR 41 (by decide)
    have v42 : v 42 = undef := hR 42 (by decide)
    have v43 : v 43 = undef := hR 43 (by decide)
    have v44 : v 44 = undef := hR 44 (by decide)
    have v45 : v 45 = undef := hR 45 (by decide)
    have v46 : v 46 = undef := hR 46 (by decide)
    have v47 : v 47 = undef := hR 47 (by decide)
    have v48 : v 48 = undef := hR 48 (by decide)
    have v49 : v 49 = undef := hR 49 (by decide)
    have v50 : v 50 = undef := hR 50 (by decide)
    have v51 : v 51 = undef := hR 51 (by decide)
    have v52 : v 52 = undef := hR 52 (by decide)
    have v53 : v 53 = (Value.bool false) := hR 53 (by decide)
    have v54 : v 54 = (Value.bool true) := hR 54 (by decide)
    have v55 : v 55 = (Value.bool true) := hR 55 (by decide)
    have v56 : v 56 = (Value.bool true) := hR 56 (by decide)
    rw [hfin v, v0, v1, v2, v3, v4, v5, v6, v7, v8, v9, v10, v11, v12, v13, v14, v15, v16, v17, v18, v19, v20, v21, v22, v23, v24, v25, v26, v27, v28, v29, v30, v31, v32, v33, v34, v35, v36, v37, v38, v39, v40, v41, v42, v43, v44, v45, v46, v47, v48, v49, v50, v51, v52, v53, v54, v55, v56]
    exact hend w  hb 
def dots_b2R (vv aa : List Nat) (gv gd ga m : Nat) (c : Int) (ss : Int) : Nat → Value → World → Prop
  | 0 => fun x_ _ => x_ = (Value.bool true)
  | 1 => fun x_ _ => x_ = (Value.bool true)
  | 2 => fun x_ _ => x_ = (Value.agg (vC vv))
  | 3 => fun x_ _ => x_ = (Value.agg (vC aa))
  | 4 => fun x_ _ => x_ = (Value.int IntKind.u64 (m : Int))
  | 5 => fun x_ _ => x_ = (Value.int IntKind.i64 (m : Int))
  | 6 => fun x_ _ => x_ = (Value.int IntKind.u64 (m : Int))
  | 7 => fun x_ _ => x_ = (Value.bool true)
  | 8 => fun x_ _ => x_ = (Value.bool true)
  | 9 => fun x_ _ => x_ = (Value.bool true)
  | 10 => fun x_ _ => x_ = (Value.agg (vC aa))
  | 11 => fun x_ _ => x_ = (Value.agg (vC vv))
  | 12 => fun x_ _ => x_ = (Value.int IntKind.u64 0)
  | 13 => fun x_ _ => x_ = (Value.bool true)
  | 14 => fun x_ _ => x_ = (Value.bool true)
  | 15 => fun x_ _ => x_ = (Value.bool true)
  | 16 => fun x_ _ => x_ = (Value.bool false)
  | 17 => fun x_ _ => x_ = (Value.bool true)
  | 18 => fun x_ _ => x_ = (Value.bool true)
  | 19 => fun x_ _ => x_ = undef
  | 20 => fun x_ _ => x_ = undef
  | 21 => fun x_ _ => x_ = undef
  | 22 => fun x_ _ => x_ = (Value.bool true)
  | 23 => fun x_ _ => x_ = (Value.bool true)
  | 24 => fun x_ _ => x_ = (Value.bool true)
  | 25 => fun x_ _ => x_ = (Value.agg (vC aa))
  | 26 => fun x_ _ => x_ = (Value.agg (dC ss c))
  | 27 => fun x_ _ => x_ = (Value.bool false)
  | 28 => fun x_ _ => x_ = (Value.pointer (some ⟨gd, 0, none⟩))
  | 29 => fun x_ _ => x_ = (Value.int IntKind.i64 ss)
  | 30 => fun x_ _ => x_ = (Value.bool true)
  | 31 => fun x_ _ => x_ = (Value.bool true)
  | 32 => fun x_ _ => x_ = (Value.pointer (some ⟨gd, 0, none⟩))
  | 33 => fun x_ _ => x_ = (Value.int IntKind.i64 ss)
  | 34 => fun x_ _ => x_ = (Value.bool false)
  | 35 => fun x_ _ => x_ = (Value.bool false)
  | 36 => fun x_ _ => x_ = (Value.bool false)
  | 37 => fun x_ _ => x_ = undef
  | 38 => fun x_ _ => x_ = undef
  | 39 => fun x_ _ => x_ = undef
  | 40 => fun x_ _ => x_ = (Value.bool false)
  | 41 => fun x_ _ => x_ = (Value.bool false)
  | 42 => fun x_ _ => x_ = undef
  | 43 => fun x_ _ => x_ = undef
  | 44 => fun x_ _ => x_ = undef
  | 45 => fun x_ _ => x_ = undef
  | 46 => fun x_ _ => x_ = undef
  | 47 => fun x_ _ => x_ = undef
  | 48 => fun x_ _ => x_ = undef
  | 49 => fun x_ _ => x_ = undef
  | 50 => fun x_ _ => x_ = undef
  | 51 => fun x_ _ => x_ = undef
  | 52 => fun x_ _ => x_ = undef
  | 53 => fun x_ _ => x_ = (Value.bool false)
  | 54 => fun x_ _ => x_ = (Value.bool true)
  | 55 => fun x_ _ => x_ = (Value.bool true)
  | 56 => fun x_ _ => x_ = (Value.bool true)
  | _ => fun _ _ => True
theorem dots_b2_stable (vv aa : List Nat) (gv gd ga m : Nat) (c : Int) (ss : Int) : ∀ i_ u_ w_ w_', (dots_b2R vv aa gv gd ga m c ss) i_ u_ w_ → Below w_.heap.size w_ w_' → (dots_b2R vv aa gv gd ga m c ss) i_ u_ w_' := fun i_ u_ w_ w_' h_ hb_ => by
  match i_, h_ with
  | 0, h_ => exact h_
  | 1, h_ => exact h_
  | 2, h_ => exact h_
  | 3, h_ => exact h_
  | 4, h_ => exact h_
  | 5, h_ => exact h_
  | 6, h_ => exact h_
  | 7, h_ => exact h_
  | 8, h_ => exact h_
  | 9, h_ => exact h_
  | 10, h_ => exact h_
  | 11, h_ => exact h_
  | 12, h_ => exact h_
  | 13, h_ => exact h_
  | 14, h_ => exact h_
  | 15, h_ => exact h_
  | 16, h_ => exact h_
  | 17, h_ => exact h_
  | 18, h_ => exact h_
  | 19, h_ => exact h_
  | 20, h_ => exact h_
  | 21, h_ => exact h_
  | 22, h_ => exact h_
  | 23, h_ => exact h_
  | 24, h_ => exact h_
  | 25, h_ => exact h_
  | 26, h_ => exact h_
  | 27, h_ => exact h_
  | 28, h_ => exact h_
  | 29, h_ => exact h_
  | 30, h_ => exact h_
  | 31, h_ => exact h_
  | 32, h_ => exact h_
  | 33, h_ => exact h_
  | 34, h_ => exact h_
  | 35, h_ => exact h_
  | 36, h_ => exact h_
  | 37, h_ => exact h_
  | 38, h_ => exact h_
  | 39, h_ => exact h_
  | 40, h_ => exact h_
  | 41, h_ => exact h_
  | 42, h_ => exact h_
  | 43, h_ => exact h_
  | 44, h_ => exact h_
  | 45, h_ => exact h_
  | 46, h_ => exact h_
  | 47, h_ => exact h_
  | 48, h_ => exact h_
  | 49, h_ => exact h_
  | 50, h_ => exact h_
  | 51, h_ => exact h_
  | 52, h_ => exact h_
  | 53, h_ => exact h_
  | 54, h_ => exact h_
  | 55, h_ => exact h_
  | 56, h_ => exact h_
  | (_ + 57), _ => trivial
section
variable (vv aa : List Nat) (gv gd ga m : Nat) (c : Int) (ss : Int) (w0 : World) (a0 : Act)
variable (hv : vv.length = 16) (ha : aa.length = 16) (sv : small vv) (sa : small aa) (mw : IntKind.u64.wrap (m : Int) = m) (l1 : lackV vv aa = m) (l2 : lackV aa vv = 0) (fh : hasV aa ss c = false)
variable (k1 : ((0 : Int) ≤ ss) = True) (k2 : (ss < 16) = False)
variable (M_gv : ∀ W, Below w0.heap.size w0 W → W.heap[gv]? = some (.cells (vC vv) 24 (0, 0)))
variable (M_ga : ∀ W, Below w0.heap.size w0 W → W.heap[ga]? = some (.cells (vC aa) 24 (0, 0)))
variable (M_gd : ∀ W, Below w0.heap.size w0 W → W.heap[gd]? = some (.cells (dC ss c) 35 (0, 0)))
variable (CD0 : ∀ W, Below w0.heap.size w0 W → W.cell? ⟨gd, 0, none⟩ = some (Value.int IntKind.i64 ss))
variable (CD1 : ∀ W, Below w0.heap.size w0 W → W.cell? ⟨gd, 1, none⟩ = some (Value.int IntKind.i64 c))
variable (i3 : a0.eval (.tmp 3) = (Value.pointer (some ⟨gv, 0, none⟩))) (i5 : a0.eval (.tmp 5) = (Value.pointer (some ⟨gd, 0, none⟩))) (i7 : a0.eval (.tmp 7) = (Value.bool true)) (i8 : a0.eval (.tmp 8) = (Value.pointer (some ⟨ga, 0, none⟩))) (i9 : a0.eval (.tmp 9) = (Value.int IntKind.i64 (m : Int))) (i16 : a0.eval (.tmp 16) = (Value.bool false)) (hsz : a0.tmps.size = 135)
include vv aa gv gd ga m c ss w0 a0 hv ha sv sa mw l1 l2 fh k1 k2 M_gv M_ga M_gd CD0 CD1 i3 i5 i7 i8 i9 i16 hsz
set_option maxHeartbeats 4000000 in
set_option maxRecDepth 20000 in
theorem dots_b2_h0 :
    Reg.OpOK Try.prog (Reg.opsOf Try.f5 20) a0 w0 (dots_b2R vv aa gv gd ga m c ss) (fun _ _ _ _ => True) 0 := by
    refine Reg.op_ok2 (fun af => { dst := some 79, op := Op.move (Operand.tmp 7), type := 4, pos := "outright.go:87", after := af, guard := none }) #[] (by kernel_rfl) [] (by kernel_rfl) fun af v W hb hd => ?_
    have e7 := (Reg.gfr_eval0 (ops := (Reg.opsOf Try.f5 20)) (a0 := a0) (v := v) (L := []) 7 (by kernel_rfl)).trans i7
    refine ⟨Reg.wanted_none rfl, ?_⟩
    generalize Reg.gfr (Reg.opsOf Try.f5 20) a0 v [] = G at e7 ⊢
    generalize hρ : G.eval = ρ at e7
    have hρ' : G.eval = ρ := hρ
    refine Reg.go_run (Value.bool true) W ?_ ?_
    · rw [hρ']; simp [execOp, go_sem, e7]
    · exact ⟨Below.refl _ _, rfl⟩
set_option maxHeartbeats 4000000 in
set_option maxRecDepth 20000 in
theorem dots_b2_h1 :
    Reg.OpOK Try.prog (Reg.opsOf Try.f5 20) a0 w0 (dots_b2R vv aa gv gd ga m c ss) (fun _ _ _ _ => True) 1 := by
    refine Reg.op_ok2 (fun af => { dst := some 80, op := Op.move (Operand.tmp 79), type := 4, pos := "outright.go:87", after := af, guard := none }) #[{ on := 0, ground := Ground.data }] (by kernel_rfl) [0] (by kernel_rfl) fun af v W hb hd => ?_
    have d0 : v 0 = (Value.bool true) := hd 0 (by decide)
    have e79 := (Reg.gfr_eval (ops := (Reg.opsOf Try.f5 20)) (a0 := a0) (v := v) (L := [0]) 79 0 (by kernel_rfl) (by rw [hsz]; omega)).trans d0
    refine ⟨Reg.wanted_none rfl, ?_⟩
    generalize Reg.gfr (Reg.opsOf Try.f5 20) a0 v [0] = G at e79 ⊢
    generalize hρ : G.eval = ρ at e79
    have hρ' : G.eval = ρ := hρ
    refine Reg.go_run (Value.bool true) W ?_ ?_
    · rw [hρ']; simp [execOp, go_sem, e79]
    · exact ⟨Below.refl _ _, rfl⟩
set_option maxHeartbeats 4000000 in
set_option maxRecDepth 20000 in
theorem dots_b2_h2 :
    Reg.OpOK Try.prog (Reg.opsOf Try.f5 20) a0 w0 (dots_b2R vv aa gv gd ga m c ss) (fun _ _ _ _ => True) 2 := by
    refine Reg.op_ok2 (fun af => { dst := some 81, op := Op.load 24 (Operand.tmp 3), type := 24, pos := "outright.go:87", after := af, guard := some (1, true) }) #[{ on := 1, ground := Ground.guard }] (by kernel_rfl) [1] (by kernel_rfl) fun af v W hb hd => ?_
    have d1 : v 1 = (Value.bool true) := hd 1 (by decide)
    have e3 := (Reg.gfr_eval0 (ops := (Reg.opsOf Try.f5 20)) (a0 := a0) (v := v) (L := [1]) 3 (by kernel_rfl)).trans i3
    have e80 := (Reg.gfr_eval (ops := (Reg.opsOf Try.f5 20)) (a0 := a0) (v := v) (L := [1]) 80 1 (by kernel_rfl) (by rw [hsz]; omega)).trans d1
    refine ⟨Reg.wanted_of rfl (by kernel_rfl) e80, ?_⟩
    generalize Reg.gfr (Reg.opsOf Try.f5 20) a0 v [1] = G at e3 ⊢
    generalize hρ : G.eval = ρ at e3
    have hρ' : G.eval = ρ := hρ
    exact fun K hK => wp_load_row 24 (.tmp 3) rfl gv (by rw [hρ']; exact e3) 24 (vC vv) (0, 0) _ (M_gv W hb) Try.underlying24 rfl (vec_size hv) (hK _ _ ⟨Below.refl _ _, rfl⟩)
set_option maxHeartbeats 4000000 in
set_option maxRecDepth 20000 in
theorem dots_b2_h3 :
    Reg.OpOK Try.prog (Reg.opsOf Try.f5 20) a0 w0 (dots_b2R vv aa gv gd ga m c ss) (fun _ _ _ _ => True) 3 := by
    refine Reg.op_ok2 (fun af => { dst := some 82, op := Op.load 24 (Operand.tmp 8), type := 24, pos := "outright.go:87", after := af, guard := some (1, true) }) #[{ on := 1, ground := Ground.guard }] (by kernel_rfl) [1] (by kernel_rfl) fun af v W hb hd => ?_
    have d1 : v 1 = (Value.bool true) := hd 1 (by decide)
    have e8 := (Reg.gfr_eval0 (ops := (Reg.opsOf Try.f5 20)) (a0 := a0) (v := v) (L := [1]) 8 (by kernel_rfl)).trans i8
    have e80 := (Reg.gfr_eval (ops := (Reg.opsOf Try.f5 20)) (a0 := a0) (v := v) (L := [1]) 80 1 (by kernel_rfl) (by rw [hsz]; omega)).trans d1
    refine ⟨Reg.wanted_of rfl (by kernel_rfl) e80, ?_⟩
    generalize Reg.gfr (Reg.opsOf Try.f5 20) a0 v [1] = G at e8 ⊢
    generalize hρ : G.eval = ρ at e8
    have hρ' : G.eval = ρ := hρ
    exact fun K hK => wp_load_row 24 (.tmp 8) rfl ga (by rw [hρ']; exact e8) 24 (vC aa) (0, 0) _ (M_ga W hb) Try.underlying24 rfl (vec_size ha) (hK _ _ ⟨Below.refl _ _, rfl⟩)
set_option maxHeartbeats 4000000 in
set_option maxRecDepth 20000 in
theorem dots_b2_h4 :
    Reg.OpOK Try.prog (Reg.opsOf Try.f5 20) a0 w0 (dots_b2R vv aa gv gd ga m c ss) (fun _ _ _ _ => True) 4 := by
    refine Reg.op_ok2 (fun af => { dst := some 83, op := Op.call { callee := Callee.value (Operand.func 15), args := #[Operand.tmp 81, Operand.tmp 82], argTypes := #[24, 24] }, type := 31, pos := "outright.go:87", after := af, guard := some (1, true) }) #[{ on := 2, ground := Ground.data }, { on := 3, ground := Ground.data }, { on := 1, ground := Ground.chain }, { on := 1, ground := Ground.guard }] (by kernel_rfl) [2, 3, 1, 1] (by kernel_rfl) fun af v W hb hd => ?_
    have d1 : v 1 = (Value.bool true) := hd 1 (by decide)
    have d2 : v 2 = (Value.agg (vC vv)) := hd 2 (by decide)
    have d3 : v 3 = (Value.agg (vC aa)) := hd 3 (by decide)
    have e81 := (Reg.gfr_eval (ops := (Reg.opsOf Try.f5 20)) (a0 := a0) (v := v) (L := [2, 3, 1, 1]) 81 2 (by kernel_rfl) (by rw [hsz]; omega)).trans d2
    have e82 := (Reg.gfr_eval (ops := (Reg.opsOf Try.f5 20)) (a0 := a0) (v := v) (L := [2, 3, 1, 1]) 82 3 (by kernel_rfl) (by rw [hsz]; omega)).trans d3
    have e80 := (Reg.gfr_eval (ops := (Reg.opsOf Try.f5 20)) (a0 := a0) (v := v) (L := [2, 3, 1, 1]) 80 1 (by kernel_rfl) (by rw [hsz]; omega)).trans d1
    refine ⟨Reg.wanted_of rfl (by kernel_rfl) e80, ?_⟩
    have eF : ∀ f, (Reg.gfr (Reg.opsOf Try.f5 20) a0 v [2, 3, 1, 1]).eval (.func f) = .func (.func f) #[] #[] := fun _ => rfl
    generalize Reg.gfr (Reg.opsOf Try.f5 20) a0 v [2, 3, 1, 1] = G at e81 e82 eF ⊢
    generalize hρ : G.eval = ρ at e81 e82 eF
    have hρ' : G.eval = ρ := hρ
    refine Reg.go_call 15 #[(Value.agg (vC vv)), (Value.agg (vC aa))] (by rw [hρ']; simp [execOp, go_sem, e81, e82, eF]) ((lacks_any vv aa hv ha sv sa W).mono fun e w' he => ?_)
    obtain ⟨rfl, hbb⟩ := he
    exact ⟨_, rfl, hbb, (show _ = _ from by rw [l1] <;> rfl)⟩
set_option maxHeartbeats 4000000 in
set_option maxRecDepth 20000 in
theorem dots_b2_h5 :
    Reg.OpOK Try.prog (Reg.opsOf Try.f5 20) a0 w0 (dots_b2R vv aa gv gd ga m c ss) (fun _ _ _ _ => True) 5 := by
    refine Reg.op_ok2 (fun af => { dst := some 84, op := Op.move (Operand.tmp 9), type := 3, pos := "outright.go:87", after := af, guard := some (1, true) }) #[{ on := 1, ground := Ground.guard }] (by kernel_rfl) [1] (by kernel_rfl) fun af v W hb hd => ?_
    have d1 : v 1 = (Value.bool true) := hd 1 (by decide)
    have e9 := (Reg.gfr_eval0 (ops := (Reg.opsOf Try.f5 20)) (a0 := a0) (v := v) (L := [1]) 9 (by kernel_rfl)).trans i9
    have e80 := (Reg.gfr_eval (ops := (Reg.opsOf Try.f5 20)) (a0 := a0) (v := v) (L := [1]) 80 1 (by kernel_rfl) (by rw [hsz]; omega)).trans d1
    refine ⟨Reg.wanted_of rfl (by kernel_rfl) e80, ?_⟩
    generalize Reg.gfr (Reg.opsOf Try.f5 20) a0 v [1] = G at e9 ⊢
    generalize hρ : G.eval = ρ at e9
    have hρ' : G.eval = ρ := hρ
    refine Reg.go_run (Value.int IntKind.i64 (m : Int)) W ?_ ?_
    · rw [hρ']; simp [execOp, go_sem, e9]
    · exact ⟨Below.refl _ _, rfl⟩
set_option maxHeartbeats 4000000 in
set_option maxRecDepth 20000 in
theorem dots_b2_h6 :
    Reg.OpOK Try.prog (Reg.opsOf Try.f5 20) a0 w0 (dots_b2R vv aa gv gd ga m c ss) (fun _ _ _ _ => True) 6 := by
    refine Reg.op_ok2 (fun af => { dst := some 85, op := Op.convert 3 31 (Operand.tmp 84), type := 31, pos := "outright.go:87", after := af, guard := some (1, true) }) #[{ on := 5, ground := Ground.data }, { on := 1, ground := Ground.guard }] (by kernel_rfl) [5, 1] (by kernel_rfl) fun af v W hb hd => ?_
    have d1 : v 1 = (Value.bool true) := hd 1 (by decide)
    have d5 : v 5 = (Value.int IntKind.i64 (m : Int)) := hd 5 (by decide)
    have e84 := (Reg.gfr_eval (ops := (Reg.opsOf Try.f5 20)) (a0 := a0) (v := v) (L := [5, 1]) 84 5 (by kernel_rfl) (by rw [hsz]; omega)).trans d5
    have e80 := (Reg.gfr_eval (ops := (Reg.opsOf Try.f5 20)) (a0 := a0) (v := v) (L := [5, 1]) 80 1 (by kernel_rfl) (by rw [hsz]; omega)).trans d1
    refine ⟨Reg.wanted_of rfl (by kernel_rfl) e80, ?_⟩
    generalize Reg.gfr (Reg.opsOf Try.f5 20) a0 v [5, 1] = G at e84 ⊢
    generalize hρ : G.eval = ρ at e84
    have hρ' : G.eval = ρ := hρ
    refine Reg.go_run (Value.int IntKind.u64 (m : Int)) W ?_ ?_
    · rw [hρ']; simp [execOp, go_sem, e84, mw]
    · exact ⟨Below.refl _ _, rfl⟩
set_option maxHeartbeats 4000000 in
set_option maxRecDepth 20000 in
theorem dots_b2_h7 :
    Reg.OpOK Try.prog (Reg.opsOf Try.f5 20) a0 w0 (dots_b2R vv aa gv gd ga m c ss) (fun _ _ _ _ => True) 7 := by
    refine Reg.op_ok2 (fun af => { dst := some 86, op := Op.binOp BinOp.eql 31 (Operand.tmp 83) (Operand.tmp 85) 31, type := 4, pos := "outright.go:87", after := af, guard := some (1, true) }) #[{ on := 4, ground := Ground.data }, { on := 6, ground := Ground.data }, { on := 1, ground := Ground.guard }] (by kernel_rfl) [4, 6, 1] (by kernel_rfl) fun af v W hb hd => ?_
    have d1 : v 1 = (Value.bool true) := hd 1 (by decide)
    have d4 : v 4 = (Value.int IntKind.u64 (m : Int)) := hd 4 (by decide)
    have d6 : v 6 = (Value.int IntKind.u64 (m : Int)) := hd 6 (by decide)
    have e83 := (Reg.gfr_eval (ops := (Reg.opsOf Try.f5 20)) (a0 := a0) (v := v) (L := [4, 6, 1]) 83 4 (by kernel_rfl) (by rw [hsz]; omega)).trans d4
    have e85 := (Reg.gfr_eval (ops := (Reg.opsOf Try.f5 20)) (a0 := a0) (v := v) (L := [4, 6, 1]) 85 6 (by kernel_rfl) (by rw [hsz]; omega)).trans d6
    have e80 := (Reg.gfr_eval (ops := (Reg.opsOf Try.f5 20)) (a0 := a0) (v := v) (L := [4, 6, 1]) 80 1 (by kernel_rfl) (by rw [hsz]; omega)).trans d1
    refine ⟨Reg.wanted_of rfl (by kernel_rfl) e80, ?_⟩
    generalize Reg.gfr (Reg.opsOf Try.f5 20) a0 v [4, 6, 1] = G at e83 e85 ⊢
    generalize hρ : G.eval = ρ at e83 e85
    have hρ' : G.eval = ρ := hρ
    refine Reg.go_run (Value.bool true) W ?_ ?_
    · rw [hρ']; simp [execOp, go_sem, e83, e85]
    · exact ⟨Below.refl _ _, rfl⟩
set_option maxHeartbeats 4000000 in
set_option maxRecDepth 20000 in
theorem dots_b2_h8 :
    Reg.OpOK Try.prog (Reg.opsOf Try.f5 20) a0 w0 (dots_b2R vv aa gv gd ga m c ss) (fun _ _ _ _ => True) 8 := by
    refine Reg.op_ok2 (fun af => { dst := some 87, op := Op.pick (Operand.tmp 80) (Operand.tmp 86) (Operand.const (Value.bool false)), type := 4, pos := "outright.go:87", after := af, guard := none }) #[{ on := 1, ground := Ground.data }, { on := 7, ground := Ground.data }] (by kernel_rfl) [1, 7] (by kernel_rfl) fun af v W hb hd => ?_
    have d1 : v 1 = (Value.bool true) := hd 1 (by decide)
    have d7 : v 7 = (Value.bool true) := hd 7 (by decide)
    have e80 := (Reg.gfr_eval (ops := (Reg.opsOf Try.f5 20)) (a0 := a0) (v := v) (L := [1, 7]) 80 1 (by kernel_rfl) (by rw [hsz]; omega)).trans d1
    have e86 := (Reg.gfr_eval (ops := (Reg.opsOf Try.f5 20)) (a0 := a0) (v := v) (L := [1, 7]) 86 7 (by kernel_rfl) (by rw [hsz]; omega)).trans d7
    refine ⟨Reg.wanted_none rfl, ?_⟩
    have eC : ∀ x, (Reg.gfr (Reg.opsOf Try.f5 20) a0 v [1, 7]).eval (.const x) = x := fun _ => rfl
    generalize Reg.gfr (Reg.opsOf Try.f5 20) a0 v [1, 7] = G at e80 e86 eC ⊢
    generalize hρ : G.eval = ρ at e80 e86 eC
    have hρ' : G.eval = ρ := hρ
    refine Reg.go_run (Value.bool true) W ?_ ?_
    · rw [hρ']; simp [execOp, go_sem, e80, e86, eC]
    · exact ⟨Below.refl _ _, rfl⟩
set_option maxHeartbeats 4000000 in
set_option maxRecDepth 20000 in
theorem dots_b2_h9 :
    Reg.OpOK Try.prog (Reg.opsOf Try.f5 20) a0 w0 (dots_b2R vv aa gv gd ga m c ss) (fun _ _ _ _ => True) 9 := by
    refine Reg.op_ok2 (fun af => { dst := some 88, op := Op.move (Operand.tmp 87), type := 4, pos := "outright.go:87", after := af, guard := none }) #[{ on := 8, ground := Ground.data }, { on := 4, ground := Ground.chain }] (by kernel_rfl) [8, 4] (by kernel_rfl) fun af v W hb hd => ?_
    have d8 : v 8 = (Value.bool true) := hd 8 (by decide)
    have e87 := (Reg.gfr_eval (ops := (Reg.opsOf Try.f5 20)) (a0 := a0) (v := v) (L := [8, 4]) 87 8 (by kernel_rfl) (by rw [hsz]; omega)).trans d8
    refine ⟨Reg.wanted_none rfl, ?_⟩
    generalize Reg.gfr (Reg.opsOf Try.f5 20) a0 v [8, 4] = G at e87 ⊢
    generalize hρ : G.eval = ρ at e87
    have hρ' : G.eval = ρ := hρ
    refine Reg.go_run (Value.bool true) W ?_ ?_
    · rw [hρ']; simp [execOp, go_sem, e87]
    · exact ⟨Below.refl _ _, rfl⟩
set_option maxHeartbeats 4000000 in
set_option maxRecDepth 20000 in
theorem dots_b2_h10 :
    Reg.OpOK Try.prog (Reg.opsOf Try.f5 20) a0 w0 (dots_b2R vv aa gv gd ga m c ss) (fun _ _ _ _ => True) 10 := by
    refine Reg.op_ok2 (fun af => { dst := some 89, op := Op.load 24 (Operand.tmp 8), type := 24, pos := "outright.go:87", after := af, guard := some (9, true) }) #[{ on := 9, ground := Ground.guard }] (by kernel_rfl) [9] (by kernel_rfl) fun af v W hb hd => ?_
    have d9 : v 9 = (Value.bool true) := hd 9 (by decide)
    have e8 := (Reg.gfr_eval0 (ops := (Reg.opsOf Try.f5 20)) (a0 := a0) (v := v) (L := [9]) 8 (by kernel_rfl)).trans i8
    have e88 := (Reg.gfr_eval (ops := (Reg.opsOf Try.f5 20)) (a0 := a0) (v := v) (L := [9]) 88 9 (by kernel_rfl) (by rw [hsz]; omega)).trans d9
    refine ⟨Reg.wanted_of rfl (by kernel_rfl) e88, ?_⟩
    generalize Reg.gfr (Reg.opsOf Try.f5 20) a0 v [9] = G at e8 ⊢
    generalize hρ : G.eval = ρ at e8
    have hρ' : G.eval = ρ := hρ
    exact fun K hK => wp_load_row 24 (.tmp 8) rfl ga (by rw [hρ']; exact e8) 24 (vC aa) (0, 0) _ (M_ga W hb) Try.underlying24 rfl (vec_size ha) (hK _ _ ⟨Below.refl _ _, rfl⟩)
set_option maxHeartbeats 4000000 in
set_option maxRecDepth 20000 in
theorem dots_b2_h11 :
    Reg.OpOK Try.prog (Reg.opsOf Try.f5 20) a0 w0 (dots_b2R vv aa gv gd ga m c ss) (fun _ _ _ _ => True) 11 := by
    refine Reg.op_ok2 (fun af => { dst := some 90, op := Op.load 24 (Operand.tmp 3), type := 24, pos := "outright.go:87", after := af, guard := some (9, true) }) #[{ on := 9, ground := Ground.guard }] (by kernel_rfl) [9] (by kernel_rfl) fun af v W hb hd => ?_
    have d9 : v 9 = (Value.bool true) := hd 9 (by decide)
    have e3 := (Reg.gfr_eval0 (ops := (Reg.opsOf Try.f5 20)) (a0 := a0) (v := v) (L := [9]) 3 (by kernel_rfl)).trans i3
    have e88 := (Reg.gfr_eval (ops := (Reg.opsOf Try.f5 20)) (a0 := a0) (v := v) (L := [9]) 88 9 (by kernel_rfl) (by rw [hsz]; omega)).trans d9
    refine ⟨Reg.wanted_of rfl (by kernel_rfl) e88, ?_⟩
    generalize Reg.gfr (Reg.opsOf Try.f5 20) a0 v [9] = G at e3 ⊢
    generalize hρ : G.eval = ρ at e3
    have hρ' : G.eval = ρ := hρ
    exact fun K hK => wp_load_row 24 (.tmp 3) rfl gv (by rw [hρ']; exact e3) 24 (vC vv) (0, 0) _ (M_gv W hb) Try.underlying24 rfl (vec_size hv) (hK _ _ ⟨Below.refl _ _, rfl⟩)
set_option maxHeartbeats 4000000 in
set_option maxRecDepth 20000 in
theorem dots_b2_h12 :
    Reg.OpOK Try.prog (Reg.opsOf Try.f5 20) a0 w0 (dots_b2R vv aa gv gd ga m c ss) (fun _ _ _ _ => True) 12 := by
    refine Reg.op_ok2 (fun af => { dst := some 91, op := Op.call { callee := Callee.value (Operand.func 15), args := #[Operand.tmp 89, Operand.tmp 90], argTypes := #[24, 24] }, type := 31, pos := "outright.go:87", after := af, guard := some (9, true) }) #[{ on := 10, ground := Ground.data }, { on := 11, ground := Ground.data }, { on := 9, ground := Ground.chain }, { on := 9, ground := Ground.guard }] (by kernel_rfl) [10, 11, 9, 9] (by kernel_rfl) fun af v W hb hd => ?_
    have d9 : v 9 = (Value.bool true) := hd 9 (by decide)
    have d10 : v 10 = (Value.agg (vC aa)) := hd 10 (by decide)
    have d11 : v 11 = (Value.agg (vC vv)) := hd 11 (by decide)
    have e89 := (Reg.gfr_eval (ops := (Reg.opsOf Try.f5 20)) (a0 := a0) (v := v) (L := [10, 11, 9, 9]) 89 10 (by kernel_rfl) (by rw [hsz]; omega)).trans d10
    have e90 := (Reg.gfr_eval (ops := (Reg.opsOf Try.f5 20)) (a0 := a0) (v := v) (L := [10, 11, 9, 9]) 90 11 (by kernel_rfl) (by rw [hsz]; omega)).trans d11
    have e88 := (Reg.gfr_eval (ops := (Reg.opsOf Try.f5 20)) (a0 := a0) (v := v) (L := [10, 11, 9, 9]) 88 9 (by kernel_rfl) (by rw [hsz]; omega)).trans d9
    refine ⟨Reg.wanted_of rfl (by kernel_rfl) e88, ?_⟩
    have eF : ∀ f, (Reg.gfr (Reg.opsOf Try.f5 20) a0 v [10, 11, 9, 9]).eval (.func f) = .func (.func f) #[] #[] := fun _ => rfl
    generalize Reg.gfr (Reg.opsOf Try.f5 20) a0 v [10, 11, 9, 9] = G at e89 e90 eF ⊢
    generalize hρ : G.eval = ρ at e89 e90 eF
    have hρ' : G.eval = ρ := hρ
    refine Reg.go_call 15 #[(Value.agg (vC aa)), (Value.agg (vC vv))] (by rw [hρ']; simp [execOp, go_sem, e89, e90, eF]) ((lacks_any aa vv ha hv sa sv W).mono fun e w' he => ?_)
    obtain ⟨rfl, hbb⟩ := he
    exact ⟨_, rfl, hbb, (show _ = _ from by rw [l2] <;> rfl)⟩
set_option maxHeartbeats 4000000 in
set_option maxRecDepth 20000 in
theorem dots_b2_h13 :
    Reg.OpOK Try.prog (Reg.opsOf Try.f5 20) a0 w0 (dots_b2R vv aa gv gd ga m c ss) (fun _ _ _ _ => True) 13 := by
    refine Reg.op_ok2 (fun af => { dst := some 92, op := Op.binOp BinOp.eql 31 (Operand.tmp 91) (Operand.const (Value.int IntKind.u64 0)) 31, type := 4, pos := "outright.go:87", after := af, guard := some (9, true) }) #[{ on := 12, ground := Ground.data }, { on := 9, ground := Ground.guard }] (by kernel_rfl) [12, 9] (by kernel_rfl) fun af v W hb hd => ?_
    have d9 : v 9 = (Value.bool true) := hd 9 (by decide)
    have d12 : v 12 = (Value.int IntKind.u64 0) := hd 12 (by decide)
    have e91 := (Reg.gfr_eval (ops := (Reg.opsOf Try.f5 20)) (a0 := a0) (v := v) (L := [12, 9]) 91 12 (by kernel_rfl) (by rw [hsz]; omega)).trans d12
    have e88 := (Reg.gfr_eval (ops := (Reg.opsOf Try.f5 20)) (a0 := a0) (v := v) (L := [12, 9]) 88 9 (by kernel_rfl) (by rw [hsz]; omega)).trans d9
    refine ⟨Reg.wanted_of rfl (by kernel_rfl) e88, ?_⟩
    have eC : ∀ x, (Reg.gfr (Reg.opsOf Try.f5 20) a0 v [12, 9]).eval (.const x) = x := fun _ => rfl
    generalize Reg.gfr (Reg.opsOf Try.f5 20) a0 v [12, 9] = G at e91 eC ⊢
    generalize hρ : G.eval = ρ at e91 eC
    have hρ' : G.eval = ρ := hρ
    refine Reg.go_run (Value.bool true) W ?_ ?_
    · rw [hρ']; simp [execOp, go_sem, e91, eC]
    · exact ⟨Below.refl _ _, rfl⟩
set_option maxHeartbeats 4000000 in
set_option maxRecDepth 20000 in
theorem dots_b2_h14 :
    Reg.OpOK Try.prog (Reg.opsOf Try.f5 20) a0 w0 (dots_b2R vv aa gv gd ga m c ss) (fun _ _ _ _ => True) 14 := by
    refine Reg.op_ok2 (fun af => { dst := some 93, op := Op.pick (Operand.tmp 88) (Operand.tmp 92) (Operand.const (Value.bool false)), type := 4, pos := "outright.go:87", after := af, guard := none }) #[{ on := 9, ground := Ground.data }, { on := 13, ground := Ground.data }] (by kernel_rfl) [9, 13] (by kernel_rfl) fun af v W hb hd => ?_
    have d9 : v 9 = (Value.bool true) := hd 9 (by decide)
    have d13 : v 13 = (Value.bool true) := hd 13 (by decide)
    have e88 := (Reg.gfr_eval (ops := (Reg.opsOf Try.f5 20)) (a0 := a0) (v := v) (L := [9, 13]) 88 9 (by kernel_rfl) (by rw [hsz]; omega)).trans d9
    have e92 := (Reg.gfr_eval (ops := (Reg.opsOf Try.f5 20)) (a0 := a0) (v := v) (L := [9, 13]) 92 13 (by kernel_rfl) (by rw [hsz]; omega)).trans d13
    refine ⟨Reg.wanted_none rfl, ?_⟩
    have eC : ∀ x, (Reg.gfr (Reg.opsOf Try.f5 20) a0 v [9, 13]).eval (.const x) = x := fun _ => rfl
    generalize Reg.gfr (Reg.opsOf Try.f5 20) a0 v [9, 13] = G at e88 e92 eC ⊢
    generalize hρ : G.eval = ρ at e88 e92 eC
    have hρ' : G.eval = ρ := hρ
    refine Reg.go_run (Value.bool true) W ?_ ?_
    · rw [hρ']; simp [execOp, go_sem, e88, e92, eC]
    · exact ⟨Below.refl _ _, rfl⟩
set_option maxHeartbeats 4000000 in
set_option maxRecDepth 20000 in
theorem dots_b2_h15 :
    Reg.OpOK Try.prog (Reg.opsOf Try.f5 20) a0 w0 (dots_b2R vv aa gv gd ga m c ss) (fun _ _ _ _ => True) 15 := by
    refine Reg.op_ok2 (fun af => { dst := some 94, op := Op.move (Operand.tmp 93), type := 4, pos := "outright.go:87", after := af, guard := none }) #[{ on := 14, ground := Ground.data }, { on := 12, ground := Ground.chain }] (by kernel_rfl) [14, 12] (by kernel_rfl) fun af v W hb hd => ?_
    have d14 : v 14 = (Value.bool true) := hd 14 (by decide)
    have e93 := (Reg.gfr_eval (ops := (Reg.opsOf Try.f5 20)) (a0 := a0) (v := v) (L := [14, 12]) 93 14 (by kernel_rfl) (by rw [hsz]; omega)).trans d14
    refine ⟨Reg.wanted_none rfl, ?_⟩
    generalize Reg.gfr (Reg.opsOf Try.f5 20) a0 v [14, 12] = G at e93 ⊢
    generalize hρ : G.eval = ρ at e93
    have hρ' : G.eval = ρ := hρ
    refine Reg.go_run (Value.bool true) W ?_ ?_
    · rw [hρ']; simp [execOp, go_sem, e93]
    · exact ⟨Below.refl _ _, rfl⟩
set_option maxHeartbeats 4000000 in
set_option maxRecDepth 20000 in
theorem dots_b2_h16 :
    Reg.OpOK Try.prog (Reg.opsOf Try.f5 20) a0 w0 (dots_b2R vv aa gv gd ga m c ss) (fun _ _ _ _ => True) 16 := by
    refine Reg.op_ok2 (fun af => { dst := some 95, op := Op.move (Operand.tmp 16), type := 4, pos := "outright.go:87", after := af, guard := some (15, true) }) #[{ on := 15, ground := Ground.guard }] (by kernel_rfl) [15] (by kernel_rfl) fun af v W hb hd => ?_
    have d15 : v 15 = (Value.bool true) := hd 15 (by decide)
    have e16 := (Reg.gfr_eval0 (ops := (Reg.opsOf Try.f5 20)) (a0 := a0) (v := v) (L := [15]) 16 (by kernel_rfl)).trans i16
    have e94 := (Reg.gfr_eval (ops := (Reg.opsOf Try.f5 20)) (a0 := a0) (v := v) (L := [15]) 94 15 (by kernel_rfl) (by rw [hsz]; omega)).trans d15
    refine ⟨Reg.wanted_of rfl (by kernel_rfl) e94, ?_⟩
    generalize Reg.gfr (Reg.opsOf Try.f5 20) a0 v [15] = G at e16 ⊢
    generalize hρ : G.eval = ρ at e16
    have hρ' : G.eval = ρ := hρ
    refine Reg.go_run (Value.bool false) W ?_ ?_
    · rw [hρ']; simp [execOp, go_sem, e16]
    · exact ⟨Below.refl _ _, rfl⟩
set_option maxHeartbeats 4000000 in
set_option maxRecDepth 20000 in
theorem dots_b2_h17 :
    Reg.OpOK Try.prog (Reg.opsOf Try.f5 20) a0 w0 (dots_b2R vv aa gv gd ga m c ss) (fun _ _ _ _ => True) 17 := by
    refine Reg.op_ok2 (fun af => { dst := some 96, op := Op.unOp UnOp.not 4 (Operand.tmp 95), type := 4, pos := "outright.go:87", after := af, guard := some (15, true) }) #[{ on := 16, ground := Ground.data }, { on := 15, ground := Ground.guard }] (by kernel_rfl) [16, 15] (by kernel_rfl) fun af v W hb hd => ?_
    have d15 : v 15 = (Value.bool true) := hd 15 (by decide)
    have d16 : v 16 = (Value.bool false) := hd 16 (by decide)
    have e95 := (Reg.gfr_eval (ops := (Reg.opsOf Try.f5 20)) (a0 := a0) (v := v) (L := [16, 15]) 95 16 (by kernel_rfl) (by rw [hsz]; omega)).trans d16
    have e94 := (Reg.gfr_eval (ops := (Reg.opsOf Try.f5 20)) (a0 := a0) (v := v) (L := [16, 15]) 94 15 (by kernel_rfl) (by rw [hsz]; omega)).trans d15
    refine ⟨Reg.wanted_of rfl (by kernel_rfl) e94, ?_⟩
    generalize Reg.gfr (Reg.opsOf Try.f5 20) a0 v [16, 15] = G at e95 ⊢
    generalize hρ : G.eval = ρ at e95
    have hρ' : G.eval = ρ := hρ
    refine Reg.go_run (Value.bool true) W ?_ ?_
    · rw [hρ']; simp [execOp, go_sem, e95]
    · exact ⟨Below.refl _ _, rfl⟩
set_option maxHeartbeats 4000000 in
set_option maxRecDepth 20000 in
theorem dots_b2_h18 :
    Reg.OpOK Try.prog (Reg.opsOf Try.f5 20) a0 w0 (dots_b2R vv aa gv gd ga m c ss) (fun _ _ _ _ => True) 18 := by
    refine Reg.op_ok2 (fun af => { dst := some 97, op := Op.move (Operand.tmp 96), type := 4, pos := "outright.go:87", after := af, guard := some (15, true) }) #[{ on := 17, ground := Ground.data }, { on := 15, ground := Ground.chain }, { on := 15, ground := Ground.guard }] (by kernel_rfl) [17, 15, 15] (by kernel_rfl) fun af v W hb hd => ?_
    have d15 : v 15 = (Value.bool true) := hd 15 (by decide)
    have d17 : v 17 = (Value.bool true) := hd 17 (by decide)
    have e96 := (Reg.gfr_eval (ops := (Reg.opsOf Try.f5 20)) (a0 := a0) (v := v) (L := [17, 15, 15]) 96 17 (by kernel_rfl) (by rw [hsz]; omega)).trans d17
    have e94 := (Reg.gfr_eval (ops := (Reg.opsOf Try.f5 20)) (a0 := a0) (v := v) (L := [17, 15, 15]) 94 15 (by kernel_rfl) (by rw [hsz]; omega)).trans d15
    refine ⟨Reg.wanted_of rfl (by kernel_rfl) e94, ?_⟩
    generalize Reg.gfr (Reg.opsOf Try.f5 20) a0 v [17, 15, 15] = G at e96 ⊢
    generalize hρ : G.eval = ρ at e96
    have hρ' : G.eval = ρ := hρ
    refine Reg.go_run (Value.bool true) W ?_ ?_
    · rw [hρ']; simp [execOp, go_sem, e96]
    · exact ⟨Below.refl _ _, rfl⟩
set_option maxHeartbeats 4000000 in
set_option maxRecDepth 20000 in
theorem dots_b2_h19 :
    Reg.OpOK Try.prog (Reg.opsOf Try.f5 20) a0 w0 (dots_b2R vv aa gv gd ga m c ss) (fun _ _ _ _ => True) 19 := by
    refine Reg.op_no2 (fun af => { dst := some 98, op := Op.load 24 (Operand.tmp 8), type := 24, pos := "outright.go:87", after := af, guard := some (18, false) }) #[{ on := 18, ground := Ground.guard }] (by kernel_rfl) [18] (by kernel_rfl) fun af v W hb hd => ?_
    have d18 : v 18 = (Value.bool true) := hd 18 (by decide)
    have e97 := (Reg.gfr_eval (ops := (Reg.opsOf Try.f5 20)) (a0 := a0) (v := v) (L := [18]) 97 18 (by kernel_rfl) (by rw [hsz]; omega)).trans d18
    exact ⟨Reg.wanted_not rfl (by kernel_rfl) e97, rfl, fun _ _ _ _ => ⟨trivial, trivial⟩⟩
set_option maxHeartbeats 4000000 in
set_option maxRecDepth 20000 in
theorem dots_b2_h20 :
    Reg.OpOK Try.prog (Reg.opsOf Try.f5 20) a0 w0 (dots_b2R vv aa gv gd ga m c ss) (fun _ _ _ _ => True) 20 := by
    refine Reg.op_no2 (fun af => { dst := some 99, op := Op.load 35 (Operand.tmp 5), type := 35, pos := "outright.go:87", after := af, guard := some (18, false) }) #[{ on := 18, ground := Ground.guard }] (by kernel_rfl) [18] (by kernel_rfl) fun af v W hb hd => ?_
    have d18 : v 18 = (Value.bool true) := hd 18 (by decide)
    have e97 := (Reg.gfr_eval (ops := (Reg.opsOf Try.f5 20)) (a0 := a0) (v := v) (L := [18]) 97 18 (by kernel_rfl) (by rw [hsz]; omega)).trans d18
    exact ⟨Reg.wanted_not rfl (by kernel_rfl) e97, rfl, fun _ _ _ _ => ⟨trivial, trivial⟩⟩
set_option maxHeartbeats 4000000 in
set_option maxRecDepth 20000 in
theorem dots_b2_h21 :
    Reg.OpOK Try.prog (Reg.opsOf Try.f5 20) a0 w0 (dots_b2R vv aa gv gd ga m c ss) (fun _ _ _ _ => True) 21 := by
    refine Reg.op_no2 (fun af => { dst := some 100, op := Op.call { callee := Callee.value (Operand.func 18), args := #[Operand.tmp 98, Operand.tmp 99], argTypes := #[24, 35] }, type := 4, pos := "outright.go:87", after := af, guard := some (18, false) }) #[{ on := 19, ground := Ground.data }, { on := 20, ground := Ground.data }, { on := 18, ground := Ground.chain }, { on := 18, ground := Ground.guard }] (by kernel_rfl) [19, 20, 18, 18] (by kernel_rfl) fun af v W hb hd => ?_
    have d18 : v 18 = (Value.bool true) := hd 18 (by decide)
    have e97 := (Reg.gfr_eval (ops := (Reg.opsOf Try.f5 20)) (a0 := a0) (v := v) (L := [19, 20, 18, 18]) 97 18 (by kernel_rfl) (by rw [hsz]; omega)).trans d18
    exact ⟨Reg.wanted_not rfl (by kernel_rfl) e97, rfl, fun _ _ _ _ => ⟨trivial, trivial⟩⟩
set_option maxHeartbeats 4000000 in
set_option maxRecDepth 20000 in
theorem dots_b2_h22 :
    Reg.OpOK Try.prog (Reg.opsOf Try.f5 20) a0 w0 (dots_b2R vv aa gv gd ga m c ss) (fun _ _ _ _ => True) 22 := by
    refine Reg.op_ok2 (fun af => { dst := some 101, op := Op.pick (Operand.tmp 97) (Operand.const (Value.bool true)) (Operand.tmp 100), type := 4, pos := "outright.go:87", after := af, guard := some (15, true) }) #[{ on := 18, ground := Ground.data }, { on := 21, ground := Ground.data }, { on := 15, ground := Ground.guard }] (by kernel_rfl) [18, 21, 15] (by kernel_rfl) fun af v W hb hd => ?_
    have d15 : v 15 = (Value.bool true) := hd 15 (by decide)
    have d18 : v 18 = (Value.bool true) := hd 18 (by decide)
    have d21 : v 21 = undef := hd 21 (by decide)
    have e97 := (Reg.gfr_eval (ops := (Reg.opsOf Try.f5 20)) (a0 := a0) (v := v) (L := [18, 21, 15]) 97 18 (by kernel_rfl) (by rw [hsz]; omega)).trans d18
    have e100 := (Reg.gfr_eval (ops := (Reg.opsOf Try.f5 20)) (a0 := a0) (v := v) (L := [18, 21, 15]) 100 21 (by kernel_rfl) (by rw [hsz]; omega)).trans d21
    have e94 := (Reg.gfr_eval (ops := (Reg.opsOf Try.f5 20)) (a0 := a0) (v := v) (L := [18, 21, 15]) 94 15 (by kernel_rfl) (by rw [hsz]; omega)).trans d15
    refine ⟨Reg.wanted_of rfl (by kernel_rfl) e94, ?_⟩
    have eC : ∀ x, (Reg.gfr (Reg.opsOf Try.f5 20) a0 v [18, 21, 15]).eval (.const x) = x := fun _ => rfl
    generalize Reg.gfr (Reg.opsOf Try.f5 20) a0 v [18, 21, 15] = G at e97 e100 eC ⊢
    generalize hρ : G.eval = ρ at e97 e100 eC
    have hρ' : G.eval = ρ := hρ
    refine Reg.go_run (Value.bool true) W ?_ ?_
    · rw [hρ']; simp [execOp, go_sem, e97, e100, eC]
    · exact ⟨Below.refl _ _, rfl⟩
set_option maxHeartbeats 4000000 in
set_option maxRecDepth 20000 in
theorem dots_b2_h23 :
    Reg.OpOK Try.prog (Reg.opsOf Try.f5 20) a0 w0 (dots_b2R vv aa gv gd ga m c ss) (fun _ _ _ _ => True) 23 := by
    refine Reg.op_ok2 (fun af => { dst := some 102, op := Op.pick (Operand.tmp 94) (Operand.tmp 101) (Operand.const (Value.bool false)), type := 4, pos := "outright.go:87", after := af, guard := none }) #[{ on := 15, ground := Ground.data }, { on := 22, ground := Ground.data }] (by kernel_rfl) [15, 22] (by kernel_rfl) fun af v W hb hd => ?_
    have d15 : v 15 = (Value.bool true) := hd 15 (by decide)
    have d22 : v 22 = (Value.bool true) := hd 22 (by decide)
    have e94 := (Reg.gfr_eval (ops := (Reg.opsOf Try.f5 20)) (a0 := a0) (v := v) (L := [15, 22]) 94 15 (by kernel_rfl) (by rw [hsz]; omega)).trans d15
    have e101 := (Reg.gfr_eval (ops := (Reg.opsOf Try.f5 20)) (a0 := a0) (v := v) (L := [15, 22]) 101 22 (by kernel_rfl) (by rw [hsz]; omega)).trans d22
    refine ⟨Reg.wanted_none rfl, ?_⟩
    have eC : ∀ x, (Reg.gfr (Reg.opsOf Try.f5 20) a0 v [15, 22]).eval (.const x) = x := fun _ => rfl
    generalize Reg.gfr (Reg.opsOf Try.f5 20) a0 v [15, 22] = G at e94 e101 eC ⊢
    generalize hρ : G.eval = ρ at e94 e101 eC
    have hρ' : G.eval = ρ := hρ
    refine Reg.go_run (Value.bool true) W ?_ ?_
    · rw [hρ']; simp [execOp, go_sem, e94, e101, eC]
    · exact ⟨Below.refl _ _, rfl⟩
set_option maxHeartbeats 4000000 in
set_option maxRecDepth 20000 in
theorem dots_b2_h24 :
    Reg.OpOK Try.prog (Reg.opsOf Try.f5 20) a0 w0 (dots_b2R vv aa gv gd ga m c ss) (fun _ _ _ _ => True) 24 := by
    refine Reg.op_ok2 (fun af => { dst := some 103, op := Op.move (Operand.tmp 102), type := 4, pos := "outright.go:87", after := af, guard := none }) #[{ on := 23, ground := Ground.data }, { on := 21, ground := Ground.chain }] (by kernel_rfl) [23, 21] (by kernel_rfl) fun af v W hb hd => ?_
    have d23 : v 23 = (Value.bool true) := hd 23 (by decide)
    have e102 := (Reg.gfr_eval (ops := (Reg.opsOf Try.f5 20)) (a0 := a0) (v := v) (L := [23, 21]) 102 23 (by kernel_rfl) (by rw [hsz]; omega)).trans d23
    refine ⟨Reg.wanted_none rfl, ?_⟩
    generalize Reg.gfr (Reg.opsOf Try.f5 20) a0 v [23, 21] = G at e102 ⊢
    generalize hρ : G.eval = ρ at e102
    have hρ' : G.eval = ρ := hρ
    refine Reg.go_run (Value.bool true) W ?_ ?_
    · rw [hρ']; simp [execOp, go_sem, e102]
    · exact ⟨Below.refl _ _, rfl⟩
set_option maxHeartbeats 4000000 in
set_option maxRecDepth 20000 in
theorem dots_b2_h25 :
    Reg.OpOK Try.prog (Reg.opsOf Try.f5 20) a0 w0 (dots_b2R vv aa gv gd ga m c ss) (fun _ _ _ _ => True) 25 := by
    refine Reg.op_ok2 (fun af => { dst := some 104, op := Op.load 24 (Operand.tmp 8), type := 24, pos := "outright.go:87", after := af, guard := some (24, true) }) #[{ on := 24, ground := Ground.guard }] (by kernel_rfl) [24] (by kernel_rfl) fun af v W hb hd => ?_
    have d24 : v 24 = (Value.bool true) := hd 24 (by decide)
    have e8 := (Reg.gfr_eval0 (ops := (Reg.opsOf Try.f5 20)) (a0 := a0) (v := v) (L := [24]) 8 (by kernel_rfl)).trans i8
    have e103 := (Reg.gfr_eval (ops := (Reg.opsOf Try.f5 20)) (a0 := a0) (v := v) (L := [24]) 103 24 (by kernel_rfl) (by rw [hsz]; omega)).trans d24
    refine ⟨Reg.wanted_of rfl (by kernel_rfl) e103, ?_⟩
    generalize Reg.gfr (Reg.opsOf Try.f5 20) a0 v [24] = G at e8 ⊢
    generalize hρ : G.eval = ρ at e8
    have hρ' : G.eval = ρ := hρ
    exact fun K hK => wp_load_row 24 (.tmp 8) rfl ga (by rw [hρ']; exact e8) 24 (vC aa) (0, 0) _ (M_ga W hb) Try.underlying24 rfl (vec_size ha) (hK _ _ ⟨Below.refl _ _, rfl⟩)
set_option maxHeartbeats 4000000 in
set_option maxRecDepth 20000 in
theorem dots_b2_h26 :
    Reg.OpOK Try.prog (Reg.opsOf Try.f5 20) a0 w0 (dots_b2R vv aa gv gd ga m c ss) (fun _ _ _ _ => True) 26 := by
    refine Reg.op_ok2 (fun af => { dst := some 105, op := Op.load 35 (Operand.tmp 5), type := 35, pos := "outright.go:87", after := af, guard := some (24, true) }) #[{ on := 24, ground := Ground.guard }] (by kernel_rfl) [24] (by kernel_rfl) fun af v W hb hd => ?_
    have d24 : v 24 = (Value.bool true) := hd 24 (by decide)
    have e5 := (Reg.gfr_eval0 (ops := (Reg.opsOf Try.f5 20)) (a0 := a0) (v := v) (L := [24]) 5 (by kernel_rfl)).trans i5
    have e103 := (Reg.gfr_eval (ops := (Reg.opsOf Try.f5 20)) (a0 := a0) (v := v) (L := [24]) 103 24 (by kernel_rfl) (by rw [hsz]; omega)).trans d24
    refine ⟨Reg.wanted_of rfl (by kernel_rfl) e103, ?_⟩
    generalize Reg.gfr (Reg.opsOf Try.f5 20) a0 v [24] = G at e5 ⊢
    generalize hρ : G.eval = ρ at e5
    have hρ' : G.eval = ρ := hρ
    exact fun K hK => wp_load_row 35 (.tmp 5) rfl gd (by rw [hρ']; exact e5) 35 (dC ss c) (0, 0) _ (M_gd W hb) Try.underlying35 rfl size_dot (hK _ _ ⟨Below.refl _ _, rfl⟩)
set_option maxHeartbeats 4000000 in
set_option maxRecDepth 20000 in
theorem dots_b2_h27 :
    Reg.OpOK Try.prog (Reg.opsOf Try.f5 20) a0 w0 (dots_b2R vv aa gv gd ga m c ss) (fun _ _ _ _ => True) 27 := by
    refine Reg.op_ok2 (fun af => { dst := some 106, op := Op.call { callee := Callee.value (Operand.func 18), args := #[Operand.tmp 104, Operand.tmp 105], argTypes := #[24, 35] }, type := 4, pos := "outright.go:87", after := af, guard := some (24, true) }) #[{ on := 25, ground := Ground.data }, { on := 26, ground := Ground.data }, { on := 24, ground := Ground.chain }, { on := 24, ground := Ground.guard }] (by kernel_rfl) [25, 26, 24, 24] (by kernel_rfl) fun af v W hb hd => ?_
    have d24 : v 24 = (Value.bool true) := hd 24 (by decide)
    have d25 : v 25 = (Value.agg (vC aa)) := hd 25 (by decide)
    have d26 : v 26 = (Value.agg (dC ss c)) := hd 26 (by decide)
    have e104 := (Reg.gfr_eval (ops := (Reg.opsOf Try.f5 20)) (a0 := a0) (v := v) (L := [25, 26, 24, 24]) 104 25 (by kernel_rfl) (by rw [hsz]; omega)).trans d25
    have e105 := (Reg.gfr_eval (ops := (Reg.opsOf Try.f5 20)) (a0 := a0) (v := v) (L := [25, 26, 24, 24]) 105 26 (by kernel_rfl) (by rw [hsz]; omega)).trans d26
    have e103 := (Reg.gfr_eval (ops := (Reg.opsOf Try.f5 20)) (a0 := a0) (v := v) (L := [25, 26, 24, 24]) 103 24 (by kernel_rfl) (by rw [hsz]; omega)).trans d24
    refine ⟨Reg.wanted_of rfl (by kernel_rfl) e103, ?_⟩
    have eF : ∀ f, (Reg.gfr (Reg.opsOf Try.f5 20) a0 v [25, 26, 24, 24]).eval (.func f) = .func (.func f) #[] #[] := fun _ => rfl
    generalize Reg.gfr (Reg.opsOf Try.f5 20) a0 v [25, 26, 24, 24] = G at e104 e105 eF ⊢
    generalize hρ : G.eval = ρ at e104 e105 eF
    have hρ' : G.eval = ρ := hρ
    refine Reg.go_call 18 #[(Value.agg (vC aa)), (Value.agg (dC ss c))] (by rw [hρ']; simp [execOp, go_sem, e104, e105, eF]) ((has_any aa ha sa ss c W).mono fun e w' he => ?_)
    obtain ⟨rfl, hbb⟩ := he
    exact ⟨_, rfl, hbb, (show _ = _ from by rw [fh] <;> rfl)⟩
set_option maxHeartbeats 4000000 in
set_option maxRecDepth 20000 in
theorem dots_b2_h28 :
    Reg.OpOK Try.prog (Reg.opsOf Try.f5 20) a0 w0 (dots_b2R vv aa gv gd ga m c ss) (fun _ _ _ _ => True) 28 := by
    refine Reg.op_ok2 (fun af => { dst := some 107, op := Op.fieldAddr 35 (Operand.tmp 5) 0, type := 0, pos := "outright.go:87", after := af, guard := some (24, true) }) #[{ on := 24, ground := Ground.guard }] (by kernel_rfl) [24] (by kernel_rfl) fun af v W hb hd => ?_
    have d24 : v 24 = (Value.bool true) := hd 24 (by decide)
    have e5 := (Reg.gfr_eval0 (ops := (Reg.opsOf Try.f5 20)) (a0 := a0) (v := v) (L := [24]) 5 (by kernel_rfl)).trans i5
    have e103 := (Reg.gfr_eval (ops := (Reg.opsOf Try.f5 20)) (a0 := a0) (v := v) (L := [24]) 103 24 (by kernel_rfl) (by rw [hsz]; omega)).trans d24
    refine ⟨Reg.wanted_of rfl (by kernel_rfl) e103, ?_⟩
    generalize Reg.gfr (Reg.opsOf Try.f5 20) a0 v [24] = G at e5 ⊢
    generalize hρ : G.eval = ρ at e5
    have hρ' : G.eval = ρ := hρ
    refine Reg.go_run (Value.pointer (some ⟨gd, 0, none⟩)) W ?_ ?_
    · rw [hρ']; simp [execOp, go_sem, e5]
    · exact ⟨Below.refl _ _, rfl⟩
set_option maxHeartbeats 4000000 in
set_option maxRecDepth 20000 in
theorem dots_b2_h29 :
    Reg.OpOK Try.prog (Reg.opsOf Try.f5 20) a0 w0 (dots_b2R vv aa gv gd ga m c ss) (fun _ _ _ _ => True) 29 := by
    refine Reg.op_ok2 (fun af => { dst := some 108, op := Op.load 3 (Operand.tmp 107), type := 3, pos := "outright.go:87", after := af, guard := some (24, true) }) #[{ on := 28, ground := Ground.data }, { on := 24, ground := Ground.guard }] (by kernel_rfl) [28, 24] (by kernel_rfl) fun af v W hb hd => ?_
    have d24 : v 24 = (Value.bool true) := hd 24 (by decide)
    have d28 : v 28 = (Value.pointer (some ⟨gd, 0, none⟩)) := hd 28 (by decide)
    have e107 := (Reg.gfr_eval (ops := (Reg.opsOf Try.f5 20)) (a0 := a0) (v := v) (L := [28, 24]) 107 28 (by kernel_rfl) (by rw [hsz]; omega)).trans d28
    have e103 := (Reg.gfr_eval (ops := (Reg.opsOf Try.f5 20)) (a0 := a0) (v := v) (L := [28, 24]) 103 24 (by kernel_rfl) (by rw [hsz]; omega)).trans d24
    refine ⟨Reg.wanted_of rfl (by kernel_rfl) e103, ?_⟩
    generalize Reg.gfr (Reg.opsOf Try.f5 20) a0 v [28, 24] = G at e107 ⊢
    generalize hρ : G.eval = ρ at e107
    have hρ' : G.eval = ρ := hρ
    refine Reg.go_run (Value.int IntKind.i64 ss) W ?_ ?_
    · rw [hρ']; simp [execOp, go_sem, e107, CD0 W hb]
    · exact ⟨Below.refl _ _, rfl⟩
set_option maxHeartbeats 4000000 in
set_option maxRecDepth 20000 in
theorem dots_b2_h30 :
    Reg.OpOK Try.prog (Reg.opsOf Try.f5 20) a0 w0 (dots_b2R vv aa gv gd ga m c ss) (fun _ _ _ _ => True) 30 := by
    refine Reg.op_ok2 (fun af => { dst := some 109, op := Op.binOp BinOp.geq 3 (Operand.tmp 108) (Operand.const (Value.int IntKind.i64 0)) 3, type := 4, pos := "outright.go:87", after := af, guard := some (24, true) }) #[{ on := 29, ground := Ground.data }, { on := 24, ground := Ground.guard }] (by kernel_rfl) [29, 24] (by kernel_rfl) fun af v W hb hd => ?_
    have d24 : v 24 = (Value.bool true) := hd 24 (by decide)
    have d29 : v 29 = (Value.int IntKind.i64 ss) := hd 29 (by decide)
    have e108 := (Reg.gfr_eval (ops := (Reg.opsOf Try.f5 20)) (a0 := a0) (v := v) (L := [29, 24]) 108 29 (by kernel_rfl) (by rw [hsz]; omega)).trans d29
    have e103 := (Reg.gfr_eval (ops := (Reg.opsOf Try.f5 20)) (a0 := a0) (v := v) (L := [29, 24]) 103 24 (by kernel_rfl) (by rw [hsz]; omega)).trans d24
    refine ⟨Reg.wanted_of rfl (by kernel_rfl) e103, ?_⟩
    have eC : ∀ x, (Reg.gfr (Reg.opsOf Try.f5 20) a0 v [29, 24]).eval (.const x) = x := fun _ => rfl
    generalize Reg.gfr (Reg.opsOf Try.f5 20) a0 v [29, 24] = G at e108 eC ⊢
    generalize hρ : G.eval = ρ at e108 eC
    have hρ' : G.eval = ρ := hρ
    refine Reg.go_run (Value.bool true) W ?_ ?_
    · rw [hρ']; simp [execOp, go_sem, e108, eC, k1]
    · exact ⟨Below.refl _ _, rfl⟩
set_option maxHeartbeats 4000000 in
set_option maxRecDepth 20000 in
theorem dots_b2_h31 :
    Reg.OpOK Try.prog (Reg.opsOf Try.f5 20) a0 w0 (dots_b2R vv aa gv gd ga m c ss) (fun _ _ _ _ => True) 31 := by
    refine Reg.op_ok2 (fun af => { dst := some 110, op := Op.move (Operand.tmp 109), type := 4, pos := "outright.go:87", after := af, guard := some (24, true) }) #[{ on := 30, ground := Ground.data }, { on := 27, ground := Ground.chain }, { on := 24, ground := Ground.guard }] (by kernel_rfl) [30, 27, 24] (by kernel_rfl) fun af v W hb hd => ?_
    have d24 : v 24 = (Value.bool true) := hd 24 (by decide)
    have d30 : v 30 = (Value.bool true) := hd 30 (by decide)
    have e109 := (Reg.gfr_eval (ops := (Reg.opsOf Try.f5 20)) (a0 := a0) (v := v) (L := [30, 27, 24]) 109 30 (by kernel_rfl) (by rw [hsz]; omega)).trans d30
    have e103 := (Reg.gfr_eval (ops := (Reg.opsOf Try.f5 20)) (a0 := a0) (v := v) (L := [30, 27, 24]) 103 24 (by kernel_rfl) (by rw [hsz]; omega)).trans d24
    refine ⟨Reg.wanted_of rfl (by kernel_rfl) e103, ?_⟩
    generalize Reg.gfr (Reg.opsOf Try.f5 20) a0 v [30, 27, 24] = G at e109 ⊢
    generalize hρ : G.eval = ρ at e109
    have hρ' : G.eval = ρ := hρ
    refine Reg.go_run (Value.bool true) W ?_ ?_
    · rw [hρ']; simp [execOp, go_sem, e109]
    · exact ⟨Below.refl _ _, rfl⟩
set_option maxHeartbeats 4000000 in
set_option maxRecDepth 20000 in
theorem dots_b2_h32 :
    Reg.OpOK Try.prog (Reg.opsOf Try.f5 20) a0 w0 (dots_b2R vv aa gv gd ga m c ss) (fun _ _ _ _ => True) 32 := by
    refine Reg.op_ok2 (fun af => { dst := some 111, op := Op.fieldAddr 35 (Operand.tmp 5) 0, type := 0, pos := "outright.go:87", after := af, guard := some (31, true) }) #[{ on := 31, ground := Ground.guard }] (by kernel_rfl) [31] (by kernel_rfl) fun af v W hb hd => ?_
    have d31 : v 31 = (Value.bool true) := hd 31 (by decide)
    have e5 := (Reg.gfr_eval0 (ops := (Reg.opsOf Try.f5 20)) (a0 := a0) (v := v) (L := [31]) 5 (by kernel_rfl)).trans i5
    have e110 := (Reg.gfr_eval (ops := (Reg.opsOf Try.f5 20)) (a0 := a0) (v := v) (L := [31]) 110 31 (by kernel_rfl) (by rw [hsz]; omega)).trans d31
    refine ⟨Reg.wanted_of rfl (by kernel_rfl) e110, ?_⟩
    generalize Reg.gfr (Reg.opsOf Try.f5 20) a0 v [31] = G at e5 ⊢
    generalize hρ : G.eval = ρ at e5
    have hρ' : G.eval = ρ := hρ
    refine Reg.go_run (Value.pointer (some ⟨gd, 0, none⟩)) W ?_ ?_
    · rw [hρ']; simp [execOp, go_sem, e5]
    · exact ⟨Below.refl _ _, rfl⟩
set_option maxHeartbeats 4000000 in
set_option maxRecDepth 20000 in
theorem dots_b2_h33 :
    Reg.OpOK Try.prog (Reg.opsOf Try.f5 20) a0 w0 (dots_b2R vv aa gv gd ga m c ss) (fun _ _ _ _ => True) 33 := by
    refine Reg.op_ok2 (fun af => { dst := some 112, op := Op.load 3 (Operand.tmp 111), type := 3, pos := "outright.go:87", after := af, guard := some (31, true) }) #[{ on := 32, ground := Ground.data }, { on := 31, ground := Ground.guard }] (by kernel_rfl) [32, 31] (by kernel_rfl) fun af v W hb hd => ?_
    have d31 : v 31 = (Value.bool true) := hd 31 (by decide)
    have d32 : v 32 = (Value.pointer (some ⟨gd, 0, none⟩)) := hd 32 (by decide)
    have e111 := (Reg.gfr_eval (ops := (Reg.opsOf Try.f5 20)) (a0 := a0) (v := v) (L := [32, 31]) 111 32 (by kernel_rfl) (by rw [hsz]; omega)).trans d32
    have e110 := (Reg.gfr_eval (ops := (Reg.opsOf Try.f5 20)) (a0 := a0) (v := v) (L := [32, 31]) 110 31 (by kernel_rfl) (by rw [hsz]; omega)).trans d31
    refine ⟨Reg.wanted_of rfl (by kernel_rfl) e110, ?_⟩
    generalize Reg.gfr (Reg.opsOf Try.f5 20) a0 v [32, 31] = G at e111 ⊢
    generalize hρ : G.eval = ρ at e111
    have hρ' : G.eval = ρ := hρ
    refine Reg.go_run (Value.int IntKind.i64 ss) W ?_ ?_
    · rw [hρ']; simp [execOp, go_sem, e111, CD0 W hb]
    · exact ⟨Below.refl _ _, rfl⟩
set_option maxHeartbeats 4000000 in
set_option maxRecDepth 20000 in
theorem dots_b2_h34 :
    Reg.OpOK Try.prog (Reg.opsOf Try.f5 20) a0 w0 (dots_b2R vv aa gv gd ga m c ss) (fun _ _ _ _ => True) 34 := by
    refine Reg.op_ok2 (fun af => { dst := some 113, op := Op.binOp BinOp.lss 3 (Operand.tmp 112) (Operand.const (Value.int IntKind.i64 16)) 3, type := 4, pos := "outright.go:87", after := af, guard := some (31, true) }) #[{ on := 33, ground := Ground.data }, { on := 31, ground := Ground.guard }] (by kernel_rfl) [33, 31] (by kernel_rfl) fun af v W hb hd => ?_
    have d31 : v 31 = (Value.bool true) := hd 31 (by decide)
    have d33 : v 33 = (Value.int IntKind.i64 ss) := hd 33 (by decide)
    have e112 := (Reg.gfr_eval (ops := (Reg.opsOf Try.f5 20)) (a0 := a0) (v := v) (L := [33, 31]) 112 33 (by kernel_rfl) (by rw [hsz]; omega)).trans d33
    have e110 := (Reg.gfr_eval (ops := (Reg.opsOf Try.f5 20)) (a0 := a0) (v := v) (L := [33, 31]) 110 31 (by kernel_rfl) (by rw [hsz]; omega)).trans d31
    refine ⟨Reg.wanted_of rfl (by kernel_rfl) e110, ?_⟩
    have eC : ∀ x, (Reg.gfr (Reg.opsOf Try.f5 20) a0 v [33, 31]).eval (.const x) = x := fun _ => rfl
    generalize Reg.gfr (Reg.opsOf Try.f5 20) a0 v [33, 31] = G at e112 eC ⊢
    generalize hρ : G.eval = ρ at e112 eC
    have hρ' : G.eval = ρ := hρ
    refine Reg.go_run (Value.bool false) W ?_ ?_
    · rw [hρ']; simp [execOp, go_sem, e112, eC, k2]
    · exact ⟨Below.refl _ _, rfl⟩
set_option maxHeartbeats 4000000 in
set_option maxRecDepth 20000 in
theorem dots_b2_h35 :
    Reg.OpOK Try.prog (Reg.opsOf Try.f5 20) a0 w0 (dots_b2R vv aa gv gd ga m c ss) (fun _ _ _ _ => True) 35 := by
    refine Reg.op_ok2 (fun af => { dst := some 114, op := Op.pick (Operand.tmp 110) (Operand.tmp 113) (Operand.const (Value.bool false)), type := 4, pos := "outright.go:87", after := af, guard := some (24, true) }) #[{ on := 31, ground := Ground.data }, { on := 34, ground := Ground.data }, { on := 24, ground := Ground.guard }] (by kernel_rfl) [31, 34, 24] (by kernel_rfl) fun af v W hb hd => ?_
    have d24 : v 24 = (Value.bool true) := hd 24 (by decide)
    have d31 : v 31 = (Value.bool true) := hd 31 (by decide)
    have d34 : v 34 = (Value.bool false) := hd 34 (by decide)
    have e110 := (Reg.gfr_eval (ops := (Reg.opsOf Try.f5 20)) (a0 := a0) (v := v) (L := [31, 34, 24]) 110 31 (by kernel_rfl) (by rw [hsz]; omega)).trans d31
    have e113 := (Reg.gfr_eval (ops := (Reg.opsOf Try.f5 20)) (a0 := a0) (v := v) (L := [31, 34, 24]) 113 34 (by kernel_rfl) (by rw [hsz]; omega)).trans d34
    have e103 := (Reg.gfr_eval (ops := (Reg.opsOf Try.f5 20)) (a0 := a0) (v := v) (L := [31, 34, 24]) 103 24 (by kernel_rfl) (by rw [hsz]; omega)).trans d24
    refine ⟨Reg.wanted_of rfl (by kernel_rfl) e103, ?_⟩
    have eC : ∀ x, (Reg.gfr (Reg.opsOf Try.f5 20) a0 v [31, 34, 24]).eval (.const x) = x := fun _ => rfl
    generalize Reg.gfr (Reg.opsOf Try.f5 20) a0 v [31, 34, 24] = G at e110 e113 eC ⊢
    generalize hρ : G.eval = ρ at e110 e113 eC
    have hρ' : G.eval = ρ := hρ
    refine Reg.go_run (Value.bool false) W ?_ ?_
    · rw [hρ']; simp [execOp, go_sem, e110, e113, eC]
    · exact ⟨Below.refl _ _, rfl⟩
set_option maxHeartbeats 4000000 in
set_option maxRecDepth 20000 in
theorem dots_b2_h36 :
    Reg.OpOK Try.prog (Reg.opsOf Try.f5 20) a0 w0 (dots_b2R vv aa gv gd ga m c ss) (fun _ _ _ _ => True) 36 := by
    refine Reg.op_ok2 (fun af => { dst := some 115, op := Op.move (Operand.tmp 114), type := 4, pos := "outright.go:87", after := af, guard := some (24, true) }) #[{ on := 35, ground := Ground.data }, { on := 31, ground := Ground.chain }, { on := 24, ground := Ground.guard }] (by kernel_rfl) [35, 31, 24] (by kernel_rfl) fun af v W hb hd => ?_
    have d24 : v 24 = (Value.bool true) := hd 24 (by decide)
    have d35 : v 35 = (Value.bool false) := hd 35 (by decide)
    have e114 := (Reg.gfr_eval (ops := (Reg.opsOf Try.f5 20)) (a0 := a0) (v := v) (L := [35, 31, 24]) 114 35 (by kernel_rfl) (by rw [hsz]; omega)).trans d35
    have e103 := (Reg.gfr_eval (ops := (Reg.opsOf Try.f5 20)) (a0 := a0) (v := v) (L := [35, 31, 24]) 103 24 (by kernel_rfl) (by rw [hsz]; omega)).trans d24
    refine ⟨Reg.wanted_of rfl (by kernel_rfl) e103, ?_⟩
    generalize Reg.gfr (Reg.opsOf Try.f5 20) a0 v [35, 31, 24] = G at e114 ⊢
    generalize hρ : G.eval = ρ at e114
    have hρ' : G.eval = ρ := hρ
    refine Reg.go_run (Value.bool false) W ?_ ?_
    · rw [hρ']; simp [execOp, go_sem, e114]
    · exact ⟨Below.refl _ _, rfl⟩
set_option maxHeartbeats 4000000 in
set_option maxRecDepth 20000 in
theorem dots_b2_h37 :
    Reg.OpOK Try.prog (Reg.opsOf Try.f5 20) a0 w0 (dots_b2R vv aa gv gd ga m c ss) (fun _ _ _ _ => True) 37 := by
    refine Reg.op_no2 (fun af => { dst := some 116, op := Op.fieldAddr 35 (Operand.tmp 5) 1, type := 0, pos := "outright.go:87", after := af, guard := some (36, true) }) #[{ on := 36, ground := Ground.guard }] (by kernel_rfl) [36] (by kernel_rfl) fun af v W hb hd => ?_
    have d36 : v 36 = (Value.bool false) := hd 36 (by decide)
    have e115 := (Reg.gfr_eval (ops := (Reg.opsOf Try.f5 20)) (a0 := a0) (v := v) (L := [36]) 115 36 (by kernel_rfl) (by rw [hsz]; omega)).trans d36
    exact ⟨Reg.wanted_not rfl (by kernel_rfl) e115, rfl, fun _ _ _ _ => ⟨trivial, trivial⟩⟩
set_option maxHeartbeats 4000000 in
set_option maxRecDepth 20000 in
theorem dots_b2_h38 :
    Reg.OpOK Try.prog (Reg.opsOf Try.f5 20) a0 w0 (dots_b2R vv aa gv gd ga m c ss) (fun _ _ _ _ => True) 38 := by
    refine Reg.op_no2 (fun af => { dst := some 117, op := Op.load 3 (Operand.tmp 116), type := 3, pos := "outright.go:87", after := af, guard := some (36, true) }) #[{ on := 37, ground := Ground.data }, { on := 36, ground := Ground.guard }] (by kernel_rfl) [37, 36] (by kernel_rfl) fun af v W hb hd => ?_
    have d36 : v 36 = (Value.bool false) := hd 36 (by decide)
    have e115 := (Reg.gfr_eval (ops := (Reg.opsOf Try.f5 20)) (a0 := a0) (v := v) (L := [37, 36]) 115 36 (by kernel_rfl) (by rw [hsz]; omega)).trans d36
    exact ⟨Reg.wanted_not rfl (by kernel_rfl) e115, rfl, fun _ _ _ _ => ⟨trivial, trivial⟩⟩
set_option maxHeartbeats 4000000 in
set_option maxRecDepth 20000 in
theorem dots_b2_h39 :
    Reg.OpOK Try.prog (Reg.opsOf Try.f5 20) a0 w0 (dots_b2R vv aa gv gd ga m c ss) (fun _ _ _ _ => True) 39 := by
    refine Reg.op_no2 (fun af => { dst := some 118, op := Op.binOp BinOp.geq 3 (Operand.tmp 117) (Operand.const (Value.int IntKind.i64 1)) 3, type := 4, pos := "outright.go:87", after := af, guard := some (36, true) }) #[{ on := 38, ground := Ground.data }, { on := 36, ground := Ground.guard }] (by kernel_rfl) [38, 36] (by kernel_rfl) fun af v W hb hd => ?_
    have d36 : v 36 = (Value.bool false) := hd 36 (by decide)
    have e115 := (Reg.gfr_eval (ops := (Reg.opsOf Try.f5 20)) (a0 := a0) (v := v) (L := [38, 36]) 115 36 (by kernel_rfl) (by rw [hsz]; omega)).trans d36
    exact ⟨Reg.wanted_not rfl (by kernel_rfl) e115, rfl, fun _ _ _ _ => ⟨trivial, trivial⟩⟩
set_option maxHeartbeats 4000000 in
set_option maxRecDepth 20000 in
theorem dots_b2_h40 :
    Reg.OpOK Try.prog (Reg.opsOf Try.f5 20) a0 w0 (dots_b2R vv aa gv gd ga m c ss) (fun _ _ _ _ => True) 40 := by
    refine Reg.op_ok2 (fun af => { dst := some 119, op := Op.pick (Operand.tmp 115) (Operand.tmp 118) (Operand.const (Value.bool false)), type := 4, pos := "outright.go:87", after := af, guard := some (24, true) }) #[{ on := 36, ground := Ground.data }, { on := 39, ground := Ground.data }, { on := 24, ground := Ground.guard }] (by kernel_rfl) [36, 39, 24] (by kernel_rfl) fun af v W hb hd => ?_
    have d24 : v 24 = (Value.bool true) := hd 24 (by decide)
    have d36 : v 36 = (Value.bool false) := hd 36 (by decide)
    have d39 : v 39 = undef := hd 39 (by decide)
    have e115 := (Reg.gfr_eval (ops := (Reg.opsOf Try.f5 20)) (a0 := a0) (v := v) (L := [36, 39, 24]) 115 36 (by kernel_rfl) (by rw [hsz]; omega)).trans d36
    have e118 := (Reg.gfr_eval (ops := (Reg.opsOf Try.f5 20)) (a0 := a0) (v := v) (L := [36, 39, 24]) 118 39 (by kernel_rfl) (by rw [hsz]; omega)).trans d39
    have e103 := (Reg.gfr_eval (ops := (Reg.opsOf Try.f5 20)) (a0 := a0) (v := v) (L := [36, 39, 24]) 103 24 (by kernel_rfl) (by rw [hsz]; omega)).trans d24
    refine ⟨Reg.wanted_of rfl (by kernel_rfl) e103, ?_⟩
    have eC : ∀ x, (Reg.gfr (Reg.opsOf Try.f5 20) a0 v [36, 39, 24]).eval (.const x) = x := fun _ => rfl
    generalize Reg.gfr (Reg.opsOf Try.f5 20) a0 v [36, 39, 24] = G at e115 e118 eC ⊢
    generalize hρ : G.eval = ρ at e115 e118 eC
    have hρ' : G.eval = ρ := hρ
    refine Reg.go_run (Value.bool false) W ?_ ?_
    · rw [hρ']; simp [execOp, go_sem, e115, e118, eC]
    · exact ⟨Below.refl _ _, rfl⟩
set_option maxHeartbeats 4000000 in
set_option maxRecDepth 20000 in
theorem dots_b2_h41 :
    Reg.OpOK Try.prog (Reg.opsOf Try.f5 20) a0 w0 (dots_b2R vv aa gv gd ga m c ss) (fun _ _ _ _ => True) 41 := by
    refine Reg.op_ok2 (fun af => { dst := some 120, op := Op.move (Operand.tmp 119), type := 4, pos := "outright.go:87", after := af, guard := some (24, true) }) #[{ on := 40, ground := Ground.data }, { on := 36, ground := Ground.chain }, { on := 24, ground := Ground.guard }] (by kernel_rfl) [40, 36, 24] (by kernel_rfl) fun af v W hb hd => ?_
    have d24 : v 24 = (Value.bool true) := hd 24 (by decide)
    have d40 : v 40 = (Value.bool false) := hd 40 (by decide)
    have e119 := (Reg.gfr_eval (ops := (Reg.opsOf Try.f5 20)) (a0 := a0) (v := v) (L := [40, 36, 24]) 119 40 (by kernel_rfl) (by rw [hsz]; omega)).trans d40
    have e103 := (Reg.gfr_eval (ops := (Reg.opsOf Try.f5 20)) (a0 := a0) (v := v) (L := [40, 36, 24]) 103 24 (by kernel_rfl) (by rw [hsz]; omega)).trans d24
    refine ⟨Reg.wanted_of rfl (by kernel_rfl) e103, ?_⟩
    generalize Reg.gfr (Reg.opsOf Try.f5 20) a0 v [40, 36, 24] = G at e119 ⊢
    generalize hρ : G.eval = ρ at e119
    have hρ' : G.eval = ρ := hρ
    refine Reg.go_run (Value.bool false) W ?_ ?_
    · rw [hρ']; simp [execOp, go_sem, e119]
    · exact ⟨Below.refl _ _, rfl⟩
set_option maxHeartbeats 4000000 in
set_option maxRecDepth 20000 in
theorem dots_b2_h42 :
    Reg.OpOK Try.prog (Reg.opsOf Try.f5 20) a0 w0 (dots_b2R vv aa gv gd ga m c ss) (fun _ _ _ _ => True) 42 := by
    refine Reg.op_no2 (fun af => { dst := some 121, op := Op.fieldAddr 35 (Operand.tmp 5) 1, type := 0, pos := "outright.go:87", after := af, guard := some (41, true) }) #[{ on := 41, ground := Ground.guard }] (by kernel_rfl) [41] (by kernel_rfl) fun af v W hb hd => ?_
    have d41 : v 41 = (Value.bool false) := hd 41 (by decide)
    have e120 := (Reg.gfr_eval (ops := (Reg.opsOf Try.f5 20)) (a0 := a0) (v := v) (L := [41]) 120 41 (by kernel_rfl) (by rw [hsz]; omega)).trans d41
    exact ⟨Reg.wanted_not rfl (by kernel_rfl) e120, rfl, fun _ _ _ _ => ⟨trivial, trivial⟩⟩
set_option maxHeartbeats 4000000 in
set_option maxRecDepth 20000 in
theorem dots_b2_h43 :
    Reg.OpOK Try.prog (Reg.opsOf Try.f5 20) a0 w0 (dots_b2R vv aa gv gd ga m c ss) (fun _ _ _ _ => True) 43 := by
    refine Reg.op_no2 (fun af => { dst := some 122, op := Op.load 3 (Operand.tmp 121), type := 3, pos := "outright.go:87", after := af, guard := some (41, true) }) #[{ on := 42, ground := Ground.data }, { on := 41, ground := Ground.guard }] (by kernel_rfl) [42, 41] (by kernel_rfl) fun af v W hb hd => ?_
    have d41 : v 41 = (Value.bool false) := hd 41 (by decide)
    have e120 := (Reg.gfr_eval (ops := (Reg.opsOf Try.f5 20)) (a0 := a0) (v := v) (L := [42, 41]) 120 41 (by kernel_rfl) (by rw [hsz]; omega)).trans d41
    exact ⟨Reg.wanted_not rfl (by kernel_rfl) e120, rfl, fun _ _ _ _ => ⟨trivial, trivial⟩⟩
set_option maxHeartbeats 4000000 in
set_option maxRecDepth 20000 in
theorem dots_b2_h44 :
    Reg.OpOK Try.prog (Reg.opsOf Try.f5 20) a0 w0 (dots_b2R vv aa gv gd ga m c ss) (fun _ _ _ _ => True) 44 := by
    refine Reg.op_no2 (fun af => { dst := some 123, op := Op.fieldAddr 35 (Operand.tmp 5) 0, type := 0, pos := "outright.go:87", after := af, guard := some (41, true) }) #[{ on := 41, ground := Ground.guard }] (by kernel_rfl) [41] (by kernel_rfl) fun af v W hb hd => ?_
    have d41 : v 41 = (Value.bool false) := hd 41 (by decide)
    have e120 := (Reg.gfr_eval (ops := (Reg.opsOf Try.f5 20)) (a0 := a0) (v := v) (L := [41]) 120 41 (by kernel_rfl) (by rw [hsz]; omega)).trans d41
    exact ⟨Reg.wanted_not rfl (by kernel_rfl) e120, rfl, fun _ _ _ _ => ⟨trivial, trivial⟩⟩
set_option maxHeartbeats 4000000 in
set_option maxRecDepth 20000 in
theorem dots_b2_h45 :
    Reg.OpOK Try.prog (Reg.opsOf Try.f5 20) a0 w0 (dots_b2R vv aa gv gd ga m c ss) (fun _ _ _ _ => True) 45 := by
    refine Reg.op_no2 (fun af => { dst := some 124, op := Op.load 3 (Operand.tmp 123), type := 3, pos := "outright.go:87", after := af, guard := some (41, true) }) #[{ on := 44, ground := Ground.data }, { on := 41, ground := Ground.guard }] (by kernel_rfl) [44, 41] (by kernel_rfl) fun af v W hb hd => ?_
    have d41 : v 41 = (Value.bool false) := hd 41 (by decide)
    have e120 := (Reg.gfr_eval (ops := (Reg.opsOf Try.f5 20)) (a0 := a0) (v := v) (L := [44, 41]) 120 41 (by kernel_rfl) (by rw [hsz]; omega)).trans d41
    exact ⟨Reg.wanted_not rfl (by kernel_rfl) e120, rfl, fun _ _ _ _ => ⟨trivial, trivial⟩⟩
set_option maxHeartbeats 4000000 in
set_option maxRecDepth 20000 in
theorem dots_b2_h46 :
    Reg.OpOK Try.prog (Reg.opsOf Try.f5 20) a0 w0 (dots_b2R vv aa gv gd ga m c ss) (fun _ _ _ _ => True) 46 := by
    refine Reg.op_no2 (fun af => { dst := some 125, op := Op.binOp BinOp.rem 3 (Operand.tmp 124) (Operand.const (Value.int IntKind.i64 16)) 3, type := 3, pos := "outright.go:87", after := af, guard := some (41, true) }) #[{ on := 45, ground := Ground.data }, { on := 41, ground := Ground.guard }] (by kernel_rfl) [45, 41] (by kernel_rfl) fun af v W hb hd => ?_
    have d41 : v 41 = (Value.bool false) := hd 41 (by decide)
    have e120 := (Reg.gfr_eval (ops := (Reg.opsOf Try.f5 20)) (a0 := a0) (v := v) (L := [45, 41]) 120 41 (by kernel_rfl) (by rw [hsz]; omega)).trans d41
    exact ⟨Reg.wanted_not rfl (by kernel_rfl) e120, rfl, fun _ _ _ _ => ⟨trivial, trivial⟩⟩
set_option maxHeartbeats 4000000 in
set_option maxRecDepth 20000 in
theorem dots_b2_h47 :
    Reg.OpOK Try.prog (Reg.opsOf Try.f5 20) a0 w0 (dots_b2R vv aa gv gd ga m c ss) (fun _ _ _ _ => True) 47 := by
    refine Reg.op_no2 (fun af => { dst := some 126, op := Op.binOp BinOp.add 3 (Operand.tmp 125) (Operand.const (Value.int IntKind.i64 16)) 3, type := 3, pos := "outright.go:87", after := af, guard := some (41, true) }) #[{ on := 46, ground := Ground.data }, { on := 41, ground := Ground.guard }] (by kernel_rfl) [46, 41] (by kernel_rfl) fun af v W hb hd => ?_
    have d41 : v 41 = (Value.bool false) := hd 41 (by decide)
    have e120 := (Reg.gfr_eval (ops := (Reg.opsOf Try.f5 20)) (a0 := a0) (v := v) (L := [46, 41]) 120 41 (by kernel_rfl) (by rw [hsz]; omega)).trans d41
    exact ⟨Reg.wanted_not rfl (by kernel_rfl) e120, rfl, fun _ _ _ _ => ⟨trivial, trivial⟩⟩
set_option maxHeartbeats 4000000 in
set_option maxRecDepth 20000 in
theorem dots_b2_h48 :
    Reg.OpOK Try.prog (Reg.opsOf Try.f5 20) a0 w0 (dots_b2R vv aa gv gd ga m c ss) (fun _ _ _ _ => True) 48 := by
    refine Reg.op_no2 (fun af => { dst := some 127, op := Op.binOp BinOp.rem 3 (Operand.tmp 126) (Operand.const (Value.int IntKind.i64 16)) 3, type := 3, pos := "outright.go:87", after := af, guard := some (41, true) }) #[{ on := 47, ground := Ground.data }, { on := 41, ground := Ground.guard }] (by kernel_rfl) [47, 41] (by kernel_rfl) fun af v W hb hd => ?_
    have d41 : v 41 = (Value.bool false) := hd 41 (by decide)
    have e120 := (Reg.gfr_eval (ops := (Reg.opsOf Try.f5 20)) (a0 := a0) (v := v) (L := [47, 41]) 120 41 (by kernel_rfl) (by rw [hsz]; omega)).trans d41
    exact ⟨Reg.wanted_not rfl (by kernel_rfl) e120, rfl, fun _ _ _ _ => ⟨trivial, trivial⟩⟩
set_option maxHeartbeats 4000000 in
set_option maxRecDepth 20000 in
theorem dots_b2_h49 :
    Reg.OpOK Try.prog (Reg.opsOf Try.f5 20) a0 w0 (dots_b2R vv aa gv gd ga m c ss) (fun _ _ _ _ => True) 49 := by
    refine Reg.op_no2 (fun af => { dst := some 128, op := Op.indexAddr 24 (Operand.tmp 8) (Operand.tmp 127), type := 0, pos := "outright.go:87", after := af, guard := some (41, true) }) #[{ on := 48, ground := Ground.data }, { on := 41, ground := Ground.guard }] (by kernel_rfl) [48, 41] (by kernel_rfl) fun af v W hb hd => ?_
    have d41 : v 41 = (Value.bool false) := hd 41 (by decide)
    have e120 := (Reg.gfr_eval (ops := (Reg.opsOf Try.f5 20)) (a0 := a0) (v := v) (L := [48, 41]) 120 41 (by kernel_rfl) (by rw [hsz]; omega)).trans d41
    exact ⟨Reg.wanted_not rfl (by kernel_rfl) e120, rfl, fun _ _ _ _ => ⟨trivial, trivial⟩⟩
set_option maxHeartbeats 4000000 in
set_option maxRecDepth 20000 in
theorem dots_b2_h50 :
    Reg.OpOK Try.prog (Reg.opsOf Try.f5 20) a0 w0 (dots_b2R vv aa gv gd ga m c ss) (fun _ _ _ _ => True) 50 := by
    refine Reg.op_no2 (fun af => { dst := some 129, op := Op.load 22 (Operand.tmp 128), type := 22, pos := "outright.go:87", after := af, guard := some (41, true) }) #[{ on := 49, ground := Ground.data }, { on := 41, ground := Ground.guard }] (by kernel_rfl) [49, 41] (by kernel_rfl) fun af v W hb hd => ?_
    have d41 : v 41 = (Value.bool false) := hd 41 (by decide)
    have e120 := (Reg.gfr_eval (ops := (Reg.opsOf Try.f5 20)) (a0 := a0) (v := v) (L := [49, 41]) 120 41 (by kernel_rfl) (by rw [hsz]; omega)).trans d41
    exact ⟨Reg.wanted_not rfl (by kernel_rfl) e120, rfl, fun _ _ _ _ => ⟨trivial, trivial⟩⟩
set_option maxHeartbeats 4000000 in
set_option maxRecDepth 20000 in
theorem dots_b2_h51 :
    Reg.OpOK Try.prog (Reg.opsOf Try.f5 20) a0 w0 (dots_b2R vv aa gv gd ga m c ss) (fun _ _ _ _ => True) 51 := by
    refine Reg.op_no2 (fun af => { dst := some 130, op := Op.convert 22 3 (Operand.tmp 129), type := 3, pos := "outright.go:87", after := af, guard := some (41, true) }) #[{ on := 50, ground := Ground.data }, { on := 41, ground := Ground.guard }] (by kernel_rfl) [50, 41] (by kernel_rfl) fun af v W hb hd => ?_
    have d41 : v 41 = (Value.bool false) := hd 41 (by decide)
    have e120 := (Reg.gfr_eval (ops := (Reg.opsOf Try.f5 20)) (a0 := a0) (v := v) (L := [50, 41]) 120 41 (by kernel_rfl) (by rw [hsz]; omega)).trans d41
    exact ⟨Reg.wanted_not rfl (by kernel_rfl) e120, rfl, fun _ _ _ _ => ⟨trivial, trivial⟩⟩
set_option maxHeartbeats 4000000 in
set_option maxRecDepth 20000 in
theorem dots_b2_h52 :
    Reg.OpOK Try.prog (Reg.opsOf Try.f5 20) a0 w0 (dots_b2R vv aa gv gd ga m c ss) (fun _ _ _ _ => True) 52 := by
    refine Reg.op_no2 (fun af => { dst := some 131, op := Op.binOp BinOp.leq 3 (Operand.tmp 122) (Operand.tmp 130) 3, type := 4, pos := "outright.go:87", after := af, guard := some (41, true) }) #[{ on := 43, ground := Ground.data }, { on := 51, ground := Ground.data }, { on := 41, ground := Ground.guard }] (by kernel_rfl) [43, 51, 41] (by kernel_rfl) fun af v W hb hd => ?_
    have d41 : v 41 = (Value.bool false) := hd 41 (by decide)
    have e120 := (Reg.gfr_eval (ops := (Reg.opsOf Try.f5 20)) (a0 := a0) (v := v) (L := [43, 51, 41]) 120 41 (by kernel_rfl) (by rw [hsz]; omega)).trans d41
    exact ⟨Reg.wanted_not rfl (by kernel_rfl) e120, rfl, fun _ _ _ _ => ⟨trivial, trivial⟩⟩
set_option maxHeartbeats 4000000 in
set_option maxRecDepth 20000 in
theorem dots_b2_h53 :
    Reg.OpOK Try.prog (Reg.opsOf Try.f5 20) a0 w0 (dots_b2R vv aa gv gd ga m c ss) (fun _ _ _ _ => True) 53 := by
    refine Reg.op_ok2 (fun af => { dst := some 132, op := Op.pick (Operand.tmp 120) (Operand.tmp 131) (Operand.const (Value.bool false)), type := 4, pos := "outright.go:87", after := af, guard := some (24, true) }) #[{ on := 41, ground := Ground.data }, { on := 52, ground := Ground.data }, { on := 24, ground := Ground.guard }] (by kernel_rfl) [41, 52, 24] (by kernel_rfl) fun af v W hb hd => ?_
    have d24 : v 24 = (Value.bool true) := hd 24 (by decide)
    have d41 : v 41 = (Value.bool false) := hd 41 (by decide)
    have d52 : v 52 = undef := hd 52 (by decide)
    have e120 := (Reg.gfr_eval (ops := (Reg.opsOf Try.f5 20)) (a0 := a0) (v := v) (L := [41, 52, 24]) 120 41 (by kernel_rfl) (by rw [hsz]; omega)).trans d41
    have e131 := (Reg.gfr_eval (ops := (Reg.opsOf Try.f5 20)) (a0 := a0) (v := v) (L := [41, 52, 24]) 131 52 (by kernel_rfl) (by rw [hsz]; omega)).trans d52
    have e103 := (Reg.gfr_eval (ops := (Reg.opsOf Try.f5 20)) (a0 := a0) (v := v) (L := [41, 52, 24]) 103 24 (by kernel_rfl) (by rw [hsz]; omega)).trans d24
    refine ⟨Reg.wanted_of rfl (by kernel_rfl) e103, ?_⟩
    have eC : ∀ x, (Reg.gfr (Reg.opsOf Try.f5 20) a0 v [41, 52, 24]).eval (.const x) = x := fun _ => rfl
    generalize Reg.gfr (Reg.opsOf Try.f5 20) a0 v [41, 52, 24] = G at e120 e131 eC ⊢
    generalize hρ : G.eval = ρ at e120 e131 eC
    have hρ' : G.eval = ρ := hρ
    refine Reg.go_run (Value.bool false) W ?_ ?_
    · rw [hρ']; simp [execOp, go_sem, e120, e131, eC]
    · exact ⟨Below.refl _ _, rfl⟩
set_option maxHeartbeats 4000000 in
set_option maxRecDepth 20000 in
theorem dots_b2_h54 :
    Reg.OpOK Try.prog (Reg.opsOf Try.f5 20) a0 w0 (dots_b2R vv aa gv gd ga m c ss) (fun _ _ _ _ => True) 54 := by
    refine Reg.op_ok2 (fun af => { dst := some 133, op := Op.binOp BinOp.eql 4 (Operand.tmp 106) (Operand.tmp 132) 4, type := 4, pos := "outright.go:87", after := af, guard := some (24, true) }) #[{ on := 27, ground := Ground.data }, { on := 53, ground := Ground.data }, { on := 24, ground := Ground.guard }] (by kernel_rfl) [27, 53, 24] (by kernel_rfl) fun af v W hb hd => ?_
    have d24 : v 24 = (Value.bool true) := hd 24 (by decide)
    have d27 : v 27 = (Value.bool false) := hd 27 (by decide)
    have d53 : v 53 = (Value.bool false) := hd 53 (by decide)
    have e106 := (Reg.gfr_eval (ops := (Reg.opsOf Try.f5 20)) (a0 := a0) (v := v) (L := [27, 53, 24]) 106 27 (by kernel_rfl) (by rw [hsz]; omega)).trans d27
    have e132 := (Reg.gfr_eval (ops := (Reg.opsOf Try.f5 20)) (a0 := a0) (v := v) (L := [27, 53, 24]) 132 53 (by kernel_rfl) (by rw [hsz]; omega)).trans d53
    have e103 := (Reg.gfr_eval (ops := (Reg.opsOf Try.f5 20)) (a0 := a0) (v := v) (L := [27, 53, 24]) 103 24 (by kernel_rfl) (by rw [hsz]; omega)).trans d24
    refine ⟨Reg.wanted_of rfl (by kernel_rfl) e103, ?_⟩
    generalize Reg.gfr (Reg.opsOf Try.f5 20) a0 v [27, 53, 24] = G at e106 e132 ⊢
    generalize hρ : G.eval = ρ at e106 e132
    have hρ' : G.eval = ρ := hρ
    refine Reg.go_run (Value.bool true) W ?_ ?_
    · rw [hρ']; simp [execOp, go_sem, e106, e132]
    · exact ⟨Below.refl _ _, rfl⟩
set_option maxHeartbeats 4000000 in
set_option maxRecDepth 20000 in
theorem dots_b2_h55 :
    Reg.OpOK Try.prog (Reg.opsOf Try.f5 20) a0 w0 (dots_b2R vv aa gv gd ga m c ss) (fun _ _ _ _ => True) 55 := by
    refine Reg.op_ok2 (fun af => { dst := some 134, op := Op.pick (Operand.tmp 103) (Operand.tmp 133) (Operand.const (Value.bool false)), type := 4, pos := "outright.go:87", after := af, guard := none }) #[{ on := 24, ground := Ground.data }, { on := 54, ground := Ground.data }] (by kernel_rfl) [24, 54] (by kernel_rfl) fun af v W hb hd => ?_
    have d24 : v 24 = (Value.bool true) := hd 24 (by decide)
    have d54 : v 54 = (Value.bool true) := hd 54 (by decide)
    have e103 := (Reg.gfr_eval (ops := (Reg.opsOf Try.f5 20)) (a0 := a0) (v := v) (L := [24, 54]) 103 24 (by kernel_rfl) (by rw [hsz]; omega)).trans d24
    have e133 := (Reg.gfr_eval (ops := (Reg.opsOf Try.f5 20)) (a0 := a0) (v := v) (L := [24, 54]) 133 54 (by kernel_rfl) (by rw [hsz]; omega)).trans d54
    refine ⟨Reg.wanted_none rfl, ?_⟩
    have eC : ∀ x, (Reg.gfr (Reg.opsOf Try.f5 20) a0 v [24, 54]).eval (.const x) = x := fun _ => rfl
    generalize Reg.gfr (Reg.opsOf Try.f5 20) a0 v [24, 54] = G at e103 e133 eC ⊢
    generalize hρ : G.eval = ρ at e103 e133 eC
    have hρ' : G.eval = ρ := hρ
    refine Reg.go_run (Value.bool true) W ?_ ?_
    · rw [hρ']; simp [execOp, go_sem, e103, e133, eC]
    · exact ⟨Below.refl _ _, rfl⟩
set_option maxHeartbeats 4000000 in
set_option maxRecDepth 20000 in
theorem dots_b2_h56 :
    Reg.OpOK Try.prog (Reg.opsOf Try.f5 20) a0 w0 (dots_b2R vv aa gv gd ga m c ss) (fun _ _ _ _ => True) 56 := by
    refine Reg.op_ok2 (fun af => { dst := some 6, op := Op.assign (Operand.tmp 134), type := 4, pos := "outright.go:87", after := af, guard := none }) #[{ on := 55, ground := Ground.data }, { on := 41, ground := Ground.chain }, { on := 0, ground := Ground.phase }, { on := 1, ground := Ground.phase }, { on := 2, ground := Ground.phase }, { on := 3, ground := Ground.phase }, { on := 4, ground := Ground.phase }, { on := 5, ground := Ground.phase }, { on := 6, ground := Ground.phase }, { on := 7, ground := Ground.phase }, { on := 8, ground := Ground.phase }, { on := 9, ground := Ground.phase }, { on := 10, ground := Ground.phase }, { on := 11, ground := Ground.phase }, { on := 12, ground := Ground.phase }, { on := 13, ground := Ground.phase }, { on := 14, ground := Ground.phase }, { on := 15, ground := Ground.phase }, { on := 16, ground := Ground.phase }, { on := 17, ground := Ground.phase }, { on := 18, ground := Ground.phase }, { on := 19, ground := Ground.phase }, { on := 20, ground := Ground.phase }, { on := 21, ground := Ground.phase }, { on := 22, ground := Ground.phase }, { on := 23, ground := Ground.phase }, { on := 24, ground := Ground.phase }, { on := 25, ground := Ground.phase }, { on := 26, ground := Ground.phase }, { on := 27, ground := Ground.phase }, { on := 28, ground := Ground.phase }, { on := 29, ground := Ground.phase }, { on := 30, ground := Ground.phase }, { on := 31, ground := Ground.phase }, { on := 32, ground := Ground.phase }, { on := 33, ground := Ground.phase }, { on := 34, ground := Ground.phase }, { on := 35, ground := Ground.phase }, { on := 36, ground := Ground.phase }, { on := 37, ground := Ground.phase }, { on := 38, ground := Ground.phase }, { on := 39, ground := Ground.phase }, { on := 40, ground := Ground.phase }, { on := 41, ground := Ground.phase }, { on := 42, ground := Ground.phase }, { on := 43, ground := Ground.phase }, { on := 44, ground := Ground.phase }, { on := 45, ground := Ground.phase }, { on := 46, ground := Ground.phase }, { on := 47, ground := Ground.phase }, { on := 48, ground := Ground.phase }, { on := 49, ground := Ground.phase }, { on := 50, ground := Ground.phase }, { on := 51, ground := Ground.phase }, { on := 52, ground := Ground.phase }, { on := 53, ground := Ground.phase }, { on := 54, ground := Ground.phase }, { on := 55, ground := Ground.phase }] (by kernel_rfl) [55, 41, 0, 1, 2, 3, 4, 5, 6, 7, 8, 9, 10, 11, 12, 13, 14, 15, 16, 17, 18, 19, 20, 21, 22, 23, 24, 25, 26, 27, 28, 29, 30, 31, 32, 33, 34, 35, 36, 37, 38, 39, 40, 41, 42, 43, 44, 45, 46, 47, 48, 49, 50, 51, 52, 53, 54, 55] (by kernel_rfl) fun af v W hb hd => ?_
    have d55 : v 55 = (Value.bool true) := hd 55 (by decide)
    have e134 := (Reg.gfr_eval (ops := (Reg.opsOf Try.f5 20)) (a0 := a0) (v := v) (L := [55, 41, 0, 1, 2, 3, 4, 5, 6, 7, 8, 9, 10, 11, 12, 13, 14, 15, 16, 17, 18, 19, 20, 21, 22, 23, 24, 25, 26, 27, 28, 29, 30, 31, 32, 33, 34, 35, 36, 37, 38, 39, 40, 41, 42, 43, 44, 45, 46, 47, 48, 49, 50, 51, 52, 53, 54, 55]) 134 55 (by kernel_rfl) (by rw [hsz]; omega)).trans d55
    refine ⟨Reg.wanted_none rfl, ?_⟩
    generalize Reg.gfr (Reg.opsOf Try.f5 20) a0 v [55, 41, 0, 1, 2, 3, 4, 5, 6, 7, 8, 9, 10, 11, 12, 13, 14, 15, 16, 17, 18, 19, 20, 21, 22, 23, 24, 25, 26, 27, 28, 29, 30, 31, 32, 33, 34, 35, 36, 37, 38, 39, 40, 41, 42, 43, 44, 45, 46, 47, 48, 49, 50, 51, 52, 53, 54, 55] = G at e134 ⊢
    generalize hρ : G.eval = ρ at e134
    have hρ' : G.eval = ρ := hρ
    refine Reg.go_run (Value.bool true) W ?_ ?_
    · rw [hρ']; simp [execOp, go_sem, e134]
    · exact ⟨Below.refl _ _, rfl⟩
end
set_option maxHeartbeats 4000000 in
set_option maxRecDepth 20000 in
theorem dots_b2 (vv aa : List Nat) (gv gd ga m : Nat) (c : Int) (ss : Int) (w0 : World) {s0 s1 s2 s4 s6 s10 s11 s12 s13 s14 s15 s17 s18 s19 s20 s21 s22 s23 s24 s25 s26 s27 s28 s29 s30 s31 s32 s33 s34 s35 s36 s37 s38 s39 s40 s41 s42 s43 s44 s45 s46 s47 s48 s49 s50 s51 s52 s53 s54 s55 s56 s57 s58 s59 s60 s61 s62 s63 s64 s65 s66 s67 s68 s69 s70 s71 s72 s73 s74 s75 s76 s77 s78 s79 s80 s81 s82 s83 s84 s85 s86 s87 s88 s89 s90 s91 s92 s93 s94 s95 s96 s97 s98 s99 s100 s101 s102 s103 s104 s105 s106 s107 s108 s109 s110 s111 s112 s113 s114 s115 s116 s117 s118 s119 s120 s121 s122 s123 s124 s125 s126 s127 s128 s129 s130 s131 s132 s133 s134 : Value}
    (hv : vv.length = 16) (ha : aa.length = 16) (sv : small vv) (sa : small aa) (mw : IntKind.u64.wrap (m : Int) = m) (l1 : lackV vv aa = m) (l2 : lackV aa vv = 0) (fh : hasV aa ss c = false)
    (k1 : ((0 : Int) ≤ ss) = True) (k2 : (ss < 16) = False)
    (M_gv : ∀ W, Below w0.heap.size w0 W → W.heap[gv]? = some (.cells (vC vv) 24 (0, 0)))
    (M_ga : ∀ W, Below w0.heap.size w0 W → W.heap[ga]? = some (.cells (vC aa) 24 (0, 0)))
    (M_gd : ∀ W, Below w0.heap.size w0 W → W.heap[gd]? = some (.cells (dC ss c) 35 (0, 0)))
    (CD0 : ∀ W, Below w0.heap.size w0 W → W.cell? ⟨gd, 0, none⟩ = some (Value.int IntKind.i64 ss))
    (CD1 : ∀ W, Below w0.heap.size w0 W → W.cell? ⟨gd, 1, none⟩ = some (Value.int IntKind.i64 c))
    {Q : Exit → Act → World → Prop}
    (hend : ∀ (w : World), Below w0.heap.size w0 w → Q .normal { tmps := #[s0, s1, s2, (Value.pointer (some ⟨gv, 0, none⟩)), s4, (Value.pointer (some ⟨gd, 0, none⟩)), (Value.bool true), (Value.bool true), (Value.pointer (some ⟨ga, 0, none⟩)), (Value.int IntKind.i64 (m : Int)), s10, s11, s12, s13, s14, s15, (Value.bool false), s17, s18, s19, s20, s21, s22, s23, s24, s25, s26, s27, s28, s29, s30, s31, s32, s33, s34, s35, s36, s37, s38, s39, s40, s41, s42, s43, s44, s45, s46, s47, s48, s49, s50, s51, s52, s53, s54, s55, s56, s57, s58, s59, s60, s61, s62, s63, s64, s65, s66, s67, s68, s69, s70, s71, s72, s73, s74, s75, s76, s77, s78, (Value.bool true), (Value.bool true), (Value.agg (vC vv)), (Value.agg (vC aa)), (Value.int IntKind.u64 (m : Int)), (Value.int IntKind.i64 (m : Int)), (Value.int IntKind.u64 (m : Int)), (Value.bool true), (Value.bool true), (Value.bool true), (Value.agg (vC aa)), (Value.agg (vC vv)), (Value.int IntKind.u64 0), (Value.bool true), (Value.bool true), (Value.bool true), (Value.bool false), (Value.bool true), (Value.bool true), undef, undef, undef, (Value.bool true), (Value.bool true), (Value.bool true), (Value.agg (vC aa)), (Value.agg (dC ss c)), (Value.bool false), (Value.pointer (some ⟨gd, 0, none⟩)), (Value.int IntKind.i64 ss), (Value.bool true), (Value.bool true), (Value.pointer (some ⟨gd, 0, none⟩)), (Value.int IntKind.i64 ss), (Value.bool false), (Value.bool false), (Value.bool false), undef, undef, undef, (Value.bool false), (Value.bool false), undef, undef, undef, undef, undef, undef, undef, undef, undef, undef, undef, (Value.bool false), (Value.bool true), (Value.bool true)], defers := [] } w) :
    (Code.region 20 (Reg.opsOf Try.f5 20) true).wp Try.prog Q { tmps := #[s0, s1, s2, (Value.pointer (some ⟨gv, 0, none⟩)), s4, (Value.pointer (some ⟨gd, 0, none⟩)), s6, (Value.bool true), (Value.pointer (some ⟨ga, 0, none⟩)), (Value.int IntKind.i64 (m : Int)), s10, s11, s12, s13, s14, s15, (Value.bool false), s17, s18, s19, s20, s21, s22, s23, s24, s25, s26, s27, s28, s29, s30, s31, s32, s33, s34, s35, s36, s37, s38, s39, s40, s41, s42, s43, s44, s45, s46, s47, s48, s49, s50, s51, s52, s53, s54, s55, s56, s57, s58, s59, s60, s61, s62, s63, s64, s65, s66, s67, s68, s69, s70, s71, s72, s73, s74, s75, s76, s77, s78, s79, s80, s81, s82, s83, s84, s85, s86, s87, s88, s89, s90, s91, s92, s93, s94, s95, s96, s97, s98, s99, s100, s101, s102, s103, s104, s105, s106, s107, s108, s109, s110, s111, s112, s113, s114, s115, s116, s117, s118, s119, s120, s121, s122, s123, s124, s125, s126, s127, s128, s129, s130, s131, s132, s133, s134], defers := [] } w0 := by
  obtain ⟨a0, ha0⟩ : ∃ a0 : Act, a0 = { tmps := #[s0, s1, s2, (Value.pointer (some ⟨gv, 0, none⟩)), s4, (Value.pointer (some ⟨gd, 0, none⟩)), s6, (Value.bool true), (Value.pointer (some ⟨ga, 0, none⟩)), (Value.int IntKind.i64 (m : Int)), s10, s11, s12, s13, s14, s15, (Value.bool false), s17, s18, s19, s20, s21, s22, s23, s24, s25, s26, s27, s28, s29, s30, s31, s32, s33, s34, s35, s36, s37, s38, s39, s40, s41, s42, s43, s44, s45, s46, s47, s48, s49, s50, s51, s52, s53, s54, s55, s56, s57, s58, s59, s60, s61, s62, s63, s64, s65, s66, s67, s68, s69, s70, s71, s72, s73, s74, s75, s76, s77, s78, s79, s80, s81, s82, s83, s84, s85, s86, s87, s88, s89, s90, s91, s92, s93, s94, s95, s96, s97, s98, s99, s100, s101, s102, s103, s104, s105, s106, s107, s108, s109, s110, s111, s112, s113, s114, s115, s116, s117, s118, s119, s120, s121, s122, s123, s124, s125, s126, s127, s128, s129, s130, s131, s132, s133, s134], defers := [] } := ⟨_, rfl⟩
  have hfin : ∀ v : Nat → Value, Reg.gfr (Reg.opsOf Try.f5 20) a0 v (List.range 57) = { tmps := #[s0, s1, s2, (Value.pointer (some ⟨gv, 0, none⟩)), s4, (Value.pointer (some ⟨gd, 0, none⟩)), v 56, (Value.bool true), (Value.pointer (some ⟨ga, 0, none⟩)), (Value.int IntKind.i64 (m : Int)), s10, s11, s12, s13, s14, s15, (Value.bool false), s17, s18, s19, s20, s21, s22, s23, s24, s25, s26, s27, s28, s29, s30, s31, s32, s33, s34, s35, s36, s37, s38, s39, s40, s41, s42, s43, s44, s45, s46, s47, s48, s49, s50, s51, s52, s53, s54, s55, s56, s57, s58, s59, s60, s61, s62, s63, s64, s65, s66, s67, s68, s69, s70, s71, s72, s73, s74, s75, s76, s77, s78, v 0, v 1, v 2, v 3, v 4, v 5, v 6, v 7, v 8, v 9, v 10, v 11, v 12, v 13, v 14, v 15, v 16, v 17, v 18, v 19, v 20, v 21, v 22, v 23, v 24, v 25, v 26, v 27, v 28, v 29, v 30, v 31, v 32, v 33, v 34, v 35, v 36, v 37, v 38, v 39, v 40, v 41, v 42, v 43, v 44, v 45, v 46, v 47, v 48, v 49, v 50, v 51, v 52, v 53, v 54, v 55], defers := [] } := fun v => by rw [ha0]; kernel_rfl
  rw [← ha0]
  have i3 : a0.eval (.tmp 3) = (Value.pointer (some ⟨gv, 0, none⟩)) := by rw [ha0]; rfl
  have i5 : a0.eval (.tmp 5) = (Value.pointer (some ⟨gd, 0, none⟩)) := by rw [ha0]; rfl
  have i7 : a0.eval (.tmp 7) = (Value.bool true) := by rw [ha0]; rfl
  have i8 : a0.eval (.tmp 8) = (Value.pointer (some ⟨ga, 0, none⟩)) := by rw [ha0]; rfl
  have i9 : a0.eval (.tmp 9) = (Value.int IntKind.i64 (m : Int)) := by rw [ha0]; rfl
  have i16 : a0.eval (.tmp 16) = (Value.bool false) := by rw [ha0]; rfl
  have hsz : a0.tmps.size = 135 := by rw [ha0]; rfl
  clear ha0
  have hn : (Reg.opsOf Try.f5 20).size = 57 := by kernel_rfl
  have h0 := dots_b2_h0 vv aa gv gd ga m c ss w0 a0 hv ha sv sa mw l1 l2 fh k1 k2 M_gv M_ga M_gd CD0 CD1 i3 i5 i7 i8 i9 i16 hsz
  have h1 := dots_b2_h1 vv aa gv gd ga m c ss w0 a0 hv ha sv sa mw l1 l2 fh k1 k2 M_gv M_ga M_gd CD0 CD1 i3 i5 i7 i8 i9 i16 hsz
  have h2 := dots_b2_h2 vv aa gv gd ga m c ss w0 a0 hv ha sv sa mw l1 l2 fh k1 k2 M_gv M_ga M_gd CD0 CD1 i3 i5 i7 i8 i9 i16 hsz
  have h3 := dots_b2_h3 vv aa gv gd ga m c ss w0 a0 hv ha sv sa mw l1 l2 fh k1 k2 M_gv M_ga M_gd CD0 CD1 i3 i5 i7 i8 i9 i16 hsz
  have h4 := dots_b2_h4 vv aa gv gd ga m c ss w0 a0 hv ha sv sa mw l1 l2 fh k1 k2 M_gv M_ga M_gd CD0 CD1 i3 i5 i7 i8 i9 i16 hsz
  have h5 := dots_b2_h5 vv aa gv gd ga m c ss w0 a0 hv ha sv sa mw l1 l2 fh k1 k2 M_gv M_ga M_gd CD0 CD1 i3 i5 i7 i8 i9 i16 hsz
  have h6 := dots_b2_h6 vv aa gv gd ga m c ss w0 a0 hv ha sv sa mw l1 l2 fh k1 k2 M_gv M_ga M_gd CD0 CD1 i3 i5 i7 i8 i9 i16 hsz
  have h7 := dots_b2_h7 vv aa gv gd ga m c ss w0 a0 hv ha sv sa mw l1 l2 fh k1 k2 M_gv M_ga M_gd CD0 CD1 i3 i5 i7 i8 i9 i16 hsz
  have h8 := dots_b2_h8 vv aa gv gd ga m c ss w0 a0 hv ha sv sa mw l1 l2 fh k1 k2 M_gv M_ga M_gd CD0 CD1 i3 i5 i7 i8 i9 i16 hsz
  have h9 := dots_b2_h9 vv aa gv gd ga m c ss w0 a0 hv ha sv sa mw l1 l2 fh k1 k2 M_gv M_ga M_gd CD0 CD1 i3 i5 i7 i8 i9 i16 hsz
  have h10 := dots_b2_h10 vv aa gv gd ga m c ss w0 a0 hv ha sv sa mw l1 l2 fh k1 k2 M_gv M_ga M_gd CD0 CD1 i3 i5 i7 i8 i9 i16 hsz
  have h11 := dots_b2_h11 vv aa gv gd ga m c ss w0 a0 hv ha sv sa mw l1 l2 fh k1 k2 M_gv M_ga M_gd CD0 CD1 i3 i5 i7 i8 i9 i16 hsz
  have h12 := dots_b2_h12 vv aa gv gd ga m c ss w0 a0 hv ha sv sa mw l1 l2 fh k1 k2 M_gv M_ga M_gd CD0 CD1 i3 i5 i7 i8 i9 i16 hsz
  have h13 := dots_b2_h13 vv aa gv gd ga m c ss w0 a0 hv ha sv sa mw l1 l2 fh k1 k2 M_gv M_ga M_gd CD0 CD1 i3 i5 i7 i8 i9 i16 hsz
  have h14 := dots_b2_h14 vv aa gv gd ga m c ss w0 a0 hv ha sv sa mw l1 l2 fh k1 k2 M_gv M_ga M_gd CD0 CD1 i3 i5 i7 i8 i9 i16 hsz
  have h15 := dots_b2_h15 vv aa gv gd ga m c ss w0 a0 hv ha sv sa mw l1 l2 fh k1 k2 M_gv M_ga M_gd CD0 CD1 i3 i5 i7 i8 i9 i16 hsz
  have h16 := dots_b2_h16 vv aa gv gd ga m c ss w0 a0 hv ha sv sa mw l1 l2 fh k1 k2 M_gv M_ga M_gd CD0 CD1 i3 i5 i7 i8 i9 i16 hsz
  have h17 := dots_b2_h17 vv aa gv gd ga m c ss w0 a0 hv ha sv sa mw l1 l2 fh k1 k2 M_gv M_ga M_gd CD0 CD1 i3 i5 i7 i8 i9 i16 hsz
  have h18 := dots_b2_h18 vv aa gv gd ga m c ss w0 a0 hv ha sv sa mw l1 l2 fh k1 k2 M_gv M_ga M_gd CD0 CD1 i3 i5 i7 i8 i9 i16 hsz
  have h19 := dots_b2_h19 vv aa gv gd ga m c ss w0 a0 hv ha sv sa mw l1 l2 fh k1 k2 M_gv M_ga M_gd CD0 CD1 i3 i5 i7 i8 i9 i16 hsz
  have h20 := dots_b2_h20 vv aa gv gd ga m c ss w0 a0 hv ha sv sa mw l1 l2 fh k1 k2 M_gv M_ga M_gd CD0 CD1 i3 i5 i7 i8 i9 i16 hsz
  have h21 := dots_b2_h21 vv aa gv gd ga m c ss w0 a0 hv ha sv sa mw l1 l2 fh k1 k2 M_gv M_ga M_gd CD0 CD1 i3 i5 i7 i8 i9 i16 hsz
  have h22 := dots_b2_h22 vv aa gv gd ga m c ss w0 a0 hv ha sv sa mw l1 l2 fh k1 k2 M_gv M_ga M_gd CD0 CD1 i3 i5 i7 i8 i9 i16 hsz
  have h23 := dots_b2_h23 vv aa gv gd ga m c ss w0 a0 hv ha sv sa mw l1 l2 fh k1 k2 M_gv M_ga M_gd CD0 CD1 i3 i5 i7 i8 i9 i16 hsz
  have h24 := dots_b2_h24 vv aa gv gd ga m c ss w0 a0 hv ha sv sa mw l1 l2 fh k1 k2 M_gv M_ga M_gd CD0 CD1 i3 i5 i7 i8 i9 i16 hsz
  have h25 := dots_b2_h25 vv aa gv gd ga m c ss w0 a0 hv ha sv sa mw l1 l2 fh k1 k2 M_gv M_ga M_gd CD0 CD1 i3 i5 i7 i8 i9 i16 hsz
  have h26 := dots_b2_h26 vv aa gv gd ga m c ss w0 a0 hv ha sv sa mw l1 l2 fh k1 k2 M_gv M_ga M_gd CD0 CD1 i3 i5 i7 i8 i9 i16 hsz
  have h27 := dots_b2_h27 vv aa gv gd ga m c ss w0 a0 hv ha sv sa mw l1 l2 fh k1 k2 M_gv M_ga M_gd CD0 CD1 i3 i5 i7 i8 i9 i16 hsz
  have h28 := dots_b2_h28 vv aa gv gd ga m c ss w0 a0 hv ha sv sa mw l1 l2 fh k1 k2 M_gv M_ga M_gd CD0 CD1 i3 i5 i7 i8 i9 i16 hsz
  have h29 := dots_b2_h29 vv aa gv gd ga m c ss w0 a0 hv ha sv sa mw l1 l2 fh k1 k2 M_gv M_ga M_gd CD0 CD1 i3 i5 i7 i8 i9 i16 hsz
  have h30 := dots_b2_h30 vv aa gv gd ga m c ss w0 a0 hv ha sv sa mw l1 l2 fh k1 k2 M_gv M_ga M_gd CD0 CD1 i3 i5 i7 i8 i9 i16 hsz
  have h31 := dots_b2_h31 vv aa gv gd ga m c ss w0 a0 hv ha sv sa mw l1 l2 fh k1 k2 M_gv M_ga M_gd CD0 CD1 i3 i5 i7 i8 i9 i16 hsz
  have h32 := dots_b2_h32 vv aa gv gd ga m c ss w0 a0 hv ha sv sa mw l1 l2 fh k1 k2 M_gv M_ga M_gd CD0 CD1 i3 i5 i7 i8 i9 i16 hsz
  have h33 := dots_b2_h33 vv aa gv gd ga m c ss w0 a0 hv ha sv sa mw l1 l2 fh k1 k2 M_gv M_ga M_gd CD0 CD1 i3 i5 i7 i8 i9 i16 hsz
  have h34 := dots_b2_h34 vv aa gv gd ga m c ss w0 a0 hv ha sv sa mw l1 l2 fh k1 k2 M_gv M_ga M_gd CD0 CD1 i3 i5 i7 i8 i9 i16 hsz
  have h35 := dots_b2_h35 vv aa gv gd ga m c ss w0 a0 hv ha sv sa mw l1 l2 fh k1 k2 M_gv M_ga M_gd CD0 CD1 i3 i5 i7 i8 i9 i16 hsz
  have h36 := dots_b2_h36 vv aa gv gd ga m c ss w0 a0 hv ha sv sa mw l1 l2 fh k1 k2 M_gv M_ga M_gd CD0 CD1 i3 i5 i7 i8 i9 i16 hsz
  have h37 := dots_b2_h37 vv aa gv gd ga m c ss w0 a0 hv ha sv sa mw l1 l2 fh k1 k2 M_gv M_ga M_gd CD0 CD1 i3 i5 i7 i8 i9 i16 hsz
  have h38 := dots_b2_h38 vv aa gv gd ga m c ss w0 a0 hv ha sv sa mw l1 l2 fh k1 k2 M_gv M_ga M_gd CD0 CD1 i3 i5 i7 i8 i9 i16 hsz
  have h39 := dots_b2_h39 vv aa gv gd ga m c ss w0 a0 hv ha sv sa mw l1 l2 fh k1 k2 M_gv M_ga M_gd CD0 CD1 i3 i5 i7 i8 i9 i16 hsz
  have h40 := dots_b2_h40 vv aa gv gd ga m c ss w0 a0 hv ha sv sa mw l1 l2 fh k1 k2 M_gv M_ga M_gd CD0 CD1 i3 i5 i7 i8 i9 i16 hsz
  have h41 := dots_b2_h41 vv aa gv gd ga m c ss w0 a0 hv ha sv sa mw l1 l2 fh k1 k2 M_gv M_ga M_gd CD0 CD1 i3 i5 i7 i8 i9 i16 hsz
  have h42 := dots_b2_h42 vv aa gv gd ga m c ss w0 a0 hv ha sv sa mw l1 l2 fh k1 k2 M_gv M_ga M_gd CD0 CD1 i3 i5 i7 i8 i9 i16 hsz
  have h43 := dots_b2_h43 vv aa gv gd ga m c ss w0 a0 hv ha sv sa mw l1 l2 fh k1 k2 M_gv M_ga M_gd CD0 CD1 i3 i5 i7 i8 i9 i16 hsz
  have h44 := dots_b2_h44 vv aa gv gd ga m c ss w0 a0 hv ha sv sa mw l1 l2 fh k1 k2 M_gv M_ga M_gd CD0 CD1 i3 i5 i7 i8 i9 i16 hsz
  have h45 := dots_b2_h45 vv aa gv gd ga m c ss w0 a0 hv ha sv sa mw l1 l2 fh k1 k2 M_gv M_ga M_gd CD0 CD1 i3 i5 i7 i8 i9 i16 hsz
  have h46 := dots_b2_h46 vv aa gv gd ga m c ss w0 a0 hv ha sv sa mw l1 l2 fh k1 k2 M_gv M_ga M_gd CD0 CD1 i3 i5 i7 i8 i9 i16 hsz
  have h47 := dots_b2_h47 vv aa gv gd ga m c ss w0 a0 hv ha sv sa mw l1 l2 fh k1 k2 M_gv M_ga M_gd CD0 CD1 i3 i5 i7 i8 i9 i16 hsz
  have h48 := dots_b2_h48 vv aa gv gd ga m c ss w0 a0 hv ha sv sa mw l1 l2 fh k1 k2 M_gv M_ga M_gd CD0 CD1 i3 i5 i7 i8 i9 i16 hsz
  have h49 := dots_b2_h49 vv aa gv gd ga m c ss w0 a0 hv ha sv sa mw l1 l2 fh k1 k2 M_gv M_ga M_gd CD0 CD1 i3 i5 i7 i8 i9 i16 hsz
  have h50 := dots_b2_h50 vv aa gv gd ga m c ss w0 a0 hv ha sv sa mw l1 l2 fh k1 k2 M_gv M_ga M_gd CD0 CD1 i3 i5 i7 i8 i9 i16 hsz
  have h51 := dots_b2_h51 vv aa gv gd ga m c ss w0 a0 hv ha sv sa mw l1 l2 fh k1 k2 M_gv M_ga M_gd CD0 CD1 i3 i5 i7 i8 i9 i16 hsz
  have h52 := dots_b2_h52 vv aa gv gd ga m c ss w0 a0 hv ha sv sa mw l1 l2 fh k1 k2 M_gv M_ga M_gd CD0 CD1 i3 i5 i7 i8 i9 i16 hsz
  have h53 := dots_b2_h53 vv aa gv gd ga m c ss w0 a0 hv ha sv sa mw l1 l2 fh k1 k2 M_gv M_ga M_gd CD0 CD1 i3 i5 i7 i8 i9 i16 hsz
  have h54 := dots_b2_h54 vv aa gv gd ga m c ss w0 a0 hv ha sv sa mw l1 l2 fh k1 k2 M_gv M_ga M_gd CD0 CD1 i3 i5 i7 i8 i9 i16 hsz
  have h55 := dots_b2_h55 vv aa gv gd ga m c ss w0 a0 hv ha sv sa mw l1 l2 fh k1 k2 M_gv M_ga M_gd CD0 CD1 i3 i5 i7 i8 i9 i16 hsz
  have h56 := dots_b2_h56 vv aa gv gd ga m c ss w0 a0 hv ha sv sa mw l1 l2 fh k1 k2 M_gv M_ga M_gd CD0 CD1 i3 i5 i7 i8 i9 i16 hsz
  refine Reg.region_all (by kernel_rfl) (dots_b2R vv aa gv gd ga m c ss) (by rw [hn, hsz]; kernel_rfl) (dots_b2_stable vv aa gv gd ga m c ss) (fun i hi => ?_) (fun v w hb hR => ?_)
  · rw [hn] at hi
    match i, List.mem_range.1 hi with
    | 0, _ => exact h0
    | 1, _ => exact h1
    | 2, _ => exact h2
    | 3, _ => exact h3
    | 4, _ => exact h4
    | 5, _ => exact h5
    | 6, _ => exact h6
    | 7, _ => exact h7
    | 8, _ => exact h8
    | 9, _ => exact h9
    | 10, _ => exact h10
    | 11, _ => exact h11
    | 12, _ => exact h12
    | 13, _ => exact h13
    | 14, _ => exact h14
    | 15, _ => exact h15
    | 16, _ => exact h16
    | 17, _ => exact h17
    | 18, _ => exact h18
    | 19, _ => exact h19
    | 20, _ => exact h20
    | 21, _ => exact h21
    | 22, _ => exact h22
    | 23, _ => exact h23
    | 24, _ => exact h24
    | 25, _ => exact h25
    | 26, _ => exact h26
    | 27, _ => exact h27
    | 28, _ => exact h28
    | 29, _ => exact h29
    | 30, _ => exact h30
    | 31, _ => exact h31
    | 32, _ => exact h32
    | 33, _ => exact h33
    | 34, _ => exact h34
    | 35, _ => exact h35
    | 36, _ => exact h36
    | 37, _ => exact h37
    | 38, _ => exact h38
    | 39, _ => exact h39
    | 40, _ => exact h40
    | 41, _ => exact h41
    | 42, _ => exact h42
    | 43, _ => exact h43
    | 44, _ => exact h44
    | 45, _ => exact h45
    | 46, _ => exact h46
    | 47, _ => exact h47
    | 48, _ => exact h48
    | 49, _ => exact h49
    | 50, _ => exact h50
    | 51, _ => exact h51
    | 52, _ => exact h52
    | 53, _ => exact h53
    | 54, _ => exact h54
    | 55, _ => exact h55
    | 56, _ => exact h56
    | (_ + 57), h => omega
  · rw [hn] at hR ⊢
    have v0 : v 0 = (Value.bool true) := hR 0 (by decide)
    have v1 : v 1 = (Value.bool true) := hR 1 (by decide)
    have v2 : v 2 = (Value.agg (vC vv)) := hR 2 (by decide)
    have v3 : v 3 = (Value.agg (vC aa)) := hR 3 (by decide)
    have v4 : v 4 = (Value.int IntKind.u64 (m : Int)) := hR 4 (by decide)
    have v5 : v 5 = (Value.int IntKind.i64 (m : Int)) := hR 5 (by decide)
    have v6 : v 6 = (Value.int IntKind.u64 (m : Int)) := hR 6 (by decide)
    have v7 : v 7 = (Value.bool true) := hR 7 (by decide)
    have v8 : v 8 = (Value.bool true) := hR 8 (by decide)
    have v9 : v 9 = (Value.bool true) := hR 9 (by decide)
    have v10 : v 10 = (Value.agg (vC aa)) := hR 10 (by decide)
    have v11 : v 11 = (Value.agg (vC vv)) := hR 11 (by decide)
    have v12 : v 12 = (Value.int IntKind.u64 0) := hR 12 (by decide)
    have v13 : v 13 = (Value.bool true) := hR 13 (by decide)
    have v14 : v 14 = (Value.bool true) := hR 14 (by decide)
    have v15 : v 15 = (Value.bool true) := hR 15 (by decide)
    have v16 : v 16 = (Value.bool false) := hR 16 (by decide)
    have v17 : v 17 = (Value.bool true) := hR 17 (by decide)
    have v18 : v 18 = (Value.bool true) := hR 18 (by decide)
    have v19 : v 19 = undef := hR 19 (by decide)
    have v20 : v 20 = undef := hR 20 (by decide)
    have v21 : v 21 = undef := hR 21 (by decide)
    have v22 : v 22 = (Value.bool true) := hR 22 (by decide)
    have v23 : v 23 = (Value.bool true) := hR 23 (by decide)
    have v24 : v 24 = (Value.bool true) := hR 24 (by decide)
    have v25 : v 25 = (Value.agg (vC aa)) := hR 25 (by decide)
    have v26 : v 26 = (Value.agg (dC ss c)) := hR 26 (by decide)
    have v27 : v 27 = (Value.bool false) := hR 27 (by decide)
    have v28 : v 28 = (Value.pointer (some ⟨gd, 0, none⟩)) := hR 28 (by decide)
    have v29 : v 29 = (Value.int IntKind.i64 ss) := hR 29 (by decide)
    have v30 : v 30 = (Value.bool true) := hR 30 (by decide)
    have v31 : v 31 = (Value.bool true) := hR 31 (by decide)
    have v32 : v 32 = (Value.pointer (some ⟨gd, 0, none⟩)) := hR 32 (by decide)
    have v33 : v 33 = (Value.int IntKind.i64 ss) := hR 33 (by decide)
    have v34 : v 34 = (Value.bool false) := hR 34 (by decide)
    have v35 : v 35 = (Value.bool false) := hR 35 (by decide)
    have v36 : v 36 = (Value.bool false) := hR 36 (by decide)
    have v37 : v 37 = undef := hR 37 (by decide)
    have v38 : v 38 = undef := hR 38 (by decide)
    have v39 : v 39 = undef := hR 39 (by decide)
    have v40 : v 40 = (Value.bool false) := hR 40 (by decide)
    have v41 : v 41 = (Value.bool false) := hR 41 (by decide)
    have v42 : v 42 = undef := hR 42 (by decide)
    have v43 : v 43 = undef := hR 43 (by decide)
    have v44 : v 44 = undef := hR 44 (by decide)
    have v45 : v 45 = undef := hR 45 (by decide)
    have v46 : v 46 = undef := hR 46 (by decide)
    have v47 : v 47 = undef := hR 47 (by decide)
    have v48 : v 48 = undef := hR 48 (by decide)
    have v49 : v 49 = undef := hR 49 (by decide)
    have v50 : v 50 = undef := hR 50 (by decide)
    have v51 : v 51 = undef := hR 51 (by decide)
    have v52 : v 52 = undef := hR 52 (by decide)
    have v53 : v 53 = (Value.bool false) := hR 53 (by decide)
    have v54 : v 54 = (Value.bool true) := hR 54 (by decide)
    have v55 : v 55 = (Value.bool true) := hR 55 (by decide)
    have v56 : v 56 = (Value.bool true) := hR 56 (by decide)
    rw [hfin v, v0, v1, v2, v3, v4, v5, v6, v7, v8, v9, v10, v11, v12, v13, v14, v15, v16, v17, v18, v19, v20, v21, v22, v23, v24, v25, v26, v27, v28, v29, v30, v31, v32, v33, v34, v35, v36, v37, v38, v39, v40, v41, v42, v43, v44, v45, v46, v47, v48, v49, v50, v51, v52, v53, v54, v55, v56]
    exact hend w  hb 
end Go.Proofs.Ytfifbjlmbdgmjaa
