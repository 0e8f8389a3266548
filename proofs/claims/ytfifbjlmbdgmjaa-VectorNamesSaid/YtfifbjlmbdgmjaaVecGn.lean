/- Regions that draw their order: their obligations (printed by regen2.py). -/
import Derived.Test.YtfifbjlmbdgmjaaVecNp
import Derived.Test.YtfifbjlmbdgmjaaRegT
namespace Go.Proofs.Ytfifbjlmbdgmjaa
open Go.RowKit
set_option linter.unusedVariables false
set_option linter.unusedSimpArgs false
set_option linter.unusedSectionVars false
def vn11R (b2 b12 b18 : Nat) (p1 p2 : List Nat) : Nat → Value → World → Prop
  | 0 => fun x_ _ => x_ = (Value.int IntKind.i64 0)
  | 1 => fun x_ _ => x_ = (Value.bool true)
  | 2 => fun x_ _ => x_ = (Value.bool true)
  | 3 => fun x_ _ => x_ = (Value.agg (dC 0 6))
  | 4 => fun x_ _ => x_ = (Value.agg (dC 0 6))
  | 5 => fun x_ _ => x_ = (Value.bool true)
  | 6 => fun x_ _ => x_ = (Value.bool true)
  | 7 => fun x_ _ => x_ = (Value.bool true)
  | 8 => fun x_ _ => x_ = (Value.int IntKind.i64 60)
  | 9 => fun x_ _ => x_ = (Value.bool true)
  | 10 => fun x_ _ => x_ = (Value.bool true)
  | 11 => fun x_ _ => x_ = (Value.bool true)
  | 12 => fun x_ _ => x_ = (Value.int IntKind.i64 50)
  | 13 => fun x_ _ => x_ = (Value.bool true)
  | 14 => fun x_ _ => x_ = (Value.bool true)
  | 15 => fun x_ _ => x_ = (Value.bool true)
  | 16 => fun x_ _ => x_ = (Value.int IntKind.i64 50)
  | 17 => fun x_ _ => x_ = (Value.bool true)
  | 18 => fun x_ _ => x_ = (Value.bool true)
  | 19 => fun x_ _ => x_ = (Value.bool true)
  | 20 => fun x_ _ => x_ = (Value.int IntKind.i64 61)
  | 21 => fun x_ _ => x_ = (Value.bool true)
  | 22 => fun x_ _ => x_ = (Value.bool true)
  | 23 => fun x_ _ => x_ = (Value.bool true)
  | 24 => fun x_ _ => x_ = (Value.int IntKind.i64 0)
  | 25 => fun x_ _ => x_ = (Value.bool true)
  | 26 => fun x_ _ => x_ = (Value.bool true)
  | 27 => fun x_ _ => x_ = (Value.bool true)
  | 28 => fun x_ _ => x_ = (Value.agg (vC p1))
  | 29 => Reg.IsRow 22 #[(Value.int IntKind.u32 5), (Value.int IntKind.u32 1)] 2
  | 30 => fun x_ _ => x_ = (Value.agg (vC p1))
  | 31 => fun x_ _ => x_ = (Value.bool true)
  | 32 => fun x_ _ => x_ = (Value.bool true)
  | 33 => fun x_ _ => x_ = (Value.bool true)
  | 34 => fun x_ _ => x_ = (Value.int IntKind.i64 61)
  | 35 => fun x_ _ => x_ = (Value.bool true)
  | 36 => fun x_ _ => x_ = (Value.bool true)
  | 37 => fun x_ _ => x_ = (Value.bool true)
  | 38 => fun x_ _ => x_ = (Value.int IntKind.i64 50)
  | 39 => fun x_ _ => x_ = (Value.bool true)
  | 40 => fun x_ _ => x_ = (Value.bool true)
  | 41 => fun x_ _ => x_ = (Value.bool true)
  | 42 => fun x_ _ => x_ = (Value.int IntKind.i64 0)
  | 43 => fun x_ _ => x_ = (Value.bool true)
  | 44 => fun x_ _ => x_ = (Value.bool true)
  | 45 => fun x_ _ => x_ = (Value.bool true)
  | 46 => fun x_ _ => x_ = (Value.agg (vC p2))
  | 47 => Reg.IsRow 22 #[(Value.int IntKind.u32 4294967295)] 1
  | 48 => fun x_ _ => x_ = (Value.agg (vC p2))
  | 49 => fun x_ _ => x_ = (Value.bool true)
  | 50 => fun x_ _ => x_ = (Value.bool true)
  | 51 => fun x_ _ => x_ = (Value.bool true)
  | _ => fun _ _ => True
theorem vn11_stable (b2 b12 b18 : Nat) (p1 p2 : List Nat) : ∀ i_ u_ w_ w_', (vn11R b2 b12 b18 p1 p2) i_ u_ w_ → Below w_.heap.size w_ w_' → (vn11R b2 b12 b18 p1 p2) i_ u_ w_' := fun i_ u_ w_ w_' h_ hb_ => by
  match i_, h_ with
  | 0, h_ => exact h_
  | 1, h_ => exact h_
  | 2, h_ => exact h_
  | 3, h_ => exact h_
  | 4, h_ => exact h_
  | 5, h_ => exact h_
  | 6, h_ => exact h_
  | 7, h_ => exact h_
  | 8, h_ => exact h_
  | 9, h_ => exact h_
  | 10, h_ => exact h_
  | 11, h_ => exact h_
  | 12, h_ => exact h_
  | 13, h_ => exact h_
  | 14, h_ => exact h_
  | 15, h_ => exact h_
  | 16, h_ => exact h_
  | 17, h_ => exact h_
  | 18, h_ => exact h_
  | 19, h_ => exact h_
  | 20, h_ => exact h_
  | 21, h_ => exact h_
  | 22, h_ => exact h_
  | 23, h_ => exact h_
  | 24, h_ => exact h_
  | 25, h_ => exact h_
  | 26, h_ => exact h_
  | 27, h_ => exact h_
  | 28, h_ => exact h_
  | 29, h_ => exact (Reg.IsRow.below h_ hb_)
  | 30, h_ => exact h_
  | 31, h_ => exact h_
  | 32, h_ => exact h_
  | 33, h_ => exact h_
  | 34, h_ => exact h_
  | 35, h_ => exact h_
  | 36, h_ => exact h_
  | 37, h_ => exact h_
  | 38, h_ => exact h_
  | 39, h_ => exact h_
  | 40, h_ => exact h_
  | 41, h_ => exact h_
  | 42, h_ => exact h_
  | 43, h_ => exact h_
  | 44, h_ => exact h_
  | 45, h_ => exact h_
  | 46, h_ => exact h_
  | 47, h_ => exact (Reg.IsRow.below h_ hb_)
  | 48, h_ => exact h_
  | 49, h_ => exact h_
  | 50, h_ => exact h_
  | 51, h_ => exact h_
  | (_ + 52), _ => trivial
section
variable (b2 b12 b18 : Nat) (p1 p2 : List Nat) (w0 : World) (a0 : Act)
variable (hp1 : p1.length = 16) (hp2 : p2.length = 16) (hq1 : padV [5, 1] = p1) (hq2 : padV [4294967295] = p2)
variable (M_b12 : ∀ W, Below w0.heap.size w0 W → W.heap[b12]? = some (.cells (vC p1) 24 (0, 0)))
variable (M_b18 : ∀ W, Below w0.heap.size w0 W → W.heap[b18]? = some (.cells (vC p2) 24 (0, 0)))
variable (M_b2 : ∀ W, Below w0.heap.size w0 W → W.heap[b2]? = some (.cells (dC 0 6) 35 (0, 0)))
variable (i2 : a0.eval (.tmp 2) = (Value.pointer (some ⟨b2, 0, none⟩))) (i3 : a0.eval (.tmp 3) = (Value.int IntKind.i64 0)) (i5 : a0.eval (.tmp 5) = (Value.int IntKind.i64 60)) (i7 : a0.eval (.tmp 7) = (Value.int IntKind.i64 50)) (i9 : a0.eval (.tmp 9) = (Value.int IntKind.i64 50)) (i11 : a0.eval (.tmp 11) = (Value.int IntKind.i64 61)) (i12 : a0.eval (.tmp 12) = (Value.pointer (some ⟨b12, 0, none⟩))) (i13 : a0.eval (.tmp 13) = (Value.int IntKind.i64 0)) (i15 : a0.eval (.tmp 15) = (Value.int IntKind.i64 61)) (i17 : a0.eval (.tmp 17) = (Value.int IntKind.i64 50)) (i18 : a0.eval (.tmp 18) = (Value.pointer (some ⟨b18, 0, none⟩))) (i19 : a0.eval (.tmp 19) = (Value.int IntKind.i64 0)) (hsz : a0.tmps.size = 297)
include b2 b12 b18 p1 p2 w0 a0 hp1 hp2 hq1 hq2 M_b12 M_b18 M_b2 i2 i3 i5 i7 i9 i11 i12 i13 i15 i17 i18 i19 hsz
set_option maxHeartbeats 4000000 in
set_option maxRecDepth 20000 in
theorem vn11_h0 :
    Reg.OpOK Try.prog (Reg.opsOf Try.f9 11) a0 w0 (vn11R b2 b12 b18 p1 p2) (fun _ _ _ _ => True) 0 := by
    refine Reg.op_ok2 (fun af => { dst := some 108, op := Op.move (Operand.tmp 3), type := 36, pos := "outright.go:38", after := af, guard := none }) #[] (by kernel_rfl) [] (by kernel_rfl) fun af v W hb hd => ?_
    have e3 := (Reg.gfr_eval0 (ops := (Reg.opsOf Try.f9 11)) (a0 := a0) (v := v) (L := []) 3 (by kernel_rfl)).trans i3
    refine ⟨Reg.wanted_none rfl, ?_⟩
    generalize Reg.gfr (Reg.opsOf Try.f9 11) a0 v [] = G at e3 ⊢
    generalize hρ : G.eval = ρ at e3
    have hρ' : G.eval = ρ := hρ
    refine Reg.go_run (Value.int IntKind.i64 0) W ?_ ?_
    · rw [hρ']; simp [execOp, go_sem, e3]
    · exact ⟨Below.refl _ _, rfl⟩
set_option maxHeartbeats 4000000 in
set_option maxRecDepth 20000 in
theorem vn11_h1 :
    Reg.OpOK Try.prog (Reg.opsOf Try.f9 11) a0 w0 (vn11R b2 b12 b18 p1 p2) (fun _ _ _ _ => True) 1 := by
    refine Reg.op_ok2 (fun af => { dst := some 109, op := Op.binOp BinOp.eql 36 (Operand.tmp 108) (Operand.const (Value.int IntKind.i64 0)) 36, type := 4, pos := "outright.go:38", after := af, guard := none }) #[{ on := 0, ground := Ground.data }] (by kernel_rfl) [0] (by kernel_rfl) fun af v W hb hd => ?_
    have d0 : v 0 = (Value.int IntKind.i64 0) := hd 0 (by decide)
    have e108 := (Reg.gfr_eval (ops := (Reg.opsOf Try.f9 11)) (a0 := a0) (v := v) (L := [0]) 108 0 (by kernel_rfl) (by rw [hsz]; omega)).trans d0
    refine ⟨Reg.wanted_none rfl, ?_⟩
    have eC : ∀ x, (Reg.gfr (Reg.opsOf Try.f9 11) a0 v [0]).eval (.const x) = x := fun _ => rfl
    generalize Reg.gfr (Reg.opsOf Try.f9 11) a0 v [0] = G at e108 eC ⊢
    generalize hρ : G.eval = ρ at e108 eC
    have hρ' : G.eval = ρ := hρ
    refine Reg.go_run (Value.bool true) W ?_ ?_
    · rw [hρ']; simp [execOp, go_sem, e108, eC]
    · exact ⟨Below.refl _ _, rfl⟩
set_option maxHeartbeats 4000000 in
set_option maxRecDepth 20000 in
theorem vn11_h2 :
    Reg.OpOK Try.prog (Reg.opsOf Try.f9 11) a0 w0 (vn11R b2 b12 b18 p1 p2) (fun _ _ _ _ => True) 2 := by
    refine Reg.op_ok2 (fun af => { dst := some 110, op := Op.move (Operand.tmp 109), type := 4, pos := "outright.go:38", after := af, guard := none }) #[{ on := 1, ground := Ground.data }] (by kernel_rfl) [1] (by kernel_rfl) fun af v W hb hd => ?_
    have d1 : v 1 = (Value.bool true) := hd 1 (by decide)
    have e109 := (Reg.gfr_eval (ops := (Reg.opsOf Try.f9 11)) (a0 := a0) (v := v) (L := [1]) 109 1 (by kernel_rfl) (by rw [hsz]; omega)).trans d1
    refine ⟨Reg.wanted_none rfl, ?_⟩
    generalize Reg.gfr (Reg.opsOf Try.f9 11) a0 v [1] = G at e109 ⊢
    generalize hρ : G.eval = ρ at e109
    have hρ' : G.eval = ρ := hρ
    refine Reg.go_run (Value.bool true) W ?_ ?_
    · rw [hρ']; simp [execOp, go_sem, e109]
    · exact ⟨Below.refl _ _, rfl⟩
set_option maxHeartbeats 4000000 in
set_option maxRecDepth 20000 in
theorem vn11_h3 :
    Reg.OpOK Try.prog (Reg.opsOf Try.f9 11) a0 w0 (vn11R b2 b12 b18 p1 p2) (fun _ _ _ _ => True) 3 := by
    refine Reg.op_ok2 (fun af => { dst := some 111, op := Op.load 35 (Operand.tmp 2), type := 35, pos := "outright.go:38", after := af, guard := some (2, true) }) #[{ on := 2, ground := Ground.guard }] (by kernel_rfl) [2] (by kernel_rfl) fun af v W hb hd => ?_
    have d2 : v 2 = (Value.bool true) := hd 2 (by decide)
    have e2 := (Reg.gfr_eval0 (ops := (Reg.opsOf Try.f9 11)) (a0 := a0) (v := v) (L := [2]) 2 (by kernel_rfl)).trans i2
    have e110 := (Reg.gfr_eval (ops := (Reg.opsOf Try.f9 11)) (a0 := a0) (v := v) (L := [2]) 110 2 (by kernel_rfl) (by rw [hsz]; omega)).trans d2
    refine ⟨Reg.wanted_of rfl (by kernel_rfl) e110, ?_⟩
    generalize Reg.gfr (Reg.opsOf Try.f9 11) a0 v [2] = G at e2 ⊢
    generalize hρ : G.eval = ρ at e2
    have hρ' : G.eval = ρ := hρ
    exact fun K hK => wp_load_row 35 (.tmp 2) rfl b2 (by rw [hρ']; exact e2) 35 (dC 0 6) (0, 0) _ (M_b2 W hb) Try.underlying35 rfl size_dot (hK _ _ ⟨Below.refl _ _, rfl⟩)
set_option maxHeartbeats 4000000 in
set_option maxRecDepth 20000 in
theorem vn11_h4 :
    Reg.OpOK Try.prog (Reg.opsOf Try.f9 11) a0 w0 (vn11R b2 b12 b18 p1 p2) (fun _ _ _ _ => True) 4 := by
    refine Reg.op_ok2 (fun af => { dst := some 112, op := Op.build 35 #[(1, Operand.const (Value.int IntKind.i64 6))], type := 35, pos := "outright.go:38", after := af, guard := some (2, true) }) #[{ on := 2, ground := Ground.guard }] (by kernel_rfl) [2] (by kernel_rfl) fun af v W hb hd => ?_
    have d2 : v 2 = (Value.bool true) := hd 2 (by decide)
    have e110 := (Reg.gfr_eval (ops := (Reg.opsOf Try.f9 11)) (a0 := a0) (v := v) (L := [2]) 110 2 (by kernel_rfl) (by rw [hsz]; omega)).trans d2
    refine ⟨Reg.wanted_of rfl (by kernel_rfl) e110, ?_⟩
    have eC : ∀ x, (Reg.gfr (Reg.opsOf Try.f9 11) a0 v [2]).eval (.const x) = x := fun _ => rfl
    generalize Reg.gfr (Reg.opsOf Try.f9 11) a0 v [2] = G at eC ⊢
    generalize hρ : G.eval = ρ at eC
    have hρ' : G.eval = ρ := hρ
    refine Reg.go_run (Value.agg (dC 0 6)) W ?_ ?_
    · rw [hρ']; simp [execOp, go_sem, eC, dC]
    · exact ⟨Below.refl _ _, rfl⟩
set_option maxHeartbeats 4000000 in
set_option maxRecDepth 20000 in
theorem vn11_h5 :
    Reg.OpOK Try.prog (Reg.opsOf Try.f9 11) a0 w0 (vn11R b2 b12 b18 p1 p2) (fun _ _ _ _ => True) 5 := by
    refine Reg.op_ok2 (fun af => { dst := some 113, op := Op.binOp BinOp.eql 35 (Operand.tmp 111) (Operand.tmp 112) 35, type := 4, pos := "outright.go:38", after := af, guard := some (2, true) }) #[{ on := 3, ground := Ground.data }, { on := 4, ground := Ground.data }, { on := 2, ground := Ground.guard }] (by kernel_rfl) [3, 4, 2] (by kernel_rfl) fun af v W hb hd => ?_
    have d2 : v 2 = (Value.bool true) := hd 2 (by decide)
    have d3 : v 3 = (Value.agg (dC 0 6)) := hd 3 (by decide)
    have d4 : v 4 = (Value.agg (dC 0 6)) := hd 4 (by decide)
    have e111 := (Reg.gfr_eval (ops := (Reg.opsOf Try.f9 11)) (a0 := a0) (v := v) (L := [3, 4, 2]) 111 3 (by kernel_rfl) (by rw [hsz]; omega)).trans d3
    have e112 := (Reg.gfr_eval (ops := (Reg.opsOf Try.f9 11)) (a0 := a0) (v := v) (L := [3, 4, 2]) 112 4 (by kernel_rfl) (by rw [hsz]; omega)).trans d4
    have e110 := (Reg.gfr_eval (ops := (Reg.opsOf Try.f9 11)) (a0 := a0) (v := v) (L := [3, 4, 2]) 110 2 (by kernel_rfl) (by rw [hsz]; omega)).trans d2
    refine ⟨Reg.wanted_of rfl (by kernel_rfl) e110, ?_⟩
    generalize Reg.gfr (Reg.opsOf Try.f9 11) a0 v [3, 4, 2] = G at e111 e112 ⊢
    generalize hρ : G.eval = ρ at e111 e112
    have hρ' : G.eval = ρ := hρ
    refine Reg.go_run (Value.bool true) W ?_ ?_
    · rw [hρ']; simp [execOp, go_sem, e111, e112, dC]
    · exact ⟨Below.refl _ _, rfl⟩
set_option maxHeartbeats 4000000 in
set_option maxRecDepth 20000 in
theorem vn11_h6 :
    Reg.OpOK Try.prog (Reg.opsOf Try.f9 11) a0 w0 (vn11R b2 b12 b18 p1 p2) (fun _ _ _ _ => True) 6 := by
    refine Reg.op_ok2 (fun af => { dst := some 114, op := Op.pick (Operand.tmp 110) (Operand.tmp 113) (Operand.const (Value.bool false)), type := 4, pos := "outright.go:38", after := af, guard := none }) #[{ on := 2, ground := Ground.data }, { on := 5, ground := Ground.data }] (by kernel_rfl) [2, 5] (by kernel_rfl) fun af v W hb hd => ?_
    have d2 : v 2 = (Value.bool true) := hd 2 (by decide)
    have d5 : v 5 = (Value.bool true) := hd 5 (by decide)
    have e110 := (Reg.gfr_eval (ops := (Reg.opsOf Try.f9 11)) (a0 := a0) (v := v) (L := [2, 5]) 110 2 (by kernel_rfl) (by rw [hsz]; omega)).trans d2
    have e113 := (Reg.gfr_eval (ops := (Reg.opsOf Try.f9 11)) (a0 := a0) (v := v) (L := [2, 5]) 113 5 (by kernel_rfl) (by rw [hsz]; omega)).trans d5
    refine ⟨Reg.wanted_none rfl, ?_⟩
    have eC : ∀ x, (Reg.gfr (Reg.opsOf Try.f9 11) a0 v [2, 5]).eval (.const x) = x := fun _ => rfl
    generalize Reg.gfr (Reg.opsOf Try.f9 11) a0 v [2, 5] = G at e110 e113 eC ⊢
    generalize hρ : G.eval = ρ at e110 e113 eC
    have hρ' : G.eval = ρ := hρ
    refine Reg.go_run (Value.bool true) W ?_ ?_
    · rw [hρ']; simp [execOp, go_sem, e110, e113, eC]
    · exact ⟨Below.refl _ _, rfl⟩
set_option maxHeartbeats 4000000 in
set_option maxRecDepth 20000 in
theorem vn11_h7 :
    Reg.OpOK Try.prog (Reg.opsOf Try.f9 11) a0 w0 (vn11R b2 b12 b18 p1 p2) (fun _ _ _ _ => True) 7 := by
    refine Reg.op_ok2 (fun af => { dst := some 115, op := Op.move (Operand.tmp 114), type := 4, pos := "outright.go:38", after := af, guard := none }) #[{ on := 6, ground := Ground.data }, { on := 2, ground := Ground.chain }] (by kernel_rfl) [6, 2] (by kernel_rfl) fun af v W hb hd => ?_
    have d6 : v 6 = (Value.bool true) := hd 6 (by decide)
    have e114 := (Reg.gfr_eval (ops := (Reg.opsOf Try.f9 11)) (a0 := a0) (v := v) (L := [6, 2]) 114 6 (by kernel_rfl) (by rw [hsz]; omega)).trans d6
    refine ⟨Reg.wanted_none rfl, ?_⟩
    generalize Reg.gfr (Reg.opsOf Try.f9 11) a0 v [6, 2] = G at e114 ⊢
    generalize hρ : G.eval = ρ at e114
    have hρ' : G.eval = ρ := hρ
    refine Reg.go_run (Value.bool true) W ?_ ?_
    · rw [hρ']; simp [execOp, go_sem, e114]
    · exact ⟨Below.refl _ _, rfl⟩
set_option maxHeartbeats 4000000 in
set_option maxRecDepth 20000 in
theorem vn11_h8 :
    Reg.OpOK Try.prog (Reg.opsOf Try.f9 11) a0 w0 (vn11R b2 b12 b18 p1 p2) (fun _ _ _ _ => True) 8 := by
    refine Reg.op_ok2 (fun af => { dst := some 116, op := Op.move (Operand.tmp 5), type := 36, pos := "outright.go:38", after := af, guard := some (7, true) }) #[{ on := 7, ground := Ground.guard }] (by kernel_rfl) [7] (by kernel_rfl) fun af v W hb hd => ?_
    have d7 : v 7 = (Value.bool true) := hd 7 (by decide)
    have e5 := (Reg.gfr_eval0 (ops := (Reg.opsOf Try.f9 11)) (a0 := a0) (v := v) (L := [7]) 5 (by kernel_rfl)).trans i5
    have e115 := (Reg.gfr_eval (ops := (Reg.opsOf Try.f9 11)) (a0 := a0) (v := v) (L := [7]) 115 7 (by kernel_rfl) (by rw [hsz]; omega)).trans d7
    refine ⟨Reg.wanted_of rfl (by kernel_rfl) e115, ?_⟩
    generalize Reg.gfr (Reg.opsOf Try.f9 11) a0 v [7] = G at e5 ⊢
    generalize hρ : G.eval = ρ at e5
    have hρ' : G.eval = ρ := hρ
    refine Reg.go_run (Value.int IntKind.i64 60) W ?_ ?_
    · rw [hρ']; simp [execOp, go_sem, e5]
    · exact ⟨Below.refl _ _, rfl⟩
set_option maxHeartbeats 4000000 in
set_option maxRecDepth 20000 in
theorem vn11_h9 :
    Reg.OpOK Try.prog (Reg.opsOf Try.f9 11) a0 w0 (vn11R b2 b12 b18 p1 p2) (fun _ _ _ _ => True) 9 := by
    refine Reg.op_ok2 (fun af => { dst := some 117, op := Op.binOp BinOp.eql 36 (Operand.tmp 116) (Operand.const (Value.int IntKind.i64 60)) 36, type := 4, pos := "outright.go:38", after := af, guard := some (7, true) }) #[{ on := 8, ground := Ground.data }, { on := 7, ground := Ground.guard }] (by kernel_rfl) [8, 7] (by kernel_rfl) fun af v W hb hd => ?_
    have d7 : v 7 = (Value.bool true) := hd 7 (by decide)
    have d8 : v 8 = (Value.int IntKind.i64 60) := hd 8 (by decide)
    have e116 := (Reg.gfr_eval (ops := (Reg.opsOf Try.f9 11)) (a0 := a0) (v := v) (L := [8, 7]) 116 8 (by kernel_rfl) (by rw [hsz]; omega)).trans d8
    have e115 := (Reg.gfr_eval (ops := (Reg.opsOf Try.f9 11)) (a0 := a0) (v := v) (L := [8, 7]) 115 7 (by kernel_rfl) (by rw [hsz]; omega)).trans d7
    refine ⟨Reg.wanted_of rfl (by kernel_rfl) e115, ?_⟩
    have eC : ∀ x, (Reg.gfr (Reg.opsOf Try.f9 11) a0 v [8, 7]).eval (.const x) = x := fun _ => rfl
    generalize Reg.gfr (Reg.opsOf Try.f9 11) a0 v [8, 7] = G at e116 eC ⊢
    generalize hρ : G.eval = ρ at e116 eC
    have hρ' : G.eval = ρ := hρ
    refine Reg.go_run (Value.bool true) W ?_ ?_
    · rw [hρ']; simp [execOp, go_sem, e116, eC]
    · exact ⟨Below.refl _ _, rfl⟩
set_option maxHeartbeats 4000000 in
set_option maxRecDepth 20000 in
theorem vn11_h10 :
    Reg.OpOK Try.prog (Reg.opsOf Try.f9 11) a0 w0 (vn11R b2 b12 b18 p1 p2) (fun _ _ _ _ => True) 10 := by
    refine Reg.op_ok2 (fun af => { dst := some 118, op := Op.pick (Operand.tmp 115) (Operand.tmp 117) (Operand.const (Value.bool false)), type := 4, pos := "outright.go:38", after := af, guard := none }) #[{ on := 7, ground := Ground.data }, { on := 9, ground := Ground.data }] (by kernel_rfl) [7, 9] (by kernel_rfl) fun af v W hb hd => ?_
    have d7 : v 7 = (Value.bool true) := hd 7 (by decide)
    have d9 : v 9 = (Value.bool true) := hd 9 (by decide)
    have e115 := (Reg.gfr_eval (ops := (Reg.opsOf Try.f9 11)) (a0 := a0) (v := v) (L := [7, 9]) 115 7 (by kernel_rfl) (by rw [hsz]; omega)).trans d7
    have e117 := (Reg.gfr_eval (ops := (Reg.opsOf Try.f9 11)) (a0 := a0) (v := v) (L := [7, 9]) 117 9 (by kernel_rfl) (by rw [hsz]; omega)).trans d9
    refine ⟨Reg.wanted_none rfl, ?_⟩
    have eC : ∀ x, (Reg.gfr (Reg.opsOf Try.f9 11) a0 v [7, 9]).eval (.const x) = x := fun _ => rfl
    generalize Reg.gfr (Reg.opsOf Try.f9 11) a0 v [7, 9] = G at e115 e117 eC ⊢
    generalize hρ : G.eval = ρ at e115 e117 eC
    have hρ' : G.eval = ρ := hρ
    refine Reg.go_run (Value.bool true) W ?_ ?_
    · rw [hρ']; simp [execOp, go_sem, e115, e117, eC]
    · exact ⟨Below.refl _ _, rfl⟩
set_option maxHeartbeats 4000000 in
set_option maxRecDepth 20000 in
theorem vn11_h11 :
    Reg.OpOK Try.prog (Reg.opsOf Try.f9 11) a0 w0 (vn11R b2 b12 b18 p1 p2) (fun _ _ _ _ => True) 11 := by
    refine Reg.op_ok2 (fun af => { dst := some 119, op := Op.move (Operand.tmp 118), type := 4, pos := "outright.go:38", after := af, guard := none }) #[{ on := 10, ground := Ground.data }, { on := 7, ground := Ground.chain }] (by kernel_rfl) [10, 7] (by kernel_rfl) fun af v W hb hd => ?_
    have d10 : v 10 = (Value.bool true) := hd 10 (by decide)
    have e118 := (Reg.gfr_eval (ops := (Reg.opsOf Try.f9 11)) (a0 := a0) (v := v) (L := [10, 7]) 118 10 (by kernel_rfl) (by rw [hsz]; omega)).trans d10
    refine ⟨Reg.wanted_none rfl, ?_⟩
    generalize Reg.gfr (Reg.opsOf Try.f9 11) a0 v [10, 7] = G at e118 ⊢
    generalize hρ : G.eval = ρ at e118
    have hρ' : G.eval = ρ := hρ
    refine Reg.go_run (Value.bool true) W ?_ ?_
    · rw [hρ']; simp [execOp, go_sem, e118]
    · exact ⟨Below.refl _ _, rfl⟩
set_option maxHeartbeats 4000000 in
set_option maxRecDepth 20000 in
theorem vn11_h12 :
    Reg.OpOK Try.prog (Reg.opsOf Try.f9 11) a0 w0 (vn11R b2 b12 b18 p1 p2) (fun _ _ _ _ => True) 12 := by
    refine Reg.op_ok2 (fun af => { dst := some 120, op := Op.move (Operand.tmp 7), type := 36, pos := "outright.go:38", after := af, guard := some (11, true) }) #[{ on := 11, ground := Ground.guard }] (by kernel_rfl) [11] (by kernel_rfl) fun af v W hb hd => ?_
    have d11 : v 11 = (Value.bool true) := hd 11 (by decide)
    have e7 := (Reg.gfr_eval0 (ops := (Reg.opsOf Try.f9 11)) (a0 := a0) (v := v) (L := [11]) 7 (by kernel_rfl)).trans i7
    have e119 := (Reg.gfr_eval (ops := (Reg.opsOf Try.f9 11)) (a0 := a0) (v := v) (L := [11]) 119 11 (by kernel_rfl) (by rw [hsz]; omega)).trans d11
    refine ⟨Reg.wanted_of rfl (by kernel_rfl) e119, ?_⟩
    generalize Reg.gfr (Reg.opsOf Try.f9 11) a0 v [11] = G at e7 ⊢
    generalize hρ : G.eval = ρ at e7
    have hρ' : G.eval = ρ := hρ
    refine Reg.go_run (Value.int IntKind.i64 50) W ?_ ?_
    · rw [hρ']; simp [execOp, go_sem, e7]
    · exact ⟨Below.refl _ _, rfl⟩
set_option maxHeartbeats 4000000 in
set_option maxRecDepth 20000 in
theorem vn11_h13 :
    Reg.OpOK Try.prog (Reg.opsOf Try.f9 11) a0 w0 (vn11R b2 b12 b18 p1 p2) (fun _ _ _ _ => True) 13 := by
    refine Reg.op_ok2 (fun af => { dst := some 121, op := Op.binOp BinOp.eql 36 (Operand.tmp 120) (Operand.const (Value.int IntKind.i64 50)) 36, type := 4, pos := "outright.go:38", after := af, guard := some (11, true) }) #[{ on := 12, ground := Ground.data }, { on := 11, ground := Ground.guard }] (by kernel_rfl) [12, 11] (by kernel_rfl) fun af v W hb hd => ?_
    have d11 : v 11 = (Value.bool true) := hd 11 (by decide)
    have d12 : v 12 = (Value.int IntKind.i64 50) := hd 12 (by decide)
    have e120 := (Reg.gfr_eval (ops := (Reg.opsOf Try.f9 11)) (a0 := a0) (v := v) (L := [12, 11]) 120 12 (by kernel_rfl) (by rw [hsz]; omega)).trans d12
    have e119 := (Reg.gfr_eval (ops := (Reg.opsOf Try.f9 11)) (a0 := a0) (v := v) (L := [12, 11]) 119 11 (by kernel_rfl) (by rw [hsz]; omega)).trans d11
    refine ⟨Reg.wanted_of rfl (by kernel_rfl) e119, ?_⟩
    have eC : ∀ x, (Reg.gfr (Reg.opsOf Try.f9 11) a0 v [12, 11]).eval (.const x) = x := fun _ => rfl
    generalize Reg.gfr (Reg.opsOf Try.f9 11) a0 v [12, 11] = G at e120 eC ⊢
    generalize hρ : G.eval = ρ at e120 eC
    have hρ' : G.eval = ρ := hρ
    refine Reg.go_run (Value.bool true) W ?_ ?_
    · rw [hρ']; simp [execOp, go_sem, e120, eC]
    · exact ⟨Below.refl _ _, rfl⟩
set_option maxHeartbeats 4000000 in
set_option maxRecDepth 20000 in
theorem vn11_h14 :
    Reg.OpOK Try.prog (Reg.opsOf Try.f9 11) a0 w0 (vn11R b2 b12 b18 p1 p2) (fun _ _ _ _ => True) 14 := by
    refine Reg.op_ok2 (fun af => { dst := some 122, op := Op.pick (Operand.tmp 119) (Operand.tmp 121) (Operand.const (Value.bool false)), type := 4, pos := "outright.go:38", after := af, guard := none }) #[{ on := 11, ground := Ground.data }, { on := 13, ground := Ground.data }] (by kernel_rfl) [11, 13] (by kernel_rfl) fun af v W hb hd => ?_
    have d11 : v 11 = (Value.bool true) := hd 11 (by decide)
    have d13 : v 13 = (Value.bool true) := hd 13 (by decide)
    have e119 := (Reg.gfr_eval (ops := (Reg.opsOf Try.f9 11)) (a0 := a0) (v := v) (L := [11, 13]) 119 11 (by kernel_rfl) (by rw [hsz]; omega)).trans d11
    have e121 := (Reg.gfr_eval (ops := (Reg.opsOf Try.f9 11)) (a0 := a0) (v := v) (L := [11, 13]) 121 13 (by kernel_rfl) (by rw [hsz]; omega)).trans d13
    refine ⟨Reg.wanted_none rfl, ?_⟩
    have eC : ∀ x, (Reg.gfr (Reg.opsOf Try.f9 11) a0 v [11, 13]).eval (.const x) = x := fun _ => rfl
    generalize Reg.gfr (Reg.opsOf Try.f9 11) a0 v [11, 13] = G at e119 e121 eC ⊢
    generalize hρ : G.eval = ρ at e119 e121 eC
    have hρ' : G.eval = ρ := hρ
    refine Reg.go_run (Value.bool true) W ?_ ?_
    · rw [hρ']; simp [execOp, go_sem, e119, e121, eC]
    · exact ⟨Below.refl _ _, rfl⟩
set_option maxHeartbeats 4000000 in
set_option maxRecDepth 20000 in
theorem vn11_h15 :
    Reg.OpOK Try.prog (Reg.opsOf Try.f9 11) a0 w0 (vn11R b2 b12 b18 p1 p2) (fun _ _ _ _ => True) 15 := by
    refine Reg.op_ok2 (fun af => { dst := some 123, op := Op.move (Operand.tmp 122), type := 4, pos := "outright.go:38", after := af, guard := none }) #[{ on := 14, ground := Ground.data }, { on := 11, ground := Ground.chain }] (by kernel_rfl) [14, 11] (by kernel_rfl) fun af v W hb hd => ?_
    have d14 : v 14 = (Value.bool true) := hd 14 (by decide)
    have e122 := (Reg.gfr_eval (ops := (Reg.opsOf Try.f9 11)) (a0 := a0) (v := v) (L := [14, 11]) 122 14 (by kernel_rfl) (by rw [hsz]; omega)).trans d14
    refine ⟨Reg.wanted_none rfl, ?_⟩
    generalize Reg.gfr (Reg.opsOf Try.f9 11) a0 v [14, 11] = G at e122 ⊢
    generalize hρ : G.eval = ρ at e122
    have hρ' : G.eval = ρ := hρ
    refine Reg.go_run (Value.bool true) W ?_ ?_
    · rw [hρ']; simp [execOp, go_sem, e122]
    · exact ⟨Below.refl _ _, rfl⟩
set_option maxHeartbeats 4000000 in
set_option maxRecDepth 20000 in
theorem vn11_h16 :
    Reg.OpOK Try.prog (Reg.opsOf Try.f9 11) a0 w0 (vn11R b2 b12 b18 p1 p2) (fun _ _ _ _ => True) 16 := by
    refine Reg.op_ok2 (fun af => { dst := some 124, op := Op.move (Operand.tmp 9), type := 36, pos := "outright.go:38", after := af, guard := some (15, true) }) #[{ on := 15, ground := Ground.guard }] (by kernel_rfl) [15] (by kernel_rfl) fun af v W hb hd => ?_
    have d15 : v 15 = (Value.bool true) := hd 15 (by decide)
    have e9 := (Reg.gfr_eval0 (ops := (Reg.opsOf Try.f9 11)) (a0 := a0) (v := v) (L := [15]) 9 (by kernel_rfl)).trans i9
    have e123 := (Reg.gfr_eval (ops := (Reg.opsOf Try.f9 11)) (a0 := a0) (v := v) (L := [15]) 123 15 (by kernel_rfl) (by rw [hsz]; omega)).trans d15
    refine ⟨Reg.wanted_of rfl (by kernel_rfl) e123, ?_⟩
    generalize Reg.gfr (Reg.opsOf Try.f9 11) a0 v [15] = G at e9 ⊢
    generalize hρ : G.eval = ρ at e9
    have hρ' : G.eval = ρ := hρ
    refine Reg.go_run (Value.int IntKind.i64 50) W ?_ ?_
    · rw [hρ']; simp [execOp, go_sem, e9]
    · exact ⟨Below.refl _ _, rfl⟩
set_option maxHeartbeats 4000000 in
set_option maxRecDepth 20000 in
theorem vn11_h17 :
    Reg.OpOK Try.prog (Reg.opsOf Try.f9 11) a0 w0 (vn11R b2 b12 b18 p1 p2) (fun _ _ _ _ => True) 17 := by
    refine Reg.op_ok2 (fun af => { dst := some 125, op := Op.binOp BinOp.eql 36 (Operand.tmp 124) (Operand.const (Value.int IntKind.i64 50)) 36, type := 4, pos := "outright.go:38", after := af, guard := some (15, true) }) #[{ on := 16, ground := Ground.data }, { on := 15, ground := Ground.guard }] (by kernel_rfl) [16, 15] (by kernel_rfl) fun af v W hb hd => ?_
    have d15 : v 15 = (Value.bool true) := hd 15 (by decide)
    have d16 : v 16 = (Value.int IntKind.i64 50) := hd 16 (by decide)
    have e124 := (Reg.gfr_eval (ops := (Reg.opsOf Try.f9 11)) (a0 := a0) (v := v) (L := [16, 15]) 124 16 (by kernel_rfl) (by rw [hsz]; omega)).trans d16
    have e123 := (Reg.gfr_eval (ops := (Reg.opsOf Try.f9 11)) (a0 := a0) (v := v) (L := [16, 15]) 123 15 (by kernel_rfl) (by rw [hsz]; omega)).trans d15
    refine ⟨Reg.wanted_of rfl (by kernel_rfl) e123, ?_⟩
    have eC : ∀ x, (Reg.gfr (Reg.opsOf Try.f9 11) a0 v [16, 15]).eval (.const x) = x := fun _ => rfl
    generalize Reg.gfr (Reg.opsOf Try.f9 11) a0 v [16, 15] = G at e124 eC ⊢
    generalize hρ : G.eval = ρ at e124 eC
    have hρ' : G.eval = ρ := hρ
    refine Reg.go_run (Value.bool true) W ?_ ?_
    · rw [hρ']; simp [execOp, go_sem, e124, eC]
    · exact ⟨Below.refl _ _, rfl⟩
set_option maxHeartbeats 4000000 in
set_option maxRecDepth 20000 in
theorem vn11_h18 :
    Reg.OpOK Try.prog (Reg.opsOf Try.f9 11) a0 w0 (vn11R b2 b12 b18 p1 p2) (fun _ _ _ _ => True) 18 := by
    refine Reg.op_ok2 (fun af => { dst := some 126, op := Op.pick (Operand.tmp 123) (Operand.tmp 125) (Operand.const (Value.bool false)), type := 4, pos := "outright.go:38", after := af, guard := none }) #[{ on := 15, ground := Ground.data }, { on := 17, ground := Ground.data }] (by kernel_rfl) [15, 17] (by kernel_rfl) fun af v W hb hd => ?_
    have d15 : v 15 = (Value.bool true) := hd 15 (by decide)
    have d17 : v 17 = (Value.bool true) := hd 17 (by decide)
    have e123 := (Reg.gfr_eval (ops := (Reg.opsOf Try.f9 11)) (a0 := a0) (v := v) (L := [15, 17]) 123 15 (by kernel_rfl) (by rw [hsz]; omega)).trans d15
    have e125 := (Reg.gfr_eval (ops := (Reg.opsOf Try.f9 11)) (a0 := a0) (v := v) (L := [15, 17]) 125 17 (by kernel_rfl) (by rw [hsz]; omega)).trans d17
    refine ⟨Reg.wanted_none rfl, ?_⟩
    have eC : ∀ x, (Reg.gfr (Reg.opsOf Try.f9 11) a0 v [15, 17]).eval (.const x) = x := fun _ => rfl
    generalize Reg.gfr (Reg.opsOf Try.f9 11) a0 v [15, 17] = G at e123 e125 eC ⊢
    generalize hρ : G.eval = ρ at e123 e125 eC
    have hρ' : G.eval = ρ := hρ
    refine Reg.go_run (Value.bool true) W ?_ ?_
    · rw [hρ']; simp [execOp, go_sem, e123, e125, eC]
    · exact ⟨Below.refl _ _, rfl⟩
set_option maxHeartbeats 4000000 in
set_option maxRecDepth 20000 in
theorem vn11_h19 :
    Reg.OpOK Try.prog (Reg.opsOf Try.f9 11) a0 w0 (vn11R b2 b12 b18 p1 p2) (fun _ _ _ _ => True) 19 := by
    refine Reg.op_ok2 (fun af => { dst := some 127, op := Op.move (Operand.tmp 126), type := 4, pos := "outright.go:38", after := af, guard := none }) #[{ on := 18, ground := Ground.data }, { on := 15, ground := Ground.chain }] (by kernel_rfl) [18, 15] (by kernel_rfl) fun af v W hb hd => ?_
    have d18 : v 18 = (Value.bool true) := hd 18 (by decide)
    have e126 := (Reg.gfr_eval (ops := (Reg.opsOf Try.f9 11)) (a0 := a0) (v := v) (L := [18, 15]) 126 18 (by kernel_rfl) (by rw [hsz]; omega)).trans d18
    refine ⟨Reg.wanted_none rfl, ?_⟩
    generalize Reg.gfr (Reg.opsOf Try.f9 11) a0 v [18, 15] = G at e126 ⊢
    generalize hρ : G.eval = ρ at e126
    have hρ' : G.eval = ρ := hρ
    refine Reg.go_run (Value.bool true) W ?_ ?_
    · rw [hρ']; simp [execOp, go_sem, e126]
    · exact ⟨Below.refl _ _, rfl⟩
set_option maxHeartbeats 4000000 in
set_option maxRecDepth 20000 in
theorem vn11_h20 :
    Reg.OpOK Try.prog (Reg.opsOf Try.f9 11) a0 w0 (vn11R b2 b12 b18 p1 p2) (fun _ _ _ _ => True) 20 := by
    refine Reg.op_ok2 (fun af => { dst := some 128, op := Op.move (Operand.tmp 11), type := 36, pos := "outright.go:38", after := af, guard := some (19, true) }) #[{ on := 19, ground := Ground.guard }] (by kernel_rfl) [19] (by kernel_rfl) fun af v W hb hd => ?_
    have d19 : v 19 = (Value.bool true) := hd 19 (by decide)
    have e11 := (Reg.gfr_eval0 (ops := (Reg.opsOf Try.f9 11)) (a0 := a0) (v := v) (L := [19]) 11 (by kernel_rfl)).trans i11
    have e127 := (Reg.gfr_eval (ops := (Reg.opsOf Try.f9 11)) (a0 := a0) (v := v) (L := [19]) 127 19 (by kernel_rfl) (by rw [hsz]; omega)).trans d19
    refine ⟨Reg.wanted_of rfl (by kernel_rfl) e127, ?_⟩
    generalize Reg.gfr (Reg.opsOf Try.f9 11) a0 v [19] = G at e11 ⊢
    generalize hρ : G.eval = ρ at e11
    have hρ' : G.eval = ρ := hρ
    refine Reg.go_run (Value.int IntKind.i64 61) W ?_ ?_
    · rw [hρ']; simp [execOp, go_sem, e11]
    · exact ⟨Below.refl _ _, rfl⟩
set_option maxHeartbeats 4000000 in
set_option maxRecDepth 20000 in
theorem vn11_h21 :
    Reg.OpOK Try.prog (Reg.opsOf Try.f9 11) a0 w0 (vn11R b2 b12 b18 p1 p2) (fun _ _ _ _ => True) 21 := by
    refine Reg.op_ok2 (fun af => { dst := some 129, op := Op.binOp BinOp.eql 36 (Operand.tmp 128) (Operand.const (Value.int IntKind.i64 61)) 36, type := 4, pos := "outright.go:38", after := af, guard := some (19, true) }) #[{ on := 20, ground := Ground.data }, { on := 19, ground := Ground.guard }] (by kernel_rfl) [20, 19] (by kernel_rfl) fun af v W hb hd => ?_
    have d19 : v 19 = (Value.bool true) := hd 19 (by decide)
    have d20 : v 20 = (Value.int IntKind.i64 61) := hd 20 (by decide)
    have e128 := (Reg.gfr_eval (ops := (Reg.opsOf Try.f9 11)) (a0 := a0) (v := v) (L := [20, 19]) 128 20 (by kernel_rfl) (by rw [hsz]; omega)).trans d20
    have e127 := (Reg.gfr_eval (ops := (Reg.opsOf Try.f9 11)) (a0 := a0) (v := v) (L := [20, 19]) 127 19 (by kernel_rfl) (by rw [hsz]; omega)).trans d19
    refine ⟨Reg.wanted_of rfl (by kernel_rfl) e127, ?_⟩
    have eC : ∀ x, (Reg.gfr (Reg.opsOf Try.f9 11) a0 v [20, 19]).eval (.const x) = x := fun _ => rfl
    generalize Reg.gfr (Reg.opsOf Try.f9 11) a0 v [20, 19] = G at e128 eC ⊢
    generalize hρ : G.eval = ρ at e128 eC
    have hρ' : G.eval = ρ := hρ
    refine Reg.go_run (Value.bool true) W ?_ ?_
    · rw [hρ']; simp [execOp, go_sem, e128, eC]
    · exact ⟨Below.refl _ _, rfl⟩
set_option maxHeartbeats 4000000 in
set_option maxRecDepth 20000 in
theorem vn11_h22 :
    Reg.OpOK Try.prog (Reg.opsOf Try.f9 11) a0 w0 (vn11R b2 b12 b18 p1 p2) (fun _ _ _ _ => True) 22 := by
    refine Reg.op_ok2 (fun af => { dst := some 130, op := Op.pick (Operand.tmp 127) (Operand.tmp 129) (Operand.const (Value.bool false)), type := 4, pos := "outright.go:38", after := af, guard := none }) #[{ on := 19, ground := Ground.data }, { on := 21, ground := Ground.data }] (by kernel_rfl) [19, 21] (by kernel_rfl) fun af v W hb hd => ?_
    have d19 : v 19 = (Value.bool true) := hd 19 (by decide)
    have d21 : v 21 = (Value.bool true) := hd 21 (by decide)
    have e127 := (Reg.gfr_eval (ops := (Reg.opsOf Try.f9 11)) (a0 := a0) (v := v) (L := [19, 21]) 127 19 (by kernel_rfl) (by rw [hsz]; omega)).trans d19
    have e129 := (Reg.gfr_eval (ops := (Reg.opsOf Try.f9 11)) (a0 := a0) (v := v) (L := [19, 21]) 129 21 (by kernel_rfl) (by rw [hsz]; omega)).trans d21
    refine ⟨Reg.wanted_none rfl, ?_⟩
    have eC : ∀ x, (Reg.gfr (Reg.opsOf Try.f9 11) a0 v [19, 21]).eval (.const x) = x := fun _ => rfl
    generalize Reg.gfr (Reg.opsOf Try.f9 11) a0 v [19, 21] = G at e127 e129 eC ⊢
    generalize hρ : G.eval = ρ at e127 e129 eC
    have hρ' : G.eval = ρ := hρ
    refine Reg.go_run (Value.bool true) W ?_ ?_
    · rw [hρ']; simp [execOp, go_sem, e127, e129, eC]
    · exact ⟨Below.refl _ _, rfl⟩
set_option maxHeartbeats 4000000 in
set_option maxRecDepth 20000 in
theorem vn11_h23 :
    Reg.OpOK Try.prog (Reg.opsOf Try.f9 11) a0 w0 (vn11R b2 b12 b18 p1 p2) (fun _ _ _ _ => True) 23 := by
    refine Reg.op_ok2 (fun af => { dst := some 131, op := Op.move (Operand.tmp 130), type := 4, pos := "outright.go:38", after := af, guard := none }) #[{ on := 22, ground := Ground.data }, { on := 19, ground := Ground.chain }] (by kernel_rfl) [22, 19] (by kernel_rfl) fun af v W hb hd => ?_
    have d22 : v 22 = (Value.bool true) := hd 22 (by decide)
    have e130 := (Reg.gfr_eval (ops := (Reg.opsOf Try.f9 11)) (a0 := a0) (v := v) (L := [22, 19]) 130 22 (by kernel_rfl) (by rw [hsz]; omega)).trans d22
    refine ⟨Reg.wanted_none rfl, ?_⟩
    generalize Reg.gfr (Reg.opsOf Try.f9 11) a0 v [22, 19] = G at e130 ⊢
    generalize hρ : G.eval = ρ at e130
    have hρ' : G.eval = ρ := hρ
    refine Reg.go_run (Value.bool true) W ?_ ?_
    · rw [hρ']; simp [execOp, go_sem, e130]
    · exact ⟨Below.refl _ _, rfl⟩
set_option maxHeartbeats 4000000 in
set_option maxRecDepth 20000 in
theorem vn11_h24 :
    Reg.OpOK Try.prog (Reg.opsOf Try.f9 11) a0 w0 (vn11R b2 b12 b18 p1 p2) (fun _ _ _ _ => True) 24 := by
    refine Reg.op_ok2 (fun af => { dst := some 132, op := Op.move (Operand.tmp 13), type := 36, pos := "outright.go:38", after := af, guard := some (23, true) }) #[{ on := 23, ground := Ground.guard }] (by kernel_rfl) [23] (by kernel_rfl) fun af v W hb hd => ?_
    have d23 : v 23 = (Value.bool true) := hd 23 (by decide)
    have e13 := (Reg.gfr_eval0 (ops := (Reg.opsOf Try.f9 11)) (a0 := a0) (v := v) (L := [23]) 13 (by kernel_rfl)).trans i13
    have e131 := (Reg.gfr_eval (ops := (Reg.opsOf Try.f9 11)) (a0 := a0) (v := v) (L := [23]) 131 23 (by kernel_rfl) (by rw [hsz]; omega)).trans d23
    refine ⟨Reg.wanted_of rfl (by kernel_rfl) e131, ?_⟩
    generalize Reg.gfr (Reg.opsOf Try.f9 11) a0 v [23] = G at e13 ⊢
    generalize hρ : G.eval = ρ at e13
    have hρ' : G.eval = ρ := hρ
    refine Reg.go_run (Value.int IntKind.i64 0) W ?_ ?_
    · rw [hρ']; simp [execOp, go_sem, e13]
    · exact ⟨Below.refl _ _, rfl⟩
set_option maxHeartbeats 4000000 in
set_option maxRecDepth 20000 in
theorem vn11_h25 :
    Reg.OpOK Try.prog (Reg.opsOf Try.f9 11) a0 w0 (vn11R b2 b12 b18 p1 p2) (fun _ _ _ _ => True) 25 := by
    refine Reg.op_ok2 (fun af => { dst := some 133, op := Op.binOp BinOp.eql 36 (Operand.tmp 132) (Operand.const (Value.int IntKind.i64 0)) 36, type := 4, pos := "outright.go:38", after := af, guard := some (23, true) }) #[{ on := 24, ground := Ground.data }, { on := 23, ground := Ground.guard }] (by kernel_rfl) [24, 23] (by kernel_rfl) fun af v W hb hd => ?_
    have d23 : v 23 = (Value.bool true) := hd 23 (by decide)
    have d24 : v 24 = (Value.int IntKind.i64 0) := hd 24 (by decide)
    have e132 := (Reg.gfr_eval (ops := (Reg.opsOf Try.f9 11)) (a0 := a0) (v := v) (L := [24, 23]) 132 24 (by kernel_rfl) (by rw [hsz]; omega)).trans d24
    have e131 := (Reg.gfr_eval (ops := (Reg.opsOf Try.f9 11)) (a0 := a0) (v := v) (L := [24, 23]) 131 23 (by kernel_rfl) (by rw [hsz]; omega)).trans d23
    refine ⟨Reg.wanted_of rfl (by kernel_rfl) e131, ?_⟩
    have eC : ∀ x, (Reg.gfr (Reg.opsOf Try.f9 11) a0 v [24, 23]).eval (.const x) = x := fun _ => rfl
    generalize Reg.gfr (Reg.opsOf Try.f9 11) a0 v [24, 23] = G at e132 eC ⊢
    generalize hρ : G.eval = ρ at e132 eC
    have hρ' : G.eval = ρ := hρ
    refine Reg.go_run (Value.bool true) W ?_ ?_
    · rw [hρ']; simp [execOp, go_sem, e132, eC]
    · exact ⟨Below.refl _ _, rfl⟩
set_option maxHeartbeats 4000000 in
set_option maxRecDepth 20000 in
theorem vn11_h26 :
    Reg.OpOK Try.prog (Reg.opsOf Try.f9 11) a0 w0 (vn11R b2 b12 b18 p1 p2) (fun _ _ _ _ => True) 26 := by
    refine Reg.op_ok2 (fun af => { dst := some 134, op := Op.pick (Operand.tmp 131) (Operand.tmp 133) (Operand.const (Value.bool false)), type := 4, pos := "outright.go:38", after := af, guard := none }) #[{ on := 23, ground := Ground.data }, { on := 25, ground := Ground.data }] (by kernel_rfl) [23, 25] (by kernel_rfl) fun af v W hb hd => ?_
    have d23 : v 23 = (Value.bool true) := hd 23 (by decide)
    have d25 : v 25 = (Value.bool true) := hd 25 (by decide)
    have e131 := (Reg.gfr_eval (ops := (Reg.opsOf Try.f9 11)) (a0 := a0) (v := v) (L := [23, 25]) 131 23 (by kernel_rfl) (by rw [hsz]; omega)).trans d23
    have e133 := (Reg.gfr_eval (ops := (Reg.opsOf Try.f9 11)) (a0 := a0) (v := v) (L := [23, 25]) 133 25 (by kernel_rfl) (by rw [hsz]; omega)).trans d25
    refine ⟨Reg.wanted_none rfl, ?_⟩
    have eC : ∀ x, (Reg.gfr (Reg.opsOf Try.f9 11) a0 v [23, 25]).eval (.const x) = x := fun _ => rfl
    generalize Reg.gfr (Reg.opsOf Try.f9 11) a0 v [23, 25] = G at e131 e133 eC ⊢
    generalize hρ : G.eval = ρ at e131 e133 eC
    have hρ' : G.eval = ρ := hρ
    refine Reg.go_run (Value.bool true) W ?_ ?_
    · rw [hρ']; simp [execOp, go_sem, e131, e133, eC]
    · exact ⟨Below.refl _ _, rfl⟩
set_option maxHeartbeats 4000000 in
set_option maxRecDepth 20000 in
theorem vn11_h27 :
    Reg.OpOK Try.prog (Reg.opsOf Try.f9 11) a0 w0 (vn11R b2 b12 b18 p1 p2) (fun _ _ _ _ => True) 27 := by
    refine Reg.op_ok2 (fun af => { dst := some 135, op := Op.move (Operand.tmp 134), type := 4, pos := "outright.go:38", after := af, guard := none }) #[{ on := 26, ground := Ground.data }, { on := 23, ground := Ground.chain }] (by kernel_rfl) [26, 23] (by kernel_rfl) fun af v W hb hd => ?_
    have d26 : v 26 = (Value.bool true) := hd 26 (by decide)
    have e134 := (Reg.gfr_eval (ops := (Reg.opsOf Try.f9 11)) (a0 := a0) (v := v) (L := [26, 23]) 134 26 (by kernel_rfl) (by rw [hsz]; omega)).trans d26
    refine ⟨Reg.wanted_none rfl, ?_⟩
    generalize Reg.gfr (Reg.opsOf Try.f9 11) a0 v [26, 23] = G at e134 ⊢
    generalize hρ : G.eval = ρ at e134
    have hρ' : G.eval = ρ := hρ
    refine Reg.go_run (Value.bool true) W ?_ ?_
    · rw [hρ']; simp [execOp, go_sem, e134]
    · exact ⟨Below.refl _ _, rfl⟩
set_option maxHeartbeats 4000000 in
set_option maxRecDepth 20000 in
theorem vn11_h28 :
    Reg.OpOK Try.prog (Reg.opsOf Try.f9 11) a0 w0 (vn11R b2 b12 b18 p1 p2) (fun _ _ _ _ => True) 28 := by
    refine Reg.op_ok2 (fun af => { dst := some 136, op := Op.load 24 (Operand.tmp 12), type := 24, pos := "outright.go:38", after := af, guard := some (27, true) }) #[{ on := 27, ground := Ground.guard }] (by kernel_rfl) [27] (by kernel_rfl) fun af v W hb hd => ?_
    have d27 : v 27 = (Value.bool true) := hd 27 (by decide)
    have e12 := (Reg.gfr_eval0 (ops := (Reg.opsOf Try.f9 11)) (a0 := a0) (v := v) (L := [27]) 12 (by kernel_rfl)).trans i12
    have e135 := (Reg.gfr_eval (ops := (Reg.opsOf Try.f9 11)) (a0 := a0) (v := v) (L := [27]) 135 27 (by kernel_rfl) (by rw [hsz]; omega)).trans d27
    refine ⟨Reg.wanted_of rfl (by kernel_rfl) e135, ?_⟩
    generalize Reg.gfr (Reg.opsOf Try.f9 11) a0 v [27] = G at e12 ⊢
    generalize hρ : G.eval = ρ at e12
    have hρ' : G.eval = ρ := hρ
    exact fun K hK => wp_load_row 24 (.tmp 12) rfl b12 (by rw [hρ']; exact e12) 24 (vC p1) (0, 0) _ (M_b12 W hb) Try.underlying24 rfl (vec_size hp1) (hK _ _ ⟨Below.refl _ _, rfl⟩)
set_option maxHeartbeats 4000000 in
set_option maxRecDepth 20000 in
theorem vn11_h29 :
    Reg.OpOK Try.prog (Reg.opsOf Try.f9 11) a0 w0 (vn11R b2 b12 b18 p1 p2) (fun _ _ _ _ => True) 29 := by
    refine Reg.op_ok2 (fun af => { dst := some 137, op := Op.buildSlice 75 2 #[(0, Operand.const (Value.int IntKind.u32 5)), (1, Operand.const (Value.int IntKind.u32 1))], type := 75, pos := "outright.go:38", after := af, guard := some (27, true) }) #[{ on := 27, ground := Ground.guard }] (by kernel_rfl) [27] (by kernel_rfl) fun af v W hb hd => ?_
    have d27 : v 27 = (Value.bool true) := hd 27 (by decide)
    have e135 := (Reg.gfr_eval (ops := (Reg.opsOf Try.f9 11)) (a0 := a0) (v := v) (L := [27]) 135 27 (by kernel_rfl) (by rw [hsz]; omega)).trans d27
    refine ⟨Reg.wanted_of rfl (by kernel_rfl) e135, ?_⟩
    have eC : ∀ x, (Reg.gfr (Reg.opsOf Try.f9 11) a0 v [27]).eval (.const x) = x := fun _ => rfl
    generalize Reg.gfr (Reg.opsOf Try.f9 11) a0 v [27] = G at eC ⊢
    generalize hρ : G.eval = ρ at eC
    have hρ' : G.eval = ρ := hρ
    refine Reg.go_run _ (W.alloc (.cells #[(Value.int IntKind.u32 5), (Value.int IntKind.u32 1)] 22)) (by rw [hρ']; simp [execOp, go_sem, eC]) ⟨(Below.refl _ W).alloc (Nat.le_refl _) _, ⟨_, rfl, heap_alloc_new _ _⟩⟩
set_option maxHeartbeats 4000000 in
set_option maxRecDepth 20000 in
theorem vn11_h30 :
    Reg.OpOK Try.prog (Reg.opsOf Try.f9 11) a0 w0 (vn11R b2 b12 b18 p1 p2) (fun _ _ _ _ => True) 30 := by
    refine Reg.op_ok2 (fun af => { dst := some 138, op := Op.call { callee := Callee.value (Operand.func 34), args := #[Operand.tmp 137], argTypes := #[75] }, type := 24, pos := "outright.go:38", after := af, guard := some (27, true) }) #[{ on := 29, ground := Ground.data }, { on := 27, ground := Ground.chain }, { on := 27, ground := Ground.guard }] (by kernel_rfl) [29, 27, 27] (by kernel_rfl) fun af v W hb hd => ?_
    have d27 : v 27 = (Value.bool true) := hd 27 (by decide)
    have d29 : (Reg.IsRow 22 #[(Value.int IntKind.u32 5), (Value.int IntKind.u32 1)] 2) (v 29) W := hd 29 (by decide)
    have e137 := Reg.gfr_eval (ops := (Reg.opsOf Try.f9 11)) (a0 := a0) (v := v) (L := [29, 27, 27]) 137 29 (by kernel_rfl) (by rw [hsz]; omega)
    have e135 := (Reg.gfr_eval (ops := (Reg.opsOf Try.f9 11)) (a0 := a0) (v := v) (L := [29, 27, 27]) 135 27 (by kernel_rfl) (by rw [hsz]; omega)).trans d27
    obtain ⟨gr, hg1, hg2⟩ := d29
    rw [hg1] at e137
    refine ⟨Reg.wanted_of rfl (by kernel_rfl) e135, ?_⟩
    have eF : ∀ f, (Reg.gfr (Reg.opsOf Try.f9 11) a0 v [29, 27, 27]).eval (.func f) = .func (.func f) #[] #[] := fun _ => rfl
    generalize Reg.gfr (Reg.opsOf Try.f9 11) a0 v [29, 27, 27] = G at e137 eF ⊢
    generalize hρ : G.eval = ρ at e137 eF
    have hρ' : G.eval = ρ := hρ
    refine Reg.go_call 34 #[(Value.slice (some ⟨gr, 0, none⟩) 2 2)] (by rw [hρ']; simp [execOp, go_sem, e137, eF]) ((of_any _ 2 2 [5, 1] rfl (by omega) W (rd_u32 [5, 1] hg2)).mono fun e w' he => ?_)
    obtain ⟨rfl, hbb⟩ := he
    exact ⟨_, rfl, hbb, (show _ = _ from by rw [hq1])⟩
set_option maxHeartbeats 4000000 in
set_option maxRecDepth 20000 in
theorem vn11_h31 :
    Reg.OpOK Try.prog (Reg.opsOf Try.f9 11) a0 w0 (vn11R b2 b12 b18 p1 p2) (fun _ _ _ _ => True) 31 := by
    refine Reg.op_ok2 (fun af => { dst := some 139, op := Op.binOp BinOp.eql 24 (Operand.tmp 136) (Operand.tmp 138) 24, type := 4, pos := "outright.go:38", after := af, guard := some (27, true) }) #[{ on := 28, ground := Ground.data }, { on := 30, ground := Ground.data }, { on := 27, ground := Ground.guard }] (by kernel_rfl) [28, 30, 27] (by kernel_rfl) fun af v W hb hd => ?_
    have d27 : v 27 = (Value.bool true) := hd 27 (by decide)
    have d28 : v 28 = (Value.agg (vC p1)) := hd 28 (by decide)
    have d30 : v 30 = (Value.agg (vC p1)) := hd 30 (by decide)
    have e136 := (Reg.gfr_eval (ops := (Reg.opsOf Try.f9 11)) (a0 := a0) (v := v) (L := [28, 30, 27]) 136 28 (by kernel_rfl) (by rw [hsz]; omega)).trans d28
    have e138 := (Reg.gfr_eval (ops := (Reg.opsOf Try.f9 11)) (a0 := a0) (v := v) (L := [28, 30, 27]) 138 30 (by kernel_rfl) (by rw [hsz]; omega)).trans d30
    have e135 := (Reg.gfr_eval (ops := (Reg.opsOf Try.f9 11)) (a0 := a0) (v := v) (L := [28, 30, 27]) 135 27 (by kernel_rfl) (by rw [hsz]; omega)).trans d27
    refine ⟨Reg.wanted_of rfl (by kernel_rfl) e135, ?_⟩
    generalize Reg.gfr (Reg.opsOf Try.f9 11) a0 v [28, 30, 27] = G at e136 e138 ⊢
    generalize hρ : G.eval = ρ at e136 e138
    have hρ' : G.eval = ρ := hρ
    refine Reg.go_run (Value.bool true) W ?_ ?_
    · rw [hρ']; simp [execOp, go_sem, e136, e138, run_eq_vec W p1 p1 hp1 hp1]
    · exact ⟨Below.refl _ _, rfl⟩
set_option maxHeartbeats 4000000 in
set_option maxRecDepth 20000 in
theorem vn11_h32 :
    Reg.OpOK Try.prog (Reg.opsOf Try.f9 11) a0 w0 (vn11R b2 b12 b18 p1 p2) (fun _ _ _ _ => True) 32 := by
    refine Reg.op_ok2 (fun af => { dst := some 140, op := Op.pick (Operand.tmp 135) (Operand.tmp 139) (Operand.const (Value.bool false)), type := 4, pos := "outright.go:38", after := af, guard := none }) #[{ on := 27, ground := Ground.data }, { on := 31, ground := Ground.data }] (by kernel_rfl) [27, 31] (by kernel_rfl) fun af v W hb hd => ?_
    have d27 : v 27 = (Value.bool true) := hd 27 (by decide)
    have d31 : v 31 = (Value.bool true) := hd 31 (by decide)
    have e135 := (Reg.gfr_eval (ops := (Reg.opsOf Try.f9 11)) (a0 := a0) (v := v) (L := [27, 31]) 135 27 (by kernel_rfl) (by rw [hsz]; omega)).trans d27
    have e139 := (Reg.gfr_eval (ops := (Reg.opsOf Try.f9 11)) (a0 := a0) (v := v) (L := [27, 31]) 139 31 (by kernel_rfl) (by rw [hsz]; omega)).trans d31
    refine ⟨Reg.wanted_none rfl, ?_⟩
    have eC : ∀ x, (Reg.gfr (Reg.opsOf Try.f9 11) a0 v [27, 31]).eval (.const x) = x := fun _ => rfl
    generalize Reg.gfr (Reg.opsOf Try.f9 11) a0 v [27, 31] = G at e135 e139 eC ⊢
    generalize hρ : G.eval = ρ at e135 e139 eC
    have hρ' : G.eval = ρ := hρ
    refine Reg.go_run (Value.bool true) W ?_ ?_
    · rw [hρ']; simp [execOp, go_sem, e135, e139, eC]
    · exact ⟨Below.refl _ _, rfl⟩
set_option maxHeartbeats 4000000 in
set_option maxRecDepth 20000 in
theorem vn11_h33 :
    Reg.OpOK Try.prog (Reg.opsOf Try.f9 11) a0 w0 (vn11R b2 b12 b18 p1 p2) (fun _ _ _ _ => True) 33 := by
    refine Reg.op_ok2 (fun af => { dst := some 141, op := Op.move (Operand.tmp 140), type := 4, pos := "outright.go:38", after := af, guard := none }) #[{ on := 32, ground := Ground.data }, { on := 30, ground := Ground.chain }] (by kernel_rfl) [32, 30] (by kernel_rfl) fun af v W hb hd => ?_
    have d32 : v 32 = (Value.bool true) := hd 32 (by decide)
    have e140 := (Reg.gfr_eval (ops := (Reg.opsOf Try.f9 11)) (a0 := a0) (v := v) (L := [32, 30]) 140 32 (by kernel_rfl) (by rw [hsz]; omega)).trans d32
    refine ⟨Reg.wanted_none rfl, ?_⟩
    generalize Reg.gfr (Reg.opsOf Try.f9 11) a0 v [32, 30] = G at e140 ⊢
    generalize hρ : G.eval = ρ at e140
    have hρ' : G.eval = ρ := hρ
    refine Reg.go_run (Value.bool true) W ?_ ?_
    · rw [hρ']; simp [execOp, go_sem, e140]
    · exact ⟨Below.refl _ _, rfl⟩
set_option maxHeartbeats 4000000 in
set_option maxRecDepth 20000 in
theorem vn11_h34 :
    Reg.OpOK Try.prog (Reg.opsOf Try.f9 11) a0 w0 (vn11R b2 b12 b18 p1 p2) (fun _ _ _ _ => True) 34 := by
    refine Reg.op_ok2 (fun af => { dst := some 142, op := Op.move (Operand.tmp 15), type := 36, pos := "outright.go:38", after := af, guard := some (33, true) }) #[{ on := 33, ground := Ground.guard }] (by kernel_rfl) [33] (by kernel_rfl) fun af v W hb hd => ?_
    have d33 : v 33 = (Value.bool true) := hd 33 (by decide)
    have e15 := (Reg.gfr_eval0 (ops := (Reg.opsOf Try.f9 11)) (a0 := a0) (v := v) (L := [33]) 15 (by kernel_rfl)).trans i15
    have e141 := (Reg.gfr_eval (ops := (Reg.opsOf Try.f9 11)) (a0 := a0) (v := v) (L := [33]) 141 33 (by kernel_rfl) (by rw [hsz]; omega)).trans d33
    refine ⟨Reg.wanted_of rfl (by kernel_rfl) e141, ?_⟩
    generalize Reg.gfr (Reg.opsOf Try.f9 11) a0 v [33] = G at e15 ⊢
    generalize hρ : G.eval = ρ at e15
    have hρ' : G.eval = ρ := hρ
    refine Reg.go_run (Value.int IntKind.i64 61) W ?_ ?_
    · rw [hρ']; simp [execOp, go_sem, e15]
    · exact ⟨Below.refl _ _, rfl⟩
set_option maxHeartbeats 4000000 in
set_option maxRecDepth 20000 in
theorem vn11_h35 :
    Reg.OpOK Try.prog (Reg.opsOf Try.f9 11) a0 w0 (vn11R b2 b12 b18 p1 p2) (fun _ _ _ _ => True) 35 := by
    refine Reg.op_ok2 (fun af => { dst := some 143, op := Op.binOp BinOp.eql 36 (Operand.tmp 142) (Operand.const (Value.int IntKind.i64 61)) 36, type := 4, pos := "outright.go:38", after := af, guard := some (33, true) }) #[{ on := 34, ground := Ground.data }, { on := 33, ground := Ground.guard }] (by kernel_rfl) [34, 33] (by kernel_rfl) fun af v W hb hd => ?_
    have d33 : v 33 = (Value.bool true) := hd 33 (by decide)
    have d34 : v 34 = (Value.int IntKind.i64 61) := hd 34 (by decide)
    have e142 := (Reg.gfr_eval (ops := (Reg.opsOf Try.f9 11)) (a0 := a0) (v := v) (L := [34, 33]) 142 34 (by kernel_rfl) (by rw [hsz]; omega)).trans d34
    have e141 := (Reg.gfr_eval (ops := (Reg.opsOf Try.f9 11)) (a0 := a0) (v := v) (L := [34, 33]) 141 33 (by kernel_rfl) (by rw [hsz]; omega)).trans d33
    refine ⟨Reg.wanted_of rfl (by kernel_rfl) e141, ?_⟩
    have eC : ∀ x, (Reg.gfr (Reg.opsOf Try.f9 11) a0 v [34, 33]).eval (.const x) = x := fun _ => rfl
    generalize Reg.gfr (Reg.opsOf Try.f9 11) a0 v [34, 33] = G at e142 eC ⊢
    generalize hρ : G.eval = ρ at e142 eC
    have hρ' : G.eval = ρ := hρ
    refine Reg.go_run (Value.bool true) W ?_ ?_
    · rw [hρ']; simp [execOp, go_sem, e142, eC]
    · exact ⟨Below.refl _ _, rfl⟩
set_option maxHeartbeats 4000000 in
set_option maxRecDepth 20000 in
theorem vn11_h36 :
    Reg.OpOK Try.prog (Reg.opsOf Try.f9 11) a0 w0 (vn11R b2 b12 b18 p1 p2) (fun _ _ _ _ => True) 36 := by
    refine Reg.op_ok2 (fun af => { dst := some 144, op := Op.pick (Operand.tmp 141) (Operand.tmp 143) (Operand.const (Value.bool false)), type := 4, pos := "outright.go:38", after := af, guard := none }) #[{ on := 33, ground := Ground.data }, { on := 35, ground := Ground.data }] (by kernel_rfl) [33, 35] (by kernel_rfl) fun af v W hb hd => ?_
    have d33 : v 33 = (Value.bool true) := hd 33 (by decide)
    have d35 : v 35 = (Value.bool true) := hd 35 (by decide)
    have e141 := (Reg.gfr_eval (ops := (Reg.opsOf Try.f9 11)) (a0 := a0) (v := v) (L := [33, 35]) 141 33 (by kernel_rfl) (by rw [hsz]; omega)).trans d33
    have e143 := (Reg.gfr_eval (ops := (Reg.opsOf Try.f9 11)) (a0 := a0) (v := v) (L := [33, 35]) 143 35 (by kernel_rfl) (by rw [hsz]; omega)).trans d35
    refine ⟨Reg.wanted_none rfl, ?_⟩
    have eC : ∀ x, (Reg.gfr (Reg.opsOf Try.f9 11) a0 v [33, 35]).eval (.const x) = x := fun _ => rfl
    generalize Reg.gfr (Reg.opsOf Try.f9 11) a0 v [33, 35] = G at e141 e143 eC ⊢
    generalize hρ : G.eval = ρ at e141 e143 eC
    have hρ' : G.eval = ρ := hρ
    refine Reg.go_run (Value.bool true) W ?_ ?_
    · rw [hρ']; simp [execOp, go_sem, e141, e143, eC]
    · exact ⟨Below.refl _ _, rfl⟩
set_option maxHeartbeats 4000000 in
set_option maxRecDepth 20000 in
theorem vn11_h37 :
    Reg.OpOK Try.prog (Reg.opsOf Try.f9 11) a0 w0 (vn11R b2 b12 b18 p1 p2) (fun _ _ _ _ => True) 37 := by
    refine Reg.op_ok2 (fun af => { dst := some 145, op := Op.move (Operand.tmp 144), type := 4, pos := "outright.go:38", after := af, guard := none }) #[{ on := 36, ground := Ground.data }, { on := 33, ground := Ground.chain }] (by kernel_rfl) [36, 33] (by kernel_rfl) fun af v W hb hd => ?_
    have d36 : v 36 = (Value.bool true) := hd 36 (by decide)
    have e144 := (Reg.gfr_eval (ops := (Reg.opsOf Try.f9 11)) (a0 := a0) (v := v) (L := [36, 33]) 144 36 (by kernel_rfl) (by rw [hsz]; omega)).trans d36
    refine ⟨Reg.wanted_none rfl, ?_⟩
    generalize Reg.gfr (Reg.opsOf Try.f9 11) a0 v [36, 33] = G at e144 ⊢
    generalize hρ : G.eval = ρ at e144
    have hρ' : G.eval = ρ := hρ
    refine Reg.go_run (Value.bool true) W ?_ ?_
    · rw [hρ']; simp [execOp, go_sem, e144]
    · exact ⟨Below.refl _ _, rfl⟩
set_option maxHeartbeats 4000000 in
set_option maxRecDepth 20000 in
theorem vn11_h38 :
    Reg.OpOK Try.prog (Reg.opsOf Try.f9 11) a0 w0 (vn11R b2 b12 b18 p1 p2) (fun _ _ _ _ => True) 38 := by
    refine Reg.op_ok2 (fun af => { dst := some 146, op := Op.move (Operand.tmp 17), type := 36, pos := "outright.go:38", after := af, guard := some (37, true) }) #[{ on := 37, ground := Ground.guard }] (by kernel_rfl) [37] (by kernel_rfl) fun af v W hb hd => ?_
    have d37 : v 37 = (Value.bool true) := hd 37 (by decide)
    have e17 := (Reg.gfr_eval0 (ops := (Reg.opsOf Try.f9 11)) (a0 := a0) (v := v) (L := [37]) 17 (by kernel_rfl)).trans i17
    have e145 := (Reg.gfr_eval (ops := (Reg.opsOf Try.f9 11)) (a0 := a0) (v := v) (L := [37]) 145 37 (by kernel_rfl) (by rw [hsz]; omega)).trans d37
    refine ⟨Reg.wanted_of rfl (by kernel_rfl) e145, ?_⟩
    generalize Reg.gfr (Reg.opsOf Try.f9 11) a0 v [37] = G at e17 ⊢
    generalize hρ : G.eval = ρ at e17
    have hρ' : G.eval = ρ := hρ
    refine Reg.go_run (Value.int IntKind.i64 50) W ?_ ?_
    · rw [hρ']; simp [execOp, go_sem, e17]
    · exact ⟨Below.refl _ _, rfl⟩
set_option maxHeartbeats 4000000 in
set_option maxRecDepth 20000 in
theorem vn11_h39 :
    Reg.OpOK Try.prog (Reg.opsOf Try.f9 11) a0 w0 (vn11R b2 b12 b18 p1 p2) (fun _ _ _ _ => True) 39 := by
    refine Reg.op_ok2 (fun af => { dst := some 147, op := Op.binOp BinOp.eql 36 (Operand.tmp 146) (Operand.const (Value.int IntKind.i64 50)) 36, type := 4, pos := "outright.go:38", after := af, guard := some (37, true) }) #[{ on := 38, ground := Ground.data }, { on := 37, ground := Ground.guard }] (by kernel_rfl) [38, 37] (by kernel_rfl) fun af v W hb hd => ?_
    have d37 : v 37 = (Value.bool true) := hd 37 (by decide)
    have d38 : v 38 = (Value.int IntKind.i64 50) := hd 38 (by decide)
    have e146 := (Reg.gfr_eval (ops := (Reg.opsOf Try.f9 11)) (a0 := a0) (v := v) (L := [38, 37]) 146 38 (by kernel_rfl) (by rw [hsz]; omega)).trans d38
    have e145 := (Reg.gfr_eval (ops := (Reg.opsOf Try.f9 11)) (a0 := a0) (v := v) (L := [38, 37]) 145 37 (by kernel_rfl) (by rw [hsz]; omega)).trans d37
    refine ⟨Reg.wanted_of rfl (by kernel_rfl) e145, ?_⟩
    have eC : ∀ x, (Reg.gfr (Reg.opsOf Try.f9 11) a0 v [38, 37]).eval (.const x) = x := fun _ => rfl
    generalize Reg.gfr (Reg.opsOf Try.f9 11) a0 v [38, 37] = G at e146 eC ⊢
    generalize hρ : G.eval = ρ at e146 eC
    have hρ' : G.eval = ρ := hρ
    refine Reg.go_run (Value.bool true) W ?_ ?_
    · rw [hρ']; simp [execOp, go_sem, e146, eC]
    · exact ⟨Below.refl _ _, rfl⟩
set_option maxHeartbeats 4000000 in
set_option maxRecDepth 20000 in
theorem vn11_h40 :
    Reg.OpOK Try.prog (Reg.opsOf Try.f9 11) a0 w0 (vn11R b2 b12 b18 p1 p2) (fun _ _ _ _ => True) 40 := by
    refine Reg.op_ok2 (fun af => { dst := some 148, op := Op.pick (Operand.tmp 145) (Operand.tmp 147) (Operand.const (Value.bool false)), type := 4, pos := "outright.go:38", after := af, guard := none }) #[{ on := 37, ground := Ground.data }, { on := 39, ground := Ground.data }] (by kernel_rfl) [37, 39] (by kernel_rfl) fun af v W hb hd => ?_
    have d37 : v 37 = (Value.bool true) := hd 37 (by decide)
    have d39 : v 39 = (Value.bool true) := hd 39 (by decide)
    have e145 := (Reg.gfr_eval (ops := (Reg.opsOf Try.f9 11)) (a0 := a0) (v := v) (L := [37, 39]) 145 37 (by kernel_rfl) (by rw [hsz]; omega)).trans d37
    have e147 := (Reg.gfr_eval (ops := (Reg.opsOf Try.f9 11)) (a0 := a0) (v := v) (L := [37, 39]) 147 39 (by kernel_rfl) (by rw [hsz]; omega)).trans d39
    refine ⟨Reg.wanted_none rfl, ?_⟩
    have eC : ∀ x, (Reg.gfr (Reg.opsOf Try.f9 11) a0 v [37, 39]).eval (.const x) = x := fun _ => rfl
    generalize Reg.gfr (Reg.opsOf Try.f9 11) a0 v [37, 39] = G at e145 e147 eC ⊢
    generalize hρ : G.eval = ρ at e145 e147 eC
    have hρ' : G.eval = ρ := hρ
    refine Reg.go_run (Value.bool true) W ?_ ?_
    · rw [hρ']; simp [execOp, go_sem, e145, e147, eC]
    · exact ⟨Below.refl _ _, rfl⟩
set_option maxHeartbeats 4000000 in
set_option maxRecDepth 20000 in
theorem vn11_h41 :
    Reg.OpOK Try.prog (Reg.opsOf Try.f9 11) a0 w0 (vn11R b2 b12 b18 p1 p2) (fun _ _ _ _ => True) 41 := by
    refine Reg.op_ok2 (fun af => { dst := some 149, op := Op.move (Operand.tmp 148), type := 4, pos := "outright.go:38", after := af, guard := none }) #[{ on := 40, ground := Ground.data }, { on := 37, ground := Ground.chain }] (by kernel_rfl) [40, 37] (by kernel_rfl) fun af v W hb hd => ?_
    have d40 : v 40 = (Value.bool true) := hd 40 (by decide)
    have e148 := (Reg.gfr_eval (ops := (Reg.opsOf Try.f9 11)) (a0 := a0) (v := v) (L := [40, 37]) 148 40 (by kernel_rfl) (by rw [hsz]; omega)).trans d40
    refine ⟨Reg.wanted_none rfl, ?_⟩
    generalize Reg.gfr (Reg.opsOf Try.f9 11) a0 v [40, 37] = G at e148 ⊢
    generalize hρ : G.eval = ρ at e148
    have hρ' : G.eval = ρ := hρ
    refine Reg.go_run (Value.bool true) W ?_ ?_
    · rw [hρ']; simp [execOp, go_sem, e148]
    · exact ⟨Below.refl _ _, rfl⟩
set_option maxHeartbeats 4000000 in
set_option maxRecDepth 20000 in
theorem vn11_h42 :
    Reg.OpOK Try.prog (Reg.opsOf Try.f9 11) a0 w0 (vn11R b2 b12 b18 p1 p2) (fun _ _ _ _ => True) 42 := by
    refine Reg.op_ok2 (fun af => { dst := some 150, op := Op.move (Operand.tmp 19), type := 36, pos := "outright.go:38", after := af, guard := some (41, true) }) #[{ on := 41, ground := Ground.guard }] (by kernel_rfl) [41] (by kernel_rfl) fun af v W hb hd => ?_
    have d41 : v 41 = (Value.bool true) := hd 41 (by decide)
    have e19 := (Reg.gfr_eval0 (ops := (Reg.opsOf Try.f9 11)) (a0 := a0) (v := v) (L := [41]) 19 (by kernel_rfl)).trans i19
    have e149 := (Reg.gfr_eval (ops := (Reg.opsOf Try.f9 11)) (a0 := a0) (v := v) (L := [41]) 149 41 (by kernel_rfl) (by rw [hsz]; omega)).trans d41
    refine ⟨Reg.wanted_of rfl (by kernel_rfl) e149, ?_⟩
    generalize Reg.gfr (Reg.opsOf Try.f9 11) a0 v [41] = G at e19 ⊢
    generalize hρ : G.eval = ρ at e19
    have hρ' : G.eval = ρ := hρ
    refine Reg.go_run (Value.int IntKind.i64 0) W ?_ ?_
    · rw [hρ']; simp [execOp, go_sem, e19]
    · exact ⟨Below.refl _ _, rfl⟩
set_option maxHeartbeats 4000000 in
set_option maxRecDepth 20000 in
theorem vn11_h43 :
    Reg.OpOK Try.prog (Reg.opsOf Try.f9 11) a0 w0 (vn11R b2 b12 b18 p1 p2) (fun _ _ _ _ => True) 43 := by
    refine Reg.op_ok2 (fun af => { dst := some 151, op := Op.binOp BinOp.eql 36 (Operand.tmp 150) (Operand.const (Value.int IntKind.i64 0)) 36, type := 4, pos := "outright.go:38", after := af, guard := some (41, true) }) #[{ on := 42, ground := Ground.data }, { on := 41, ground := Ground.guard }] (by kernel_rfl) [42, 41] (by kernel_rfl) fun af v W hb hd => ?_
    have d41 : v 41 = (Value.bool true) := hd 41 (by decide)
    have d42 : v 42 = (Value.int IntKind.i64 0) := hd 42 (by decide)
    have e150 := (Reg.gfr_eval (ops := (Reg.opsOf Try.f9 11)) (a0 := a0) (v := v) (L := [42, 41]) 150 42 (by kernel_rfl) (by rw [hsz]; omega)).trans d42
    have e149 := (Reg.gfr_eval (ops := (Reg.opsOf Try.f9 11)) (a0 := a0) (v := v) (L := [42, 41]) 149 41 (by kernel_rfl) (by rw [hsz]; omega)).trans d41
    refine ⟨Reg.wanted_of rfl (by kernel_rfl) e149, ?_⟩
    have eC : ∀ x, (Reg.gfr (Reg.opsOf Try.f9 11) a0 v [42, 41]).eval (.const x) = x := fun _ => rfl
    generalize Reg.gfr (Reg.opsOf Try.f9 11) a0 v [42, 41] = G at e150 eC ⊢
    generalize hρ : G.eval = ρ at e150 eC
    have hρ' : G.eval = ρ := hρ
    refine Reg.go_run (Value.bool true) W ?_ ?_
    · rw [hρ']; simp [execOp, go_sem, e150, eC]
    · exact ⟨Below.refl _ _, rfl⟩
set_option maxHeartbeats 4000000 in
set_option maxRecDepth 20000 in
theorem vn11_h44 :
    Reg.OpOK Try.prog (Reg.opsOf Try.f9 11) a0 w0 (vn11R b2 b12 b18 p1 p2) (fun _ _ _ _ => True) 44 := by
    refine Reg.op_ok2 (fun af => { dst := some 152, op := Op.pick (Operand.tmp 149) (Operand.tmp 151) (Operand.const (Value.bool false)), type := 4, pos := "outright.go:38", after := af, guard := none }) #[{ on := 41, ground := Ground.data }, { on := 43, ground := Ground.data }] (by kernel_rfl) [41, 43] (by kernel_rfl) fun af v W hb hd => ?_
    have d41 : v 41 = (Value.bool true) := hd 41 (by decide)
    have d43 : v 43 = (Value.bool true) := hd 43 (by decide)
    have e149 := (Reg.gfr_eval (ops := (Reg.opsOf Try.f9 11)) (a0 := a0) (v := v) (L := [41, 43]) 149 41 (by kernel_rfl) (by rw [hsz]; omega)).trans d41
    have e151 := (Reg.gfr_eval (ops := (Reg.opsOf Try.f9 11)) (a0 := a0) (v := v) (L := [41, 43]) 151 43 (by kernel_rfl) (by rw [hsz]; omega)).trans d43
    refine ⟨Reg.wanted_none rfl, ?_⟩
    have eC : ∀ x, (Reg.gfr (Reg.opsOf Try.f9 11) a0 v [41, 43]).eval (.const x) = x := fun _ => rfl
    generalize Reg.gfr (Reg.opsOf Try.f9 11) a0 v [41, 43] = G at e149 e151 eC ⊢
    generalize hρ : G.eval = ρ at e149 e151 eC
    have hρ' : G.eval = ρ := hρ
    refine Reg.go_run (Value.bool true) W ?_ ?_
    · rw [hρ']; simp [execOp, go_sem, e149, e151, eC]
    · exact ⟨Below.refl _ _, rfl⟩
set_option maxHeartbeats 4000000 in
set_option maxRecDepth 20000 in
theorem vn11_h45 :
    Reg.OpOK Try.prog (Reg.opsOf Try.f9 11) a0 w0 (vn11R b2 b12 b18 p1 p2) (fun _ _ _ _ => True) 45 := by
    refine Reg.op_ok2 (fun af => { dst := some 153, op := Op.move (Operand.tmp 152), type := 4, pos := "outright.go:38", after := af, guard := none }) #[{ on := 44, ground := Ground.data }, { on := 41, ground := Ground.chain }] (by kernel_rfl) [44, 41] (by kernel_rfl) fun af v W hb hd => ?_
    have d44 : v 44 = (Value.bool true) := hd 44 (by decide)
    have e152 := (Reg.gfr_eval (ops := (Reg.opsOf Try.f9 11)) (a0 := a0) (v := v) (L := [44, 41]) 152 44 (by kernel_rfl) (by rw [hsz]; omega)).trans d44
    refine ⟨Reg.wanted_none rfl, ?_⟩
    generalize Reg.gfr (Reg.opsOf Try.f9 11) a0 v [44, 41] = G at e152 ⊢
    generalize hρ : G.eval = ρ at e152
    have hρ' : G.eval = ρ := hρ
    refine Reg.go_run (Value.bool true) W ?_ ?_
    · rw [hρ']; simp [execOp, go_sem, e152]
    · exact ⟨Below.refl _ _, rfl⟩
set_option maxHeartbeats 4000000 in
set_option maxRecDepth 20000 in
theorem vn11_h46 :
    Reg.OpOK Try.prog (Reg.opsOf Try.f9 11) a0 w0 (vn11R b2 b12 b18 p1 p2) (fun _ _ _ _ => True) 46 := by
    refine Reg.op_ok2 (fun af => { dst := some 154, op := Op.load 24 (Operand.tmp 18), type := 24, pos := "outright.go:38", after := af, guard := some (45, true) }) #[{ on := 45, ground := Ground.guard }] (by kernel_rfl) [45] (by kernel_rfl) fun af v W hb hd => ?_
    have d45 : v 45 = (Value.bool true) := hd 45 (by decide)
    have e18 := (Reg.gfr_eval0 (ops := (Reg.opsOf Try.f9 11)) (a0 := a0) (v := v) (L := [45]) 18 (by kernel_rfl)).trans i18
    have e153 := (Reg.gfr_eval (ops := (Reg.opsOf Try.f9 11)) (a0 := a0) (v := v) (L := [45]) 153 45 (by kernel_rfl) (by rw [hsz]; omega)).trans d45
    refine ⟨Reg.wanted_of rfl (by kernel_rfl) e153, ?_⟩
    generalize Reg.gfr (Reg.opsOf Try.f9 11) a0 v [45] = G at e18 ⊢
    generalize hρ : G.eval = ρ at e18
    have hρ' : G.eval = ρ := hρ
    exact fun K hK => wp_load_row 24 (.tmp 18) rfl b18 (by rw [hρ']; exact e18) 24 (vC p2) (0, 0) _ (M_b18 W hb) Try.underlying24 rfl (vec_size hp2) (hK _ _ ⟨Below.refl _ _, rfl⟩)
set_option maxHeartbeats 4000000 in
set_option maxRecDepth 20000 in
theorem vn11_h47 :
    Reg.OpOK Try.prog (Reg.opsOf Try.f9 11) a0 w0 (vn11R b2 b12 b18 p1 p2) (fun _ _ _ _ => True) 47 := by
    refine Reg.op_ok2 (fun af => { dst := some 155, op := Op.buildSlice 75 1 #[(0, Operand.const (Value.int IntKind.u32 4294967295))], type := 75, pos := "outright.go:38", after := af, guard := some (45, true) }) #[{ on := 45, ground := Ground.guard }] (by kernel_rfl) [45] (by kernel_rfl) fun af v W hb hd => ?_
    have d45 : v 45 = (Value.bool true) := hd 45 (by decide)
    have e153 := (Reg.gfr_eval (ops := (Reg.opsOf Try.f9 11)) (a0 := a0) (v := v) (L := [45]) 153 45 (by kernel_rfl) (by rw [hsz]; omega)).trans d45
    refine ⟨Reg.wanted_of rfl (by kernel_rfl) e153, ?_⟩
    have eC : ∀ x, (Reg.gfr (Reg.opsOf Try.f9 11) a0 v [45]).eval (.const x) = x := fun _ => rfl
    generalize Reg.gfr (Reg.opsOf Try.f9 11) a0 v [45] = G at eC ⊢
    generalize hρ : G.eval = ρ at eC
    have hρ' : G.eval = ρ := hρ
    refine Reg.go_run _ (W.alloc (.cells #[(Value.int IntKind.u32 4294967295)] 22)) (by rw [hρ']; simp [execOp, go_sem, eC]) ⟨(Below.refl _ W).alloc (Nat.le_refl _) _, ⟨_, rfl, heap_alloc_new _ _⟩⟩
set_option maxHeartbeats 4000000 in
set_option maxRecDepth 20000 in
theorem vn11_h48 :
    Reg.OpOK Try.prog (Reg.opsOf Try.f9 11) a0 w0 (vn11R b2 b12 b18 p1 p2) (fun _ _ _ _ => True) 48 := by
    refine Reg.op_ok2 (fun af => { dst := some 156, op := Op.call { callee := Callee.value (Operand.func 34), args := #[Operand.tmp 155], argTypes := #[75] }, type := 24, pos := "outright.go:38", after := af, guard := some (45, true) }) #[{ on := 47, ground := Ground.data }, { on := 45, ground := Ground.chain }, { on := 45, ground := Ground.guard }] (by kernel_rfl) [47, 45, 45] (by kernel_rfl) fun af v W hb hd => ?_
    have d45 : v 45 = (Value.bool true) := hd 45 (by decide)
    have d47 : (Reg.IsRow 22 #[(Value.int IntKind.u32 4294967295)] 1) (v 47) W := hd 47 (by decide)
    have e155 := Reg.gfr_eval (ops := (Reg.opsOf Try.f9 11)) (a0 := a0) (v := v) (L := [47, 45, 45]) 155 47 (by kernel_rfl) (by rw [hsz]; omega)
    have e153 := (Reg.gfr_eval (ops := (Reg.opsOf Try.f9 11)) (a0 := a0) (v := v) (L := [47, 45, 45]) 153 45 (by kernel_rfl) (by rw [hsz]; omega)).trans d45
    obtain ⟨gr, hg1, hg2⟩ := d47
    rw [hg1] at e155
    refine ⟨Reg.wanted_of rfl (by kernel_rfl) e153, ?_⟩
    have eF : ∀ f, (Reg.gfr (Reg.opsOf Try.f9 11) a0 v [47, 45, 45]).eval (.func f) = .func (.func f) #[] #[] := fun _ => rfl
    generalize Reg.gfr (Reg.opsOf Try.f9 11) a0 v [47, 45, 45] = G at e155 eF ⊢
    generalize hρ : G.eval = ρ at e155 eF
    have hρ' : G.eval = ρ := hρ
    refine Reg.go_call 34 #[(Value.slice (some ⟨gr, 0, none⟩) 1 1)] (by rw [hρ']; simp [execOp, go_sem, e155, eF]) ((of_any _ 1 1 [4294967295] rfl (by omega) W (rd_u32 [4294967295] hg2)).mono fun e w' he => ?_)
    obtain ⟨rfl, hbb⟩ := he
    exact ⟨_, rfl, hbb, (show _ = _ from by rw [hq2])⟩
set_option maxHeartbeats 4000000 in
set_option maxRecDepth 20000 in
theorem vn11_h49 :
    Reg.OpOK Try.prog (Reg.opsOf Try.f9 11) a0 w0 (vn11R b2 b12 b18 p1 p2) (fun _ _ _ _ => True) 49 := by
    refine Reg.op_ok2 (fun af => { dst := some 157, op := Op.binOp BinOp.eql 24 (Operand.tmp 154) (Operand.tmp 156) 24, type := 4, pos := "outright.go:38", after := af, guard := some (45, true) }) #[{ on := 46, ground := Ground.data }, { on := 48, ground := Ground.data }, { on := 45, ground := Ground.guard }] (by kernel_rfl) [46, 48, 45] (by kernel_rfl) fun af v W hb hd => ?_
    have d45 : v 45 = (Value.bool true) := hd 45 (by decide)
    have d46 : v 46 = (Value.agg (vC p2)) := hd 46 (by decide)
    have d48 : v 48 = (Value.agg (vC p2)) := hd 48 (by decide)
    have e154 := (Reg.gfr_eval (ops := (Reg.opsOf Try.f9 11)) (a0 := a0) (v := v) (L := [46, 48, 45]) 154 46 (by kernel_rfl) (by rw [hsz]; omega)).trans d46
    have e156 := (Reg.gfr_eval (ops := (Reg.opsOf Try.f9 11)) (a0 := a0) (v := v) (L := [46, 48, 45]) 156 48 (by kernel_rfl) (by rw [hsz]; omega)).trans d48
    have e153 := (Reg.gfr_eval (ops := (Reg.opsOf Try.f9 11)) (a0 := a0) (v := v) (L := [46, 48, 45]) 153 45 (by kernel_rfl) (by rw [hsz]; omega)).trans d45
    refine ⟨Reg.wanted_of rfl (by kernel_rfl) e153, ?_⟩
    generalize Reg.gfr (Reg.opsOf Try.f9 11) a0 v [46, 48, 45] = G at e154 e156 ⊢
    generalize hρ : G.eval = ρ at e154 e156
    have hρ' : G.eval = ρ := hρ
    refine Reg.go_run (Value.bool true) W ?_ ?_
    · rw [hρ']; simp [execOp, go_sem, e154, e156, run_eq_vec W p2 p2 hp2 hp2]
    · exact ⟨Below.refl _ _, rfl⟩
set_option maxHeartbeats 4000000 in
set_option maxRecDepth 20000 in
theorem vn11_h50 :
    Reg.OpOK Try.prog (Reg.opsOf Try.f9 11) a0 w0 (vn11R b2 b12 b18 p1 p2) (fun _ _ _ _ => True) 50 := by
    refine Reg.op_ok2 (fun af => { dst := some 158, op := Op.pick (Operand.tmp 153) (Operand.tmp 157) (Operand.const (Value.bool false)), type := 4, pos := "outright.go:38", after := af, guard := none }) #[{ on := 45, ground := Ground.data }, { on := 49, ground := Ground.data }] (by kernel_rfl) [45, 49] (by kernel_rfl) fun af v W hb hd => ?_
    have d45 : v 45 = (Value.bool true) := hd 45 (by decide)
    have d49 : v 49 = (Value.bool true) := hd 49 (by decide)
    have e153 := (Reg.gfr_eval (ops := (Reg.opsOf Try.f9 11)) (a0 := a0) (v := v) (L := [45, 49]) 153 45 (by kernel_rfl) (by rw [hsz]; omega)).trans d45
    have e157 := (Reg.gfr_eval (ops := (Reg.opsOf Try.f9 11)) (a0 := a0) (v := v) (L := [45, 49]) 157 49 (by kernel_rfl) (by rw [hsz]; omega)).trans d49
    refine ⟨Reg.wanted_none rfl, ?_⟩
    have eC : ∀ x, (Reg.gfr (Reg.opsOf Try.f9 11) a0 v [45, 49]).eval (.const x) = x := fun _ => rfl
    generalize Reg.gfr (Reg.opsOf Try.f9 11) a0 v [45, 49] = G at e153 e157 eC ⊢
    generalize hρ : G.eval = ρ at e153 e157 eC
    have hρ' : G.eval = ρ := hρ
    refine Reg.go_run (Value.bool true) W ?_ ?_
    · rw [hρ']; simp [execOp, go_sem, e153, e157, eC]
    · exact ⟨Below.refl _ _, rfl⟩
set_option maxHeartbeats 4000000 in
set_option maxRecDepth 20000 in
theorem vn11_h51 :
    Reg.OpOK Try.prog (Reg.opsOf Try.f9 11) a0 w0 (vn11R b2 b12 b18 p1 p2) (fun _ _ _ _ => True) 51 := by
    refine Reg.op_ok2 (fun af => { dst := some 20, op := Op.assign (Operand.tmp 158), type := 4, pos := "outright.go:38", after := af, guard := none }) #[{ on := 50, ground := Ground.data }, { on := 48, ground := Ground.chain }, { on := 0, ground := Ground.phase }, { on := 1, ground := Ground.phase }, { on := 2, ground := Ground.phase }, { on := 3, ground := Ground.phase }, { on := 4, ground := Ground.phase }, { on := 5, ground := Ground.phase }, { on := 6, ground := Ground.phase }, { on := 7, ground := Ground.phase }, { on := 8, ground := Ground.phase }, { on := 9, ground := Ground.phase }, { on := 10, ground := Ground.phase }, { on := 11, ground := Ground.phase }, { on := 12, ground := Ground.phase }, { on := 13, ground := Ground.phase }, { on := 14, ground := Ground.phase }, { on := 15, ground := Ground.phase }, { on := 16, ground := Ground.phase }, { on := 17, ground := Ground.phase }, { on := 18, ground := Ground.phase }, { on := 19, ground := Ground.phase }, { on := 20, ground := Ground.phase }, { on := 21, ground := Ground.phase }, { on := 22, ground := Ground.phase }, { on := 23, ground := Ground.phase }, { on := 24, ground := Ground.phase }, { on := 25, ground := Ground.phase }, { on := 26, ground := Ground.phase }, { on := 27, ground := Ground.phase }, { on := 28, ground := Ground.phase }, { on := 29, ground := Ground.phase }, { on := 30, ground := Ground.phase }, { on := 31, ground := Ground.phase }, { on := 32, ground := Ground.phase }, { on := 33, ground := Ground.phase }, { on := 34, ground := Ground.phase }, { on := 35, ground := Ground.phase }, { on := 36, ground := Ground.phase }, { on := 37, ground := Ground.phase }, { on := 38, ground := Ground.phase }, { on := 39, ground := Ground.phase }, { on := 40, ground := Ground.phase }, { on := 41, ground := Ground.phase }, { on := 42, ground := Ground.phase }, { on := 43, ground := Ground.phase }, { on := 44, ground := Ground.phase }, { on := 45, ground := Ground.phase }, { on := 46, ground := Ground.phase }, { on := 47, ground := Ground.phase }, { on := 48, ground := Ground.phase }, { on := 49, ground := Ground.phase }, { on := 50, ground := Ground.phase }] (by kernel_rfl) [50, 48, 0, 1, 2, 3, 4, 5, 6, 7, 8, 9, 10, 11, 12, 13, 14, 15, 16, 17, 18, 19, 20, 21, 22, 23, 24, 25, 26, 27, 28, 29, 30, 31, 32, 33, 34, 35, 36, 37, 38, 39, 40, 41, 42, 43, 44, 45, 46, 47, 48, 49, 50] (by kernel_rfl) fun af v W hb hd => ?_
    have d50 : v 50 = (Value.bool true) := hd 50 (by decide)
    have e158 := (Reg.gfr_eval (ops := (Reg.opsOf Try.f9 11)) (a0 := a0) (v := v) (L := [50, 48, 0, 1, 2, 3, 4, 5, 6, 7, 8, 9, 10, 11, 12, 13, 14, 15, 16, 17, 18, 19, 20, 21, 22, 23, 24, 25, 26, 27, 28, 29, 30, 31, 32, 33, 34, 35, 36, 37, 38, 39, 40, 41, 42, 43, 44, 45, 46, 47, 48, 49, 50]) 158 50 (by kernel_rfl) (by rw [hsz]; omega)).trans d50
    refine ⟨Reg.wanted_none rfl, ?_⟩
    generalize Reg.gfr (Reg.opsOf Try.f9 11) a0 v [50, 48, 0, 1, 2, 3, 4, 5, 6, 7, 8, 9, 10, 11, 12, 13, 14, 15, 16, 17, 18, 19, 20, 21, 22, 23, 24, 25, 26, 27, 28, 29, 30, 31, 32, 33, 34, 35, 36, 37, 38, 39, 40, 41, 42, 43, 44, 45, 46, 47, 48, 49, 50] = G at e158 ⊢
    generalize hρ : G.eval = ρ at e158
    have hρ' : G.eval = ρ := hρ
    refine Reg.go_run (Value.bool true) W ?_ ?_
    · rw [hρ']; simp [execOp, go_sem, e158]
    · exact ⟨Below.refl _ _, rfl⟩
end
set_option maxHeartbeats 4000000 in
set_option maxRecDepth 20000 in
theorem vn11 (b2 b12 b18 : Nat) (p1 p2 : List Nat) (w0 : World) {s0 s1 s4 s6 s8 s10 s14 s16 s20 s21 s22 s23 s24 s25 s26 s27 s28 s29 s30 s31 s32 s33 s34 s35 s36 s37 s38 s39 s40 s41 s42 s43 s44 s45 s46 s47 s48 s49 s50 s51 s52 s53 s54 s55 s56 s57 s58 s59 s60 s61 s62 s63 s64 s65 s66 s67 s68 s69 s70 s71 s72 s73 s74 s75 s76 s77 s78 s79 s80 s81 s82 s83 s84 s85 s86 s87 s88 s89 s90 s91 s92 s93 s94 s95 s96 s97 s98 s99 s100 s101 s102 s103 s104 s105 s106 s107 s108 s109 s110 s111 s112 s113 s114 s115 s116 s117 s118 s119 s120 s121 s122 s123 s124 s125 s126 s127 s128 s129 s130 s131 s132 s133 s134 s135 s136 s137 s138 s139 s140 s141 s142 s143 s144 s145 s146 s147 s148 s149 s150 s151 s152 s153 s154 s155 s156 s157 s158 s159 s160 s161 s162 s163 s164 s165 s166 s167 s168 s169 s170 s171 s172 s173 s174 s175 s176 s177 s178 s179 s180 s181 s182 s183 s184 s185 s186 s187 s188 s189 s190 s191 s192 s193 s194 s195 s196 s197 s198 s199 s200 s201 s202 s203 s204 s205 s206 s207 s208 s209 s210 s211 s212 s213 s214 s215 s216 s217 s218 s219 s220 s221 s222 s223 s224 s225 s226 s227 s228 s229 s230 s231 s232 s233 s234 s235 s236 s237 s238 s239 s240 s241 s242 s243 s244 s245 s246 s247 s248 s249 s250 s251 s252 s253 s254 s255 s256 s257 s258 s259 s260 s261 s262 s263 s264 s265 s266 s267 s268 s269 s270 s271 s272 s273 s274 s275 s276 s277 s278 s279 s280 s281 s282 s283 s284 s285 s286 s287 s288 s289 s290 s291 s292 s293 s294 s295 s296 : Value}
    (hp1 : p1.length = 16) (hp2 : p2.length = 16) (hq1 : padV [5, 1] = p1) (hq2 : padV [4294967295] = p2)
    (M_b12 : ∀ W, Below w0.heap.size w0 W → W.heap[b12]? = some (.cells (vC p1) 24 (0, 0)))
    (M_b18 : ∀ W, Below w0.heap.size w0 W → W.heap[b18]? = some (.cells (vC p2) 24 (0, 0)))
    (M_b2 : ∀ W, Below w0.heap.size w0 W → W.heap[b2]? = some (.cells (dC 0 6) 35 (0, 0)))
    {Q : Exit → Act → World → Prop}
    (hend : ∀ (w : World) (r137 r155 : Value), Below w0.heap.size w0 w → Q .normal { tmps := #[s0, s1, (Value.pointer (some ⟨b2, 0, none⟩)), (Value.int IntKind.i64 0), s4, (Value.int IntKind.i64 60), s6, (Value.int IntKind.i64 50), s8, (Value.int IntKind.i64 50), s10, (Value.int IntKind.i64 61), (Value.pointer (some ⟨b12, 0, none⟩)), (Value.int IntKind.i64 0), s14, (Value.int IntKind.i64 61), s16, (Value.int IntKind.i64 50), (Value.pointer (some ⟨b18, 0, none⟩)), (Value.int IntKind.i64 0), (Value.bool true), s21, s22, s23, s24, s25, s26, s27, s28, s29, s30, s31, s32, s33, s34, s35, s36, s37, s38, s39, s40, s41, s42, s43, s44, s45, s46, s47, s48, s49, s50, s51, s52, s53, s54, s55, s56, s57, s58, s59, s60, s61, s62, s63, s64, s65, s66, s67, s68, s69, s70, s71, s72, s73, s74, s75, s76, s77, s78, s79, s80, s81, s82, s83, s84, s85, s86, s87, s88, s89, s90, s91, s92, s93, s94, s95, s96, s97, s98, s99, s100, s101, s102, s103, s104, s105, s106, s107, (Value.int IntKind.i64 0), (Value.bool true), (Value.bool true), (Value.agg (dC 0 6)), (Value.agg (dC 0 6)), (Value.bool true), (Value.bool true), (Value.bool true), (Value.int IntKind.i64 60), (Value.bool true), (Value.bool true), (Value.bool true), (Value.int IntKind.i64 50), (Value.bool true), (Value.bool true), (Value.bool true), (Value.int IntKind.i64 50), (Value.bool true), (Value.bool true), (Value.bool true), (Value.int IntKind.i64 61), (Value.bool true), (Value.bool true), (Value.bool true), (Value.int IntKind.i64 0), (Value.bool true), (Value.bool true), (Value.bool true), (Value.agg (vC p1)), r137, (Value.agg (vC p1)), (Value.bool true), (Value.bool true), (Value.bool true), (Value.int IntKind.i64 61), (Value.bool true), (Value.bool true), (Value.bool true), (Value.int IntKind.i64 50), (Value.bool true), (Value.bool true), (Value.bool true), (Value.int IntKind.i64 0), (Value.bool true), (Value.bool true), (Value.bool true), (Value.agg (vC p2)), r155, (Value.agg (vC p2)), (Value.bool true), (Value.bool true), s159, s160, s161, s162, s163, s164, s165, s166, s167, s168, s169, s170, s171, s172, s173, s174, s175, s176, s177, s178, s179, s180, s181, s182, s183, s184, s185, s186, s187, s188, s189, s190, s191, s192, s193, s194, s195, s196, s197, s198, s199, s200, s201, s202, s203, s204, s205, s206, s207, s208, s209, s210, s211, s212, s213, s214, s215, s216, s217, s218, s219, s220, s221, s222, s223, s224, s225, s226, s227, s228, s229, s230, s231, s232, s233, s234, s235, s236, s237, s238, s239, s240, s241, s242, s243, s244, s245, s246, s247, s248, s249, s250, s251, s252, s253, s254, s255, s256, s257, s258, s259, s260, s261, s262, s263, s264, s265, s266, s267, s268, s269, s270, s271, s272, s273, s274, s275, s276, s277, s278, s279, s280, s281, s282, s283, s284, s285, s286, s287, s288, s289, s290, s291, s292, s293, s294, s295, s296], defers := [] } w) :
    (Code.region 11 (Reg.opsOf Try.f9 11) true).wp Try.prog Q { tmps := #[s0, s1, (Value.pointer (some ⟨b2, 0, none⟩)), (Value.int IntKind.i64 0), s4, (Value.int IntKind.i64 60), s6, (Value.int IntKind.i64 50), s8, (Value.int IntKind.i64 50), s10, (Value.int IntKind.i64 61), (Value.pointer (some ⟨b12, 0, none⟩)), (Value.int IntKind.i64 0), s14, (Value.int IntKind.i64 61), s16, (Value.int IntKind.i64 50), (Value.pointer (some ⟨b18, 0, none⟩)), (Value.int IntKind.i64 0), s20, s21, s22, s23, s24, s25, s26, s27, s28, s29, s30, s31, s32, s33, s34, s35, s36, s37, s38, s39, s40, s41, s42, s43, s44, s45, s46, s47, s48, s49, s50, s51, s52, s53, s54, s55, s56, s57, s58, s59, s60, s61, s62, s63, s64, s65, s66, s67, s68, s69, s70, s71, s72, s73, s74, s75, s76, s77, s78, s79, s80, s81, s82, s83, s84, s85, s86, s87, s88, s89, s90, s91, s92, s93, s94, s95, s96, s97, s98, s99, s100, s101, s102, s103, s104, s105, s106, s107, s108, s109, s110, s111, s112, s113, s114, s115, s116, s117, s118, s119, s120, s121, s122, s123, s124, s125, s126, s127, s128, s129, s130, s131, s132, s133, s134, s135, s136, s137, s138, s139, s140, s141, s142, s143, s144, s145, s146, s147, s148, s149, s150, s151, s152, s153, s154, s155, s156, s157, s158, s159, s160, s161, s162, s163, s164, s165, s166, s167, s168, s169, s170, s171, s172, s173, s174, s175, s176, s177, s178, s179, s180, s181, s182, s183, s184, s185, s186, s187, s188, s189, s190, s191, s192, s193, s194, s195, s196, s197, s198, s199, s200, s201, s202, s203, s204, s205, s206, s207, s208, s209, s210, s211, s212, s213, s214, s215, s216, s217, s218, s219, s220, s221, s222, s223, s224, s225, s226, s227, s228, s229, s230, s231, s232, s233, s234, s235, s236, s237, s238, s239, s240, s241, s242, s243, s244, s245, s246, s247, s248, s249, s250, s251, s252, s253, s254, s255, s256, s257, s258, s259, s260, s261, s262, s263, s264, s265, s266, s267, s268, s269, s270, s271, s272, s273, s274, s275, s276, s277, s278, s279, s280, s281, s282, s283, s284, s285, s286, s287, s288, s289, s290, s291, s292, s293, s294, s295, s296], defers := [] } w0 := by
  obtain ⟨a0, ha0⟩ : ∃ a0 : Act, a0 = { tmps := #[s0, s1, (Value.pointer (some ⟨b2, 0, none⟩)), (Value.int IntKind.i64 0), s4, (Value.int IntKind.i64 60), s6, (Value.int IntKind.i64 50), s8, (Value.int IntKind.i64 50), s10, (Value.int IntKind.i64 61), (Value.pointer (some ⟨b12, 0, none⟩)), (Value.int IntKind.i64 0), s14, (Value.int IntKind.i64 61), s16, (Value.int IntKind.i64 50), (Value.pointer (some ⟨b18, 0, none⟩)), (Value.int IntKind.i64 0), s20, s21, s22, s23, s24, s25, s26, s27, s28, s29, s30, s31, s32, s33, s34, s35, s36, s37, s38, s39, s40, s41, s42, s43, s44, s45, s46, s47, s48, s49, s50, s51, s52, s53, s54, s55, s56, s57, s58, s59, s60, s61, s62, s63, s64, s65, s66, s67, s68, s69, s70, s71, s72, s73, s74, s75, s76, s77, s78, s79, s80, s81, s82, s83, s84, s85, s86, s87, s88, s89, s90, s91, s92, s93, s94, s95, s96, s97, s98, s99, s100, s101, s102, s103, s104, s105, s106, s107, s108, s109, s110, s111, s112, s113, s114, s115, s116, s117, s118, s119, s120, s121, s122, s123, s124, s125, s126, s127, s128, s129, s130, s131, s132, s133, s134, s135, s136, s137, s138, s139, s140, s141, s142, s143, s144, s145, s146, s147, s148, s149, s150, s151, s152, s153, s154, s155, s156, s157, s158, s159, s160, s161, s162, s163, s164, s165, s166, s167, s168, s169, s170, s171, s172, s173, s174, s175, s176, s177, s178, s179, s180, s181, s182, s183, s184, s185, s186, s187, s188, s189, s190, s191, s192, s193, s194, s195, s196, s197, s198, s199, s200, s201, s202, s203, s204, s205, s206, s207, s208, s209, s210, s211, s212, s213, s214, s215, s216, s217, s218, s219, s220, s221, s222, s223, s224, s225, s226, s227, s228, s229, s230, s231, s232, s233, s234, s235, s236, s237, s238, s239, s240, s241, s242, s243, s244, s245, s246, s247, s248, s249, s250, s251, s252, s253, s254, s255, s256, s257, s258, s259, s260, s261, s262, s263, s264, s265, s266, s267, s268, s269, s270, s271, s272, s273, s274, s275, s276, s277, s278, s279, s280, s281, s282, s283, s284, s285, s286, s287, s288, s289, s290, s291, s292, s293, s294, s295, s296], defers := [] } := ⟨_, rfl⟩
  have hfin : ∀ v : Nat → Value, Reg.gfr (Reg.opsOf Try.f9 11) a0 v (List.range 52) = { tmps := #[s0, s1, (Value.pointer (some ⟨b2, 0, none⟩)), (Value.int IntKind.i64 0), s4, (Value.int IntKind.i64 60), s6, (Value.int IntKind.i64 50), s8, (Value.int IntKind.i64 50), s10, (Value.int IntKind.i64 61), (Value.pointer (some ⟨b12, 0, none⟩)), (Value.int IntKind.i64 0), s14, (Value.int IntKind.i64 61), s16, (Value.int IntKind.i64 50), (Value.pointer (some ⟨b18, 0, none⟩)), (Value.int IntKind.i64 0), v 51, s21, s22, s23, s24, s25, s26, s27, s28, s29, s30, s31, s32, s33, s34, s35, s36, s37, s38, s39, s40, s41, s42, s43, s44, s45, s46, s47, s48, s49, s50, s51, s52, s53, s54, s55, s56, s57, s58, s59, s60, s61, s62, s63, s64, s65, s66, s67, s68, s69, s70, s71, s72, s73, s74, s75, s76, s77, s78, s79, s80, s81, s82, s83, s84, s85, s86, s87, s88, s89, s90, s91, s92, s93, s94, s95, s96, s97, s98, s99, s100, s101, s102, s103, s104, s105, s106, s107, v 0, v 1, v 2, v 3, v 4, v 5, v 6, v 7, v 8, v 9, v 10, v 11, v 12, v 13, v 14, v 15, v 16, v 17, v 18, v 19, v 20, v 21, v 22, v 23, v 24, v 25, v 26, v 27, v 28, v 29, v 30, v 31, v 32, v 33, v 34, v 35, v 36, v 37, v 38, v 39, v 40, v 41, v 42, v 43, v 44, v 45, v 46, v 47, v 48, v 49, v 50, s159, s160, s161, s162, s163, s164, s165, s166, s167, s168, s169, s170, s171, s172, s173, s174, s175, s176, s177, s178, s179, s180, s181, s182, s183, s184, s185, s186, s187, s188, s189, s190, s191, s192, s193, s194, s195, s196, s197, s198, s199, s200, s201, s202, s203, s204, s205, s206, s207, s208, s209, s210, s211, s212, s213, s214, s215, s216, s217, s218, s219, s220, s221, s222, s223, s224, s225, s226, s227, s228, s229, s230, s231, s232, s233, s234, s235, s236, s237, s238, s239, s240, s241, s242, s243, s244, s245, s246, s247, s248, s249, s250, s251, s252, s253, s254, s255, s256, s257, s258, s259, s260, s261, s262, s263, s264, s265, s266, s267, s268, s269, s270, s271, s272, s273, s274, s275, s276, s277, s278, s279, s280, s281, s282, s283, s284, s285, s286, s287, s288, s289, s290, s291, s292, s293, s294, s295, s296], defers := [] } := fun v => by rw [ha0]; kernel_rfl
  rw [← ha0]
  have i2 : a0.eval (.tmp 2) = (Value.pointer (some ⟨b2, 0, none⟩)) := by rw [ha0]; rfl
  have i3 : a0.eval (.tmp 3) = (Value.int IntKind.i64 0) := by rw [ha0]; rfl
  have i5 : a0.eval (.tmp 5) = (Value.int IntKind.i64 60) := by rw [ha0]; rfl
  have i7 : a0.eval (.tmp 7) = (Value.int IntKind.i64 50) := by rw [ha0]; rfl
  have i9 : a0.eval (.tmp 9) = (Value.int IntKind.i64 50) := by rw [ha0]; rfl
  have i11 : a0.eval (.tmp 11) = (Value.int IntKind.i64 61) := by rw [ha0]; rfl
  have i12 : a0.eval (.tmp 12) = (Value.pointer (some ⟨b12, 0, none⟩)) := by rw [ha0]; rfl
  have i13 : a0.eval (.tmp 13) = (Value.int IntKind.i64 0) := by rw [ha0]; rfl
  have i15 : a0.eval (.tmp 15) = (Value.int IntKind.i64 61) := by rw [ha0]; rfl
  have i17 : a0.eval (.tmp 17) = (Value.int IntKind.i64 50) := by rw [ha0]; rfl
  have i18 : a0.eval (.tmp 18) = (Value.pointer (some ⟨b18, 0, none⟩)) := by rw [ha0]; rfl
  have i19 : a0.eval (.tmp 19) = (Value.int IntKind.i64 0) := by rw [ha0]; rfl
  have hsz : a0.tmps.size = 297 := by rw [ha0]; rfl
  clear ha0
  have hn : (Reg.opsOf Try.f9 11).size = 52 := by kernel_rfl
  have h0 := vn11_h0 b2 b12 b18 p1 p2 w0 a0 hp1 hp2 hq1 hq2 M_b12 M_b18 M_b2 i2 i3 i5 i7 i9 i11 i12 i13 i15 i17 i18 i19 hsz
  have h1 := vn11_h1 b2 b12 b18 p1 p2 w0 a0 hp1 hp2 hq1 hq2 M_b12 M_b18 M_b2 i2 i3 i5 i7 i9 i11 i12 i13 i15 i17 i18 i19 hsz
  have h2 := vn11_h2 b2 b12 b18 p1 p2 w0 a0 hp1 hp2 hq1 hq2 M_b12 M_b18 M_b2 i2 i3 i5 i7 i9 i11 i12 i13 i15 i17 i18 i19 hsz
  have h3 := vn11_h3 b2 b12 b18 p1 p2 w0 a0 hp1 hp2 hq1 hq2 M_b12 M_b18 M_b2 i2 i3 i5 i7 i9 i11 i12 i13 i15 i17 i18 i19 hsz
  have h4 := vn11_h4 b2 b12 b18 p1 p2 w0 a0 hp1 hp2 hq1 hq2 M_b12 M_b18 M_b2 i2 i3 i5 i7 i9 i11 i12 i13 i15 i17 i18 i19 hsz
  have h5 := vn11_h5 b2 b12 b18 p1 p2 w0 a0 hp1 hp2 hq1 hq2 M_b12 M_b18 M_b2 i2 i3 i5 i7 i9 i11 i12 i13 i15 i17 i18 i19 hsz
  have h6 := vn11_h6 b2 b12 b18 p1 p2 w0 a0 hp1 hp2 hq1 hq2 M_b12 M_b18 M_b2 i2 i3 i5 i7 i9 i11 i12 i13 i15 i17 i18 i19 hsz
  have h7 := vn11_h7 b2 b12 b18 p1 p2 w0 a0 hp1 hp2 hq1 hq2 M_b12 M_b18 M_b2 i2 i3 i5 i7 i9 i11 i12 i13 i15 i17 i18 i19 hsz
  have h8 := vn11_h8 b2 b12 b18 p1 p2 w0 a0 hp1 hp2 hq1 hq2 M_b12 M_b18 M_b2 i2 i3 i5 i7 i9 i11 i12 i13 i15 i17 i18 i19 hsz
  have h9 := vn11_h9 b2 b12 b18 p1 p2 w0 a0 hp1 hp2 hq1 hq2 M_b12 M_b18 M_b2 i2 i3 i5 i7 i9 i11 i12 i13 i15 i17 i18 i19 hsz
  have h10 := vn11_h10 b2 b12 b18 p1 p2 w0 a0 hp1 hp2 hq1 hq2 M_b12 M_b18 M_b2 i2 i3 i5 i7 i9 i11 i12 i13 i15 i17 i18 i19 hsz
  have h11 := vn11_h11 b2 b12 b18 p1 p2 w0 a0 hp1 hp2 hq1 hq2 M_b12 M_b18 M_b2 i2 i3 i5 i7 i9 i11 i12 i13 i15 i17 i18 i19 hsz
  have h12 := vn11_h12 b2 b12 b18 p1 p2 w0 a0 hp1 hp2 hq1 hq2 M_b12 M_b18 M_b2 i2 i3 i5 i7 i9 i11 i12 i13 i15 i17 i18 i19 hsz
  have h13 := vn11_h13 b2 b12 b18 p1 p2 w0 a0 hp1 hp2 hq1 hq2 M_b12 M_b18 M_b2 i2 i3 i5 i7 i9 i11 i12 i13 i15 i17 i18 i19 hsz
  have h14 := vn11_h14 b2 b12 b18 p1 p2 w0 a0 hp1 hp2 hq1 hq2 M_b12 M_b18 M_b2 i2 i3 i5 i7 i9 i11 i12 i13 i15 i17 i18 i19 hsz
  have h15 := vn11_h15 b2 b12 b18 p1 p2 w0 a0 hp1 hp2 hq1 hq2 M_b12 M_b18 M_b2 i2 i3 i5 i7 i9 i11 i12 i13 i15 i17 i18 i19 hsz
  have h16 := vn11_h16 b2 b12 b18 p1 p2 w0 a0 hp1 hp2 hq1 hq2 M_b12 M_b18 M_b2 i2 i3 i5 i7 i9 i11 i12 i13 i15 i17 i18 i19 hsz
  have h17 := vn11_h17 b2 b12 b18 p1 p2 w0 a0 hp1 hp2 hq1 hq2 M_b12 M_b18 M_b2 i2 i3 i5 i7 i9 i11 i12 i13 i15 i17 i18 i19 hsz
  have h18 := vn11_h18 b2 b12 b18 p1 p2 w0 a0 hp1 hp2 hq1 hq2 M_b12 M_b18 M_b2 i2 i3 i5 i7 i9 i11 i12 i13 i15 i17 i18 i19 hsz
  have h19 := vn11_h19 b2 b12 b18 p1 p2 w0 a0 hp1 hp2 hq1 hq2 M_b12 M_b18 M_b2 i2 i3 i5 i7 i9 i11 i12 i13 i15 i17 i18 i19 hsz
  have h20 := vn11_h20 b2 b12 b18 p1 p2 w0 a0 hp1 hp2 hq1 hq2 M_b12 M_b18 M_b2 i2 i3 i5 i7 i9 i11 i12 i13 i15 i17 i18 i19 hsz
  have h21 := vn11_h21 b2 b12 b18 p1 p2 w0 a0 hp1 hp2 hq1 hq2 M_b12 M_b18 M_b2 i2 i3 i5 i7 i9 i11 i12 i13 i15 i17 i18 i19 hsz
  have h22 := vn11_h22 b2 b12 b18 p1 p2 w0 a0 hp1 hp2 hq1 hq2 M_b12 M_b18 M_b2 i2 i3 i5 i7 i9 i11 i12 i13 i15 i17 i18 i19 hsz
  have h23 := vn11_h23 b2 b12 b18 p1 p2 w0 a0 hp1 hp2 hq1 hq2 M_b12 M_b18 M_b2 i2 i3 i5 i7 i9 i11 i12 i13 i15 i17 i18 i19 hsz
  have h24 := vn11_h24 b2 b12 b18 p1 p2 w0 a0 hp1 hp2 hq1 hq2 M_b12 M_b18 M_b2 i2 i3 i5 i7 i9 i11 i12 i13 i15 i17 i18 i19 hsz
  have h25 := vn11_h25 b2 b12 b18 p1 p2 w0 a0 hp1 hp2 hq1 hq2 M_b12 M_b18 M_b2 i2 i3 i5 i7 i9 i11 i12 i13 i15 i17 i18 i19 hsz
  have h26 := vn11_h26 b2 b12 b18 p1 p2 w0 a0 hp1 hp2 hq1 hq2 M_b12 M_b18 M_b2 i2 i3 i5 i7 i9 i11 i12 i13 i15 i17 i18 i19 hsz
  have h27 := vn11_h27 b2 b12 b18 p1 p2 w0 a0 hp1 hp2 hq1 hq2 M_b12 M_b18 M_b2 i2 i3 i5 i7 i9 i11 i12 i13 i15 i17 i18 i19 hsz
  have h28 := vn11_h28 b2 b12 b18 p1 p2 w0 a0 hp1 hp2 hq1 hq2 M_b12 M_b18 M_b2 i2 i3 i5 i7 i9 i11 i12 i13 i15 i17 i18 i19 hsz
  have h29 := vn11_h29 b2 b12 b18 p1 p2 w0 a0 hp1 hp2 hq1 hq2 M_b12 M_b18 M_b2 i2 i3 i5 i7 i9 i11 i12 i13 i15 i17 i18 i19 hsz
  have h30 := vn11_h30 b2 b12 b18 p1 p2 w0 a0 hp1 hp2 hq1 hq2 M_b12 M_b18 M_b2 i2 i3 i5 i7 i9 i11 i12 i13 i15 i17 i18 i19 hsz
  have h31 := vn11_h31 b2 b12 b18 p1 p2 w0 a0 hp1 hp2 hq1 hq2 M_b12 M_b18 M_b2 i2 i3 i5 i7 i9 i11 i12 i13 i15 i17 i18 i19 hsz
  have h32 := vn11_h32 b2 b12 b18 p1 p2 w0 a0 hp1 hp2 hq1 hq2 M_b12 M_b18 M_b2 i2 i3 i5 i7 i9 i11 i12 i13 i15 i17 i18 i19 hsz
  have h33 := vn11_h33 b2 b12 b18 p1 p2 w0 a0 hp1 hp2 hq1 hq2 M_b12 M_b18 M_b2 i2 i3 i5 i7 i9 i11 i12 i13 i15 i17 i18 i19 hsz
  have h34 := vn11_h34 b2 b12 b18 p1 p2 w0 a0 hp1 hp2 hq1 hq2 M_b12 M_b18 M_b2 i2 i3 i5 i7 i9 i11 i12 i13 i15 i17 i18 i19 hsz
  have h35 := vn11_h35 b2 b12 b18 p1 p2 w0 a0 hp1 hp2 hq1 hq2 M_b12 M_b18 M_b2 i2 i3 i5 i7 i9 i11 i12 i13 i15 i17 i18 i19 hsz
  have h36 := vn11_h36 b2 b12 b18 p1 p2 w0 a0 hp1 hp2 hq1 hq2 M_b12 M_b18 M_b2 i2 i3 i5 i7 i9 i11 i12 i13 i15 i17 i18 i19 hsz
  have h37 := vn11_h37 b2 b12 b18 p1 p2 w0 a0 hp1 hp2 hq1 hq2 M_b12 M_b18 M_b2 i2 i3 i5 i7 i9 i11 i12 i13 i15 i17 i18 i19 hsz
  have h38 := vn11_h38 b2 b12 b18 p1 p2 w0 a0 hp1 hp2 hq1 hq2 M_b12 M_b18 M_b2 i2 i3 i5 i7 i9 i11 i12 i13 i15 i17 i18 i19 hsz
  have h39 := vn11_h39 b2 b12 b18 p1 p2 w0 a0 hp1 hp2 hq1 hq2 M_b12 M_b18 M_b2 i2 i3 i5 i7 i9 i11 i12 i13 i15 i17 i18 i19 hsz
  have h40 := vn11_h40 b2 b12 b18 p1 p2 w0 a0 hp1 hp2 hq1 hq2 M_b12 M_b18 M_b2 i2 i3 i5 i7 i9 i11 i12 i13 i15 i17 i18 i19 hsz
  have h41 := vn11_h41 b2 b12 b18 p1 p2 w0 a0 hp1 hp2 hq1 hq2 M_b12 M_b18 M_b2 i2 i3 i5 i7 i9 i11 i12 i13 i15 i17 i18 i19 hsz
  have h42 := vn11_h42 b2 b12 b18 p1 p2 w0 a0 hp1 hp2 hq1 hq2 M_b12 M_b18 M_b2 i2 i3 i5 i7 i9 i11 i12 i13 i15 i17 i18 i19 hsz
  have h43 := vn11_h43 b2 b12 b18 p1 p2 w0 a0 hp1 hp2 hq1 hq2 M_b12 M_b18 M_b2 i2 i3 i5 i7 i9 i11 i12 i13 i15 i17 i18 i19 hsz
  have h44 := vn11_h44 b2 b12 b18 p1 p2 w0 a0 hp1 hp2 hq1 hq2 M_b12 M_b18 M_b2 i2 i3 i5 i7 i9 i11 i12 i13 i15 i17 i18 i19 hsz
  have h45 := vn11_h45 b2 b12 b18 p1 p2 w0 a0 hp1 hp2 hq1 hq2 M_b12 M_b18 M_b2 i2 i3 i5 i7 i9 i11 i12 i13 i15 i17 i18 i19 hsz
  have h46 := vn11_h46 b2 b12 b18 p1 p2 w0 a0 hp1 hp2 hq1 hq2 M_b12 M_b18 M_b2 i2 i3 i5 i7 i9 i11 i12 i13 i15 i17 i18 i19 hsz
  have h47 := vn11_h47 b2 b12 b18 p1 p2 w0 a0 hp1 hp2 hq1 hq2 M_b12 M_b18 M_b2 i2 i3 i5 i7 i9 i11 i12 i13 i15 i17 i18 i19 hsz
  have h48 := vn11_h48 b2 b12 b18 p1 p2 w0 a0 hp1 hp2 hq1 hq2 M_b12 M_b18 M_b2 i2 i3 i5 i7 i9 i11 i12 i13 i15 i17 i18 i19 hsz
  have h49 := vn11_h49 b2 b12 b18 p1 p2 w0 a0 hp1 hp2 hq1 hq2 M_b12 M_b18 M_b2 i2 i3 i5 i7 i9 i11 i12 i13 i15 i17 i18 i19 hsz
  have h50 := vn11_h50 b2 b12 b18 p1 p2 w0 a0 hp1 hp2 hq1 hq2 M_b12 M_b18 M_b2 i2 i3 i5 i7 i9 i11 i12 i13 i15 i17 i18 i19 hsz
  have h51 := vn11_h51 b2 b12 b18 p1 p2 w0 a0 hp1 hp2 hq1 hq2 M_b12 M_b18 M_b2 i2 i3 i5 i7 i9 i11 i12 i13 i15 i17 i18 i19 hsz
  refine Reg.region_all (by kernel_rfl) (vn11R b2 b12 b18 p1 p2) (by rw [hn, hsz]; kernel_rfl) (vn11_stable b2 b12 b18 p1 p2) (fun i hi => ?_) (fun v w hb hR => ?_)
  · rw [hn] at hi
    match i, List.mem_range.1 hi with
    | 0, _ => exact h0
    | 1, _ => exact h1
    | 2, _ => exact h2
    | 3, _ => exact h3
    | 4, _ => exact h4
    | 5, _ => exact h5
    | 6, _ => exact h6
    | 7, _ => exact h7
    | 8, _ => exact h8
    | 9, _ => exact h9
    | 10, _ => exact h10
    | 11, _ => exact h11
    | 12, _ => exact h12
    | 13, _ => exact h13
    | 14, _ => exact h14
    | 15, _ => exact h15
    | 16, _ => exact h16
    | 17, _ => exact h17
    | 18, _ => exact h18
    | 19, _ => exact h19
    | 20, _ => exact h20
    | 21, _ => exact h21
    | 22, _ => exact h22
    | 23, _ => exact h23
    | 24, _ => exact h24
    | 25, _ => exact h25
    | 26, _ => exact h26
    | 27, _ => exact h27
    | 28, _ => exact h28
    | 29, _ => exact h29
    | 30, _ => exact h30
    | 31, _ => exact h31
    | 32, _ => exact h32
    | 33, _ => exact h33
    | 34, _ => exact h34
    | 35, _ => exact h35
    | 36, _ => exact h36
    | 37, _ => exact h37
    | 38, _ => exact h38
    | 39, _ => exact h39
    | 40, _ => exact h40
    | 41, _ => exact h41
    | 42, _ => exact h42
    | 43, _ => exact h43
    | 44, _ => exact h44
    | 45, _ => exact h45
    | 46, _ => exact h46
    | 47, _ => exact h47
    | 48, _ => exact h48
    | 49, _ => exact h49
    | 50, _ => exact h50
    | 51, _ => exact h51
    | (_ + 52), h => omega
  · rw [hn] at hR ⊢
    have v0 : v 0 = (Value.int IntKind.i64 0) := hR 0 (by decide)
    have v1 : v 1 = (Value.bool true) := hR 1 (by decide)
    have v2 : v 2 = (Value.bool true) := hR 2 (by decide)
    have v3 : v 3 = (Value.agg (dC 0 6)) := hR 3 (by decide)
    have v4 : v 4 = (Value.agg (dC 0 6)) := hR 4 (by decide)
    have v5 : v 5 = (Value.bool true) := hR 5 (by decide)
    have v6 : v 6 = (Value.bool true) := hR 6 (by decide)
    have v7 : v 7 = (Value.bool true) := hR 7 (by decide)
    have v8 : v 8 = (Value.int IntKind.i64 60) := hR 8 (by decide)
    have v9 : v 9 = (Value.bool true) := hR 9 (by decide)
    have v10 : v 10 = (Value.bool true) := hR 10 (by decide)
    have v11 : v 11 = (Value.bool true) := hR 11 (by decide)
    have v12 : v 12 = (Value.int IntKind.i64 50) := hR 12 (by decide)
    have v13 : v 13 = (Value.bool true) := hR 13 (by decide)
    have v14 : v 14 = (Value.bool true) := hR 14 (by decide)
    have v15 : v 15 = (Value.bool true) := hR 15 (by decide)
    have v16 : v 16 = (Value.int IntKind.i64 50) := hR 16 (by decide)
    have v17 : v 17 = (Value.bool true) := hR 17 (by decide)
    have v18 : v 18 = (Value.bool true) := hR 18 (by decide)
    have v19 : v 19 = (Value.bool true) := hR 19 (by decide)
    have v20 : v 20 = (Value.int IntKind.i64 61) := hR 20 (by decide)
    have v21 : v 21 = (Value.bool true) := hR 21 (by decide)
    have v22 : v 22 = (Value.bool true) := hR 22 (by decide)
    have v23 : v 23 = (Value.bool true) := hR 23 (by decide)
    have v24 : v 24 = (Value.int IntKind.i64 0) := hR 24 (by decide)
    have v25 : v 25 = (Value.bool true) := hR 25 (by decide)
    have v26 : v 26 = (Value.bool true) := hR 26 (by decide)
    have v27 : v 27 = (Value.bool true) := hR 27 (by decide)
    have v28 : v 28 = (Value.agg (vC p1)) := hR 28 (by decide)
    have v30 : v 30 = (Value.agg (vC p1)) := hR 30 (by decide)
    have v31 : v 31 = (Value.bool true) := hR 31 (by decide)
    have v32 : v 32 = (Value.bool true) := hR 32 (by decide)
    have v33 : v 33 = (Value.bool true) := hR 33 (by decide)
    have v34 : v 34 = (Value.int IntKind.i64 61) := hR 34 (by decide)
    have v35 : v 35 = (Value.bool true) := hR 35 (by decide)
    have v36 : v 36 = (Value.bool true) := hR 36 (by decide)
    have v37 : v 37 = (Value.bool true) := hR 37 (by decide)
    have v38 : v 38 = (Value.int IntKind.i64 50) := hR 38 (by decide)
    have v39 : v 39 = (Value.bool true) := hR 39 (by decide)
    have v40 : v 40 = (Value.bool true) := hR 40 (by decide)
    have v41 : v 41 = (Value.bool true) := hR 41 (by decide)
    have v42 : v 42 = (Value.int IntKind.i64 0) := hR 42 (by decide)
    have v43 : v 43 = (Value.bool true) := hR 43 (by decide)
    have v44 : v 44 = (Value.bool true) := hR 44 (by decide)
    have v45 : v 45 = (Value.bool true) := hR 45 (by decide)
    have v46 : v 46 = (Value.agg (vC p2)) := hR 46 (by decide)
    have v48 : v 48 = (Value.agg (vC p2)) := hR 48 (by decide)
    have v49 : v 49 = (Value.bool true) := hR 49 (by decide)
    have v50 : v 50 = (Value.bool true) := hR 50 (by decide)
    have v51 : v 51 = (Value.bool true) := hR 51 (by decide)
    rw [hfin v, v0, v1, v2, v3, v4, v5, v6, v7, v8, v9, v10, v11, v12, v13, v14, v15, v16, v17, v18, v19, v20, v21, v22, v23, v24, v25, v26, v27, v28, v30, v31, v32, v33, v34, v35, v36, v37, v38, v39, v40, v41, v42, v43, v44, v45, v46, v48, v49, v50, v51]
    exact hend w (v 29) (v 47) hb 
def vn17R (b29 : Nat) (zz : List Nat) : Nat → Value → World → Prop
  | 0 => fun x_ _ => x_ = (Value.int IntKind.i64 62)
  | 1 => fun x_ _ => x_ = (Value.bool true)
  | 2 => fun x_ _ => x_ = (Value.bool true)
  | 3 => fun x_ _ => x_ = (Value.int IntKind.i64 12)
  | 4 => fun x_ _ => x_ = (Value.bool true)
  | 5 => fun x_ _ => x_ = (Value.bool true)
  | 6 => fun x_ _ => x_ = (Value.bool true)
  | 7 => fun x_ _ => x_ = (Value.int IntKind.i64 10)
  | 8 => fun x_ _ => x_ = (Value.bool true)
  | 9 => fun x_ _ => x_ = (Value.bool true)
  | 10 => fun x_ _ => x_ = (Value.bool true)
  | 11 => fun x_ _ => x_ = (Value.int IntKind.i64 1)
  | 12 => fun x_ _ => x_ = (Value.bool true)
  | 13 => fun x_ _ => x_ = (Value.bool true)
  | 14 => fun x_ _ => x_ = (Value.bool true)
  | 15 => fun x_ _ => x_ = (Value.int IntKind.i64 0)
  | 16 => fun x_ _ => x_ = (Value.bool true)
  | 17 => fun x_ _ => x_ = (Value.bool true)
  | 18 => fun x_ _ => x_ = (Value.bool true)
  | 19 => fun x_ _ => x_ = (Value.agg (vC zz))
  | 20 => fun x_ _ => x_ = (Value.agg (vC zz))
  | 21 => fun x_ _ => x_ = (Value.bool true)
  | 22 => fun x_ _ => x_ = (Value.bool true)
  | 23 => fun x_ _ => x_ = (Value.bool true)
  | _ => fun _ _ => True
theorem vn17_stable (b29 : Nat) (zz : List Nat) : ∀ i_ u_ w_ w_', (vn17R b29 zz) i_ u_ w_ → Below w_.heap.size w_ w_' → (vn17R b29 zz) i_ u_ w_' := fun i_ u_ w_ w_' h_ hb_ => by
  match i_, h_ with
  | 0, h_ => exact h_
  | 1, h_ => exact h_
  | 2, h_ => exact h_
  | 3, h_ => exact h_
  | 4, h_ => exact h_
  | 5, h_ => exact h_
  | 6, h_ => exact h_
  | 7, h_ => exact h_
  | 8, h_ => exact h_
  | 9, h_ => exact h_
  | 10, h_ => exact h_
  | 11, h_ => exact h_
  | 12, h_ => exact h_
  | 13, h_ => exact h_
  | 14, h_ => exact h_
  | 15, h_ => exact h_
  | 16, h_ => exact h_
  | 17, h_ => exact h_
  | 18, h_ => exact h_
  | 19, h_ => exact h_
  | 20, h_ => exact h_
  | 21, h_ => exact h_
  | 22, h_ => exact h_
  | 23, h_ => exact h_
  | (_ + 24), _ => trivial
section
variable (b29 : Nat) (zz : List Nat) (w0 : World) (a0 : Act)
variable (hz : zz.length = 16) (hzz : padV [] = zz)
variable (M_b29 : ∀ W, Below w0.heap.size w0 W → W.heap[b29]? = some (.cells (vC zz) 24 (0, 0)))
variable (i22 : a0.eval (.tmp 22) = (Value.int IntKind.i64 62)) (i24 : a0.eval (.tmp 24) = (Value.int IntKind.i64 12)) (i26 : a0.eval (.tmp 26) = (Value.int IntKind.i64 10)) (i28 : a0.eval (.tmp 28) = (Value.int IntKind.i64 1)) (i29 : a0.eval (.tmp 29) = (Value.pointer (some ⟨b29, 0, none⟩))) (i30 : a0.eval (.tmp 30) = (Value.int IntKind.i64 0)) (hsz : a0.tmps.size = 297)
include b29 zz w0 a0 hz hzz M_b29 i22 i24 i26 i28 i29 i30 hsz
set_option maxHeartbeats 4000000 in
set_option maxRecDepth 20000 in
theorem vn17_h0 :
    Reg.OpOK Try.prog (Reg.opsOf Try.f9 17) a0 w0 (vn17R b29 zz) (fun _ _ _ _ => True) 0 := by
    refine Reg.op_ok2 (fun af => { dst := some 187, op := Op.move (Operand.tmp 22), type := 36, pos := "outright.go:44", after := af, guard := none }) #[] (by kernel_rfl) [] (by kernel_rfl) fun af v W hb hd => ?_
    have e22 := (Reg.gfr_eval0 (ops := (Reg.opsOf Try.f9 17)) (a0 := a0) (v := v) (L := []) 22 (by kernel_rfl)).trans i22
    refine ⟨Reg.wanted_none rfl, ?_⟩
    generalize Reg.gfr (Reg.opsOf Try.f9 17) a0 v [] = G at e22 ⊢
    generalize hρ : G.eval = ρ at e22
    have hρ' : G.eval = ρ := hρ
    refine Reg.go_run (Value.int IntKind.i64 62) W ?_ ?_
    · rw [hρ']; simp [execOp, go_sem, e22]
    · exact ⟨Below.refl _ _, rfl⟩
set_option maxHeartbeats 4000000 in
set_option maxRecDepth 20000 in
theorem vn17_h1 :
    Reg.OpOK Try.prog (Reg.opsOf Try.f9 17) a0 w0 (vn17R b29 zz) (fun _ _ _ _ => True) 1 := by
    refine Reg.op_ok2 (fun af => { dst := some 188, op := Op.binOp BinOp.eql 36 (Operand.tmp 187) (Operand.const (Value.int IntKind.i64 62)) 36, type := 4, pos := "outright.go:44", after := af, guard := none }) #[{ on := 0, ground := Ground.data }] (by kernel_rfl) [0] (by kernel_rfl) fun af v W hb hd => ?_
    have d0 : v 0 = (Value.int IntKind.i64 62) := hd 0 (by decide)
    have e187 := (Reg.gfr_eval (ops := (Reg.opsOf Try.f9 17)) (a0 := a0) (v := v) (L := [0]) 187 0 (by kernel_rfl) (by rw [hsz]; omega)).trans d0
    refine ⟨Reg.wanted_none rfl, ?_⟩
    have eC : ∀ x, (Reg.gfr (Reg.opsOf Try.f9 17) a0 v [0]).eval (.const x) = x := fun _ => rfl
    generalize Reg.gfr (Reg.opsOf Try.f9 17) a0 v [0] = G at e187 eC ⊢
    generalize hρ : G.eval = ρ at e187 eC
    have hρ' : G.eval = ρ := hρ
    refine Reg.go_run (Value.bool true) W ?_ ?_
    · rw [hρ']; simp [execOp, go_sem, e187, eC]
    · exact ⟨Below.refl _ _, rfl⟩
set_option maxHeartbeats 4000000 in
set_option maxRecDepth 20000 in
theorem vn17_h2 :
    Reg.OpOK Try.prog (Reg.opsOf Try.f9 17) a0 w0 (vn17R b29 zz) (fun _ _ _ _ => True) 2 := by
    refine Reg.op_ok2 (fun af => { dst := some 189, op := Op.move (Operand.tmp 188), type := 4, pos := "outright.go:44", after := af, guard := none }) #[{ on := 1, ground := Ground.data }] (by kernel_rfl) [1] (by kernel_rfl) fun af v W hb hd => ?_
    have d1 : v 1 = (Value.bool true) := hd 1 (by decide)
    have e188 := (Reg.gfr_eval (ops := (Reg.opsOf Try.f9 17)) (a0 := a0) (v := v) (L := [1]) 188 1 (by kernel_rfl) (by rw [hsz]; omega)).trans d1
    refine ⟨Reg.wanted_none rfl, ?_⟩
    generalize Reg.gfr (Reg.opsOf Try.f9 17) a0 v [1] = G at e188 ⊢
    generalize hρ : G.eval = ρ at e188
    have hρ' : G.eval = ρ := hρ
    refine Reg.go_run (Value.bool true) W ?_ ?_
    · rw [hρ']; simp [execOp, go_sem, e188]
    · exact ⟨Below.refl _ _, rfl⟩
set_option maxHeartbeats 4000000 in
set_option maxRecDepth 20000 in
theorem vn17_h3 :
    Reg.OpOK Try.prog (Reg.opsOf Try.f9 17) a0 w0 (vn17R b29 zz) (fun _ _ _ _ => True) 3 := by
    refine Reg.op_ok2 (fun af => { dst := some 190, op := Op.move (Operand.tmp 24), type := 36, pos := "outright.go:44", after := af, guard := some (2, true) }) #[{ on := 2, ground := Ground.guard }] (by kernel_rfl) [2] (by kernel_rfl) fun af v W hb hd => ?_
    have d2 : v 2 = (Value.bool true) := hd 2 (by decide)
    have e24 := (Reg.gfr_eval0 (ops := (Reg.opsOf Try.f9 17)) (a0 := a0) (v := v) (L := [2]) 24 (by kernel_rfl)).trans i24
    have e189 := (Reg.gfr_eval (ops := (Reg.opsOf Try.f9 17)) (a0 := a0) (v := v) (L := [2]) 189 2 (by kernel_rfl) (by rw [hsz]; omega)).trans d2
    refine ⟨Reg.wanted_of rfl (by kernel_rfl) e189, ?_⟩
    generalize Reg.gfr (Reg.opsOf Try.f9 17) a0 v [2] = G at e24 ⊢
    generalize hρ : G.eval = ρ at e24
    have hρ' : G.eval = ρ := hρ
    refine Reg.go_run (Value.int IntKind.i64 12) W ?_ ?_
    · rw [hρ']; simp [execOp, go_sem, e24]
    · exact ⟨Below.refl _ _, rfl⟩
set_option maxHeartbeats 4000000 in
set_option maxRecDepth 20000 in
theorem vn17_h4 :
    Reg.OpOK Try.prog (Reg.opsOf Try.f9 17) a0 w0 (vn17R b29 zz) (fun _ _ _ _ => True) 4 := by
    refine Reg.op_ok2 (fun af => { dst := some 191, op := Op.binOp BinOp.eql 36 (Operand.tmp 190) (Operand.const (Value.int IntKind.i64 12)) 36, type := 4, pos := "outright.go:44", after := af, guard := some (2, true) }) #[{ on := 3, ground := Ground.data }, { on := 2, ground := Ground.guard }] (by kernel_rfl) [3, 2] (by kernel_rfl) fun af v W hb hd => ?_
    have d2 : v 2 = (Value.bool true) := hd 2 (by decide)
    have d3 : v 3 = (Value.int IntKind.i64 12) := hd 3 (by decide)
    have e190 := (Reg.gfr_eval (ops := (Reg.opsOf Try.f9 17)) (a0 := a0) (v := v) (L := [3, 2]) 190 3 (by kernel_rfl) (by rw [hsz]; omega)).trans d3
    have e189 := (Reg.gfr_eval (ops := (Reg.opsOf Try.f9 17)) (a0 := a0) (v := v) (L := [3, 2]) 189 2 (by kernel_rfl) (by rw [hsz]; omega)).trans d2
    refine ⟨Reg.wanted_of rfl (by kernel_rfl) e189, ?_⟩
    have eC : ∀ x, (Reg.gfr (Reg.opsOf Try.f9 17) a0 v [3, 2]).eval (.const x) = x := fun _ => rfl
    generalize Reg.gfr (Reg.opsOf Try.f9 17) a0 v [3, 2] = G at e190 eC ⊢
    generalize hρ : G.eval = ρ at e190 eC
    have hρ' : G.eval = ρ := hρ
    refine Reg.go_run (Value.bool true) W ?_ ?_
    · rw [hρ']; simp [execOp, go_sem, e190, eC]
    · exact ⟨Below.refl _ _, rfl⟩
set_option maxHeartbeats 4000000 in
set_option maxRecDepth 20000 in
theorem vn17_h5 :
    Reg.OpOK Try.prog (Reg.opsOf Try.f9 17) a0 w0 (vn17R b29 zz) (fun _ _ _ _ => True) 5 := by
    refine Reg.op_ok2 (fun af => { dst := some 192, op := Op.pick (Operand.tmp 189) (Operand.tmp 191) (Operand.const (Value.bool false)), type := 4, pos := "outright.go:44", after := af, guard := none }) #[{ on := 2, ground := Ground.data }, { on := 4, ground := Ground.data }] (by kernel_rfl) [2, 4] (by kernel_rfl) fun af v W hb hd => ?_
    have d2 : v 2 = (Value.bool true) := hd 2 (by decide)
    have d4 : v 4 = (Value.bool true) := hd 4 (by decide)
    have e189 := (Reg.gfr_eval (ops := (Reg.opsOf Try.f9 17)) (a0 := a0) (v := v) (L := [2, 4]) 189 2 (by kernel_rfl) (by rw [hsz]; omega)).trans d2
    have e191 := (Reg.gfr_eval (ops := (Reg.opsOf Try.f9 17)) (a0 := a0) (v := v) (L := [2, 4]) 191 4 (by kernel_rfl) (by rw [hsz]; omega)).trans d4
    refine ⟨Reg.wanted_none rfl, ?_⟩
    have eC : ∀ x, (Reg.gfr (Reg.opsOf Try.f9 17) a0 v [2, 4]).eval (.const x) = x := fun _ => rfl
    generalize Reg.gfr (Reg.opsOf Try.f9 17) a0 v [2, 4] = G at e189 e191 eC ⊢
    generalize hρ : G.eval = ρ at e189 e191 eC
    have hρ' : G.eval = ρ := hρ
    refine Reg.go_run (Value.bool true) W ?_ ?_
    · rw [hρ']; simp [execOp, go_sem, e189, e191, eC]
    · exact ⟨Below.refl _ _, rfl⟩
set_option maxHeartbeats 4000000 in
set_option maxRecDepth 20000 in
theorem vn17_h6 :
    Reg.OpOK Try.prog (Reg.opsOf Try.f9 17) a0 w0 (vn17R b29 zz) (fun _ _ _ _ => True) 6 := by
    refine Reg.op_ok2 (fun af => { dst := some 193, op := Op.move (Operand.tmp 192), type := 4, pos := "outright.go:44", after := af, guard := none }) #[{ on := 5, ground := Ground.data }, { on := 2, ground := Ground.chain }] (by kernel_rfl) [5, 2] (by kernel_rfl) fun af v W hb hd => ?_
    have d5 : v 5 = (Value.bool true) := hd 5 (by decide)
    have e192 := (Reg.gfr_eval (ops := (Reg.opsOf Try.f9 17)) (a0 := a0) (v := v) (L := [5, 2]) 192 5 (by kernel_rfl) (by rw [hsz]; omega)).trans d5
    refine ⟨Reg.wanted_none rfl, ?_⟩
    generalize Reg.gfr (Reg.opsOf Try.f9 17) a0 v [5, 2] = G at e192 ⊢
    generalize hρ : G.eval = ρ at e192
    have hρ' : G.eval = ρ := hρ
    refine Reg.go_run (Value.bool true) W ?_ ?_
    · rw [hρ']; simp [execOp, go_sem, e192]
    · exact ⟨Below.refl _ _, rfl⟩
set_option maxHeartbeats 4000000 in
set_option maxRecDepth 20000 in
theorem vn17_h7 :
    Reg.OpOK Try.prog (Reg.opsOf Try.f9 17) a0 w0 (vn17R b29 zz) (fun _ _ _ _ => True) 7 := by
    refine Reg.op_ok2 (fun af => { dst := some 194, op := Op.move (Operand.tmp 26), type := 36, pos := "outright.go:44", after := af, guard := some (6, true) }) #[{ on := 6, ground := Ground.guard }] (by kernel_rfl) [6] (by kernel_rfl) fun af v W hb hd => ?_
    have d6 : v 6 = (Value.bool true) := hd 6 (by decide)
    have e26 := (Reg.gfr_eval0 (ops := (Reg.opsOf Try.f9 17)) (a0 := a0) (v := v) (L := [6]) 26 (by kernel_rfl)).trans i26
    have e193 := (Reg.gfr_eval (ops := (Reg.opsOf Try.f9 17)) (a0 := a0) (v := v) (L := [6]) 193 6 (by kernel_rfl) (by rw [hsz]; omega)).trans d6
    refine ⟨Reg.wanted_of rfl (by kernel_rfl) e193, ?_⟩
    generalize Reg.gfr (Reg.opsOf Try.f9 17) a0 v [6] = G at e26 ⊢
    generalize hρ : G.eval = ρ at e26
    have hρ' : G.eval = ρ := hρ
    refine Reg.go_run (Value.int IntKind.i64 10) W ?_ ?_
    · rw [hρ']; simp [execOp, go_sem, e26]
    · exact ⟨Below.refl _ _, rfl⟩
set_option maxHeartbeats 4000000 in
set_option maxRecDepth 20000 in
theorem vn17_h8 :
    Reg.OpOK Try.prog (Reg.opsOf Try.f9 17) a0 w0 (vn17R b29 zz) (fun _ _ _ _ => True) 8 := by
    refine Reg.op_ok2 (fun af => { dst := some 195, op := Op.binOp BinOp.eql 36 (Operand.tmp 194) (Operand.const (Value.int IntKind.i64 10)) 36, type := 4, pos := "outright.go:44", after := af, guard := some (6, true) }) #[{ on := 7, ground := Ground.data }, { on := 6, ground := Ground.guard }] (by kernel_rfl) [7, 6] (by kernel_rfl) fun af v W hb hd => ?_
    have d6 : v 6 = (Value.bool true) := hd 6 (by decide)
    have d7 : v 7 = (Value.int IntKind.i64 10) := hd 7 (by decide)
    have e194 := (Reg.gfr_eval (ops := (Reg.opsOf Try.f9 17)) (a0 := a0) (v := v) (L := [7, 6]) 194 7 (by kernel_rfl) (by rw [hsz]; omega)).trans d7
    have e193 := (Reg.gfr_eval (ops := (Reg.opsOf Try.f9 17)) (a0 := a0) (v := v) (L := [7, 6]) 193 6 (by kernel_rfl) (by rw [hsz]; omega)).trans d6
    refine ⟨Reg.wanted_of rfl (by kernel_rfl) e193, ?_⟩
    have eC : ∀ x, (Reg.gfr (Reg.opsOf Try.f9 17) a0 v [7, 6]).eval (.const x) = x := fun _ => rfl
    generalize Reg.gfr (Reg.opsOf Try.f9 17) a0 v [7, 6] = G at e194 eC ⊢
    generalize hρ : G.eval = ρ at e194 eC
    have hρ' : G.eval = ρ := hρ
    refine Reg.go_run (Value.bool true) W ?_ ?_
    · rw [hρ']; simp [execOp, go_sem, e194, eC]
    · exact ⟨Below.refl _ _, rfl⟩
set_option maxHeartbeats 4000000 in
set_option maxRecDepth 20000 in
theorem vn17_h9 :
    Reg.OpOK Try.prog (Reg.opsOf Try.f9 17) a0 w0 (vn17R b29 zz) (fun _ _ _ _ => True) 9 := by
    refine Reg.op_ok2 (fun af => { dst := some 196, op := Op.pick (Operand.tmp 193) (Operand.tmp 195) (Operand.const (Value.bool false)), type := 4, pos := "outright.go:44", after := af, guard := none }) #[{ on := 6, ground := Ground.data }, { on := 8, ground := Ground.data }] (by kernel_rfl) [6, 8] (by kernel_rfl) fun af v W hb hd => ?_
    have d6 : v 6 = (Value.bool true) := hd 6 (by decide)
    have d8 : v 8 = (Value.bool true) := hd 8 (by decide)
    have e193 := (Reg.gfr_eval (ops := (Reg.opsOf Try.f9 17)) (a0 := a0) (v := v) (L := [6, 8]) 193 6 (by kernel_rfl) (by rw [hsz]; omega)).trans d6
    have e195 := (Reg.gfr_eval (ops := (Reg.opsOf Try.f9 17)) (a0 := a0) (v := v) (L := [6, 8]) 195 8 (by kernel_rfl) (by rw [hsz]; omega)).trans d8
    refine ⟨Reg.wanted_none rfl, ?_⟩
    have eC : ∀ x, (Reg.gfr (Reg.opsOf Try.f9 17) a0 v [6, 8]).eval (.const x) = x := fun _ => rfl
    generalize Reg.gfr (Reg.opsOf Try.f9 17) a0 v [6, 8] = G at e193 e195 eC ⊢
    generalize hρ : G.eval = ρ at e193 e195 eC
    have hρ' : G.eval = ρ := hρ
    refine Reg.go_run (Value.bool true) W ?_ ?_
    · rw [hρ']; simp [execOp, go_sem, e193, e195, eC]
    · exact ⟨Below.refl _ _, rfl⟩
set_option maxHeartbeats 4000000 in
set_option maxRecDepth 20000 in
theorem vn17_h10 :
    Reg.OpOK Try.prog (Reg.opsOf Try.f9 17) a0 w0 (vn17R b29 zz) (fun _ _ _ _ => True) 10 := by
    refine Reg.op_ok2 (fun af => { dst := some 197, op := Op.move (Operand.tmp 196), type := 4, pos := "outright.go:44", after := af, guard := none }) #[{ on := 9, ground := Ground.data }, { on := 6, ground := Ground.chain }] (by kernel_rfl) [9, 6] (by kernel_rfl) fun af v W hb hd => ?_
    have d9 : v 9 = (Value.bool true) := hd 9 (by decide)
    have e196 := (Reg.gfr_eval (ops := (Reg.opsOf Try.f9 17)) (a0 := a0) (v := v) (L := [9, 6]) 196 9 (by kernel_rfl) (by rw [hsz]; omega)).trans d9
    refine ⟨Reg.wanted_none rfl, ?_⟩
    generalize Reg.gfr (Reg.opsOf Try.f9 17) a0 v [9, 6] = G at e196 ⊢
    generalize hρ : G.eval = ρ at e196
    have hρ' : G.eval = ρ := hρ
    refine Reg.go_run (Value.bool true) W ?_ ?_
    · rw [hρ']; simp [execOp, go_sem, e196]
    · exact ⟨Below.refl _ _, rfl⟩
set_option maxHeartbeats 4000000 in
set_option maxRecDepth 20000 in
theorem vn17_h11 :
    Reg.OpOK Try.prog (Reg.opsOf Try.f9 17) a0 w0 (vn17R b29 zz) (fun _ _ _ _ => True) 11 := by
    refine Reg.op_ok2 (fun af => { dst := some 198, op := Op.move (Operand.tmp 28), type := 36, pos := "outright.go:44", after := af, guard := some (10, true) }) #[{ on := 10, ground := Ground.guard }] (by kernel_rfl) [10] (by kernel_rfl) fun af v W hb hd => ?_
    have d10 : v 10 = (Value.bool true) := hd 10 (by decide)
    have e28 := (Reg.gfr_eval0 (ops := (Reg.opsOf Try.f9 17)) (a0 := a0) (v := v) (L := [10]) 28 (by kernel_rfl)).trans i28
    have e197 := (Reg.gfr_eval (ops := (Reg.opsOf Try.f9 17)) (a0 := a0) (v := v) (L := [10]) 197 10 (by kernel_rfl) (by rw [hsz]; omega)).trans d10
    refine ⟨Reg.wanted_of rfl (by kernel_rfl) e197, ?_⟩
    generalize Reg.gfr (Reg.opsOf Try.f9 17) a0 v [10] = G at e28 ⊢
    generalize hρ : G.eval = ρ at e28
    have hρ' : G.eval = ρ := hρ
    refine Reg.go_run (Value.int IntKind.i64 1) W ?_ ?_
    · rw [hρ']; simp [execOp, go_sem, e28]
    · exact ⟨Below.refl _ _, rfl⟩
set_option maxHeartbeats 4000000 in
set_option maxRecDepth 20000 in
theorem vn17_h12 :
    Reg.OpOK Try.prog (Reg.opsOf Try.f9 17) a0 w0 (vn17R b29 zz) (fun _ _ _ _ => True) 12 := by
    refine Reg.op_ok2 (fun af => { dst := some 199, op := Op.binOp BinOp.eql 36 (Operand.tmp 198) (Operand.const (Value.int IntKind.i64 1)) 36, type := 4, pos := "outright.go:44", after := af, guard := some (10, true) }) #[{ on := 11, ground := Ground.data }, { on := 10, ground := Ground.guard }] (by kernel_rfl) [11, 10] (by kernel_rfl) fun af v W hb hd => ?_
    have d10 : v 10 = (Value.bool true) := hd 10 (by decide)
    have d11 : v 11 = (Value.int IntKind.i64 1) := hd 11 (by decide)
    have e198 := (Reg.gfr_eval (ops := (Reg.opsOf Try.f9 17)) (a0 := a0) (v := v) (L := [11, 10]) 198 11 (by kernel_rfl) (by rw [hsz]; omega)).trans d11
    have e197 := (Reg.gfr_eval (ops := (Reg.opsOf Try.f9 17)) (a0 := a0) (v := v) (L := [11, 10]) 197 10 (by kernel_rfl) (by rw [hsz]; omega)).trans d10
    refine ⟨Reg.wanted_of rfl (by kernel_rfl) e197, ?_⟩
    have eC : ∀ x, (Reg.gfr (Reg.opsOf Try.f9 17) a0 v [11, 10]).eval (.const x) = x := fun _ => rfl
    generalize Reg.gfr (Reg.opsOf Try.f9 17) a0 v [11, 10] = G at e198 eC ⊢
    generalize hρ : G.eval = ρ at e198 eC
    have hρ' : G.eval = ρ := hρ
    refine Reg.go_run (Value.bool true) W ?_ ?_
    · rw [hρ']; simp [execOp, go_sem, e198, eC]
    · exact ⟨Below.refl _ _, rfl⟩
set_option maxHeartbeats 4000000 in
set_option maxRecDepth 20000 in
theorem vn17_h13 :
    Reg.OpOK Try.prog (Reg.opsOf Try.f9 17) a0 w0 (vn17R b29 zz) (fun _ _ _ _ => True) 13 := by
    refine Reg.op_ok2 (fun af => { dst := some 200, op := Op.pick (Operand.tmp 197) (Operand.tmp 199) (Operand.const (Value.bool false)), type := 4, pos := "outright.go:44", after := af, guard := none }) #[{ on := 10, ground := Ground.data }, { on := 12, ground := Ground.data }] (by kernel_rfl) [10, 12] (by kernel_rfl) fun af v W hb hd => ?_
    have d10 : v 10 = (Value.bool true) := hd 10 (by decide)
    have d12 : v 12 = (Value.bool true) := hd 12 (by decide)
    have e197 := (Reg.gfr_eval (ops := (Reg.opsOf Try.f9 17)) (a0 := a0) (v := v) (L := [10, 12]) 197 10 (by kernel_rfl) (by rw [hsz]; omega)).trans d10
    have e199 := (Reg.gfr_eval (ops := (Reg.opsOf Try.f9 17)) (a0 := a0) (v := v) (L := [10, 12]) 199 12 (by kernel_rfl) (by rw [hsz]; omega)).trans d12
    refine ⟨Reg.wanted_none rfl, ?_⟩
    have eC : ∀ x, (Reg.gfr (Reg.opsOf Try.f9 17) a0 v [10, 12]).eval (.const x) = x := fun _ => rfl
    generalize Reg.gfr (Reg.opsOf Try.f9 17) a0 v [10, 12] = G at e197 e199 eC ⊢
    generalize hρ : G.eval = ρ at e197 e199 eC
    have hρ' : G.eval = ρ := hρ
    refine Reg.go_run (Value.bool true) W ?_ ?_
    · rw [hρ']; simp [execOp, go_sem, e197, e199, eC]
    · exact ⟨Below.refl _ _, rfl⟩
set_option maxHeartbeats 4000000 in
set_option maxRecDepth 20000 in
theorem vn17_h14 :
    Reg.OpOK Try.prog (Reg.opsOf Try.f9 17) a0 w0 (vn17R b29 zz) (fun _ _ _ _ => True) 14 := by
    refine Reg.op_ok2 (fun af => { dst := some 201, op := Op.move (Operand.tmp 200), type := 4, pos := "outright.go:44", after := af, guard := none }) #[{ on := 13, ground := Ground.data }, { on := 10, ground := Ground.chain }] (by kernel_rfl) [13, 10] (by kernel_rfl) fun af v W hb hd => ?_
    have d13 : v 13 = (Value.bool true) := hd 13 (by decide)
    have e200 := (Reg.gfr_eval (ops := (Reg.opsOf Try.f9 17)) (a0 := a0) (v := v) (L := [13, 10]) 200 13 (by kernel_rfl) (by rw [hsz]; omega)).trans d13
    refine ⟨Reg.wanted_none rfl, ?_⟩
    generalize Reg.gfr (Reg.opsOf Try.f9 17) a0 v [13, 10] = G at e200 ⊢
    generalize hρ : G.eval = ρ at e200
    have hρ' : G.eval = ρ := hρ
    refine Reg.go_run (Value.bool true) W ?_ ?_
    · rw [hρ']; simp [execOp, go_sem, e200]
    · exact ⟨Below.refl _ _, rfl⟩
set_option maxHeartbeats 4000000 in
set_option maxRecDepth 20000 in
theorem vn17_h15 :
    Reg.OpOK Try.prog (Reg.opsOf Try.f9 17) a0 w0 (vn17R b29 zz) (fun _ _ _ _ => True) 15 := by
    refine Reg.op_ok2 (fun af => { dst := some 202, op := Op.move (Operand.tmp 30), type := 36, pos := "outright.go:44", after := af, guard := some (14, true) }) #[{ on := 14, ground := Ground.guard }] (by kernel_rfl) [14] (by kernel_rfl) fun af v W hb hd => ?_
    have d14 : v 14 = (Value.bool true) := hd 14 (by decide)
    have e30 := (Reg.gfr_eval0 (ops := (Reg.opsOf Try.f9 17)) (a0 := a0) (v := v) (L := [14]) 30 (by kernel_rfl)).trans i30
    have e201 := (Reg.gfr_eval (ops := (Reg.opsOf Try.f9 17)) (a0 := a0) (v := v) (L := [14]) 201 14 (by kernel_rfl) (by rw [hsz]; omega)).trans d14
    refine ⟨Reg.wanted_of rfl (by kernel_rfl) e201, ?_⟩
    generalize Reg.gfr (Reg.opsOf Try.f9 17) a0 v [14] = G at e30 ⊢
    generalize hρ : G.eval = ρ at e30
    have hρ' : G.eval = ρ := hρ
    refine Reg.go_run (Value.int IntKind.i64 0) W ?_ ?_
    · rw [hρ']; simp [execOp, go_sem, e30]
    · exact ⟨Below.refl _ _, rfl⟩
set_option maxHeartbeats 4000000 in
set_option maxRecDepth 20000 in
theorem vn17_h16 :
    Reg.OpOK Try.prog (Reg.opsOf Try.f9 17) a0 w0 (vn17R b29 zz) (fun _ _ _ _ => True) 16 := by
    refine Reg.op_ok2 (fun af => { dst := some 203, op := Op.binOp BinOp.eql 36 (Operand.tmp 202) (Operand.const (Value.int IntKind.i64 0)) 36, type := 4, pos := "outright.go:44", after := af, guard := some (14, true) }) #[{ on := 15, ground := Ground.data }, { on := 14, ground := Ground.guard }] (by kernel_rfl) [15, 14] (by kernel_rfl) fun af v W hb hd => ?_
    have d14 : v 14 = (Value.bool true) := hd 14 (by decide)
    have d15 : v 15 = (Value.int IntKind.i64 0) := hd 15 (by decide)
    have e202 := (Reg.gfr_eval (ops := (Reg.opsOf Try.f9 17)) (a0 := a0) (v := v) (L := [15, 14]) 202 15 (by kernel_rfl) (by rw [hsz]; omega)).trans d15
    have e201 := (Reg.gfr_eval (ops := (Reg.opsOf Try.f9 17)) (a0 := a0) (v := v) (L := [15, 14]) 201 14 (by kernel_rfl) (by rw [hsz]; omega)).trans d14
    refine ⟨Reg.wanted_of rfl (by kernel_rfl) e201, ?_⟩
    have eC : ∀ x, (Reg.gfr (Reg.opsOf Try.f9 17) a0 v [15, 14]).eval (.const x) = x := fun _ => rfl
    generalize Reg.gfr (Reg.opsOf Try.f9 17) a0 v [15, 14] = G at e202 eC ⊢
    generalize hρ : G.eval = ρ at e202 eC
    have hρ' : G.eval = ρ := hρ
    refine Reg.go_run (Value.bool true) W ?_ ?_
    · rw [hρ']; simp [execOp, go_sem, e202, eC]
    · exact ⟨Below.refl _ _, rfl⟩
set_option maxHeartbeats 4000000 in
set_option maxRecDepth 20000 in
theorem vn17_h17 :
    Reg.OpOK Try.prog (Reg.opsOf Try.f9 17) a0 w0 (vn17R b29 zz) (fun _ _ _ _ => True) 17 := by
    refine Reg.op_ok2 (fun af => { dst := some 204, op := Op.pick (Operand.tmp 201) (Operand.tmp 203) (Operand.const (Value.bool false)), type := 4, pos := "outright.go:44", after := af, guard := none }) #[{ on := 14, ground := Ground.data }, { on := 16, ground := Ground.data }] (by kernel_rfl) [14, 16] (by kernel_rfl) fun af v W hb hd => ?_
    have d14 : v 14 = (Value.bool true) := hd 14 (by decide)
    have d16 : v 16 = (Value.bool true) := hd 16 (by decide)
    have e201 := (Reg.gfr_eval (ops := (Reg.opsOf Try.f9 17)) (a0 := a0) (v := v) (L := [14, 16]) 201 14 (by kernel_rfl) (by rw [hsz]; omega)).trans d14
    have e203 := (Reg.gfr_eval (ops := (Reg.opsOf Try.f9 17)) (a0 := a0) (v := v) (L := [14, 16]) 203 16 (by kernel_rfl) (by rw [hsz]; omega)).trans d16
    refine ⟨Reg.wanted_none rfl, ?_⟩
    have eC : ∀ x, (Reg.gfr (Reg.opsOf Try.f9 17) a0 v [14, 16]).eval (.const x) = x := fun _ => rfl
    generalize Reg.gfr (Reg.opsOf Try.f9 17) a0 v [14, 16] = G at e201 e203 eC ⊢
    generalize hρ : G.eval = ρ at e201 e203 eC
    have hρ' : G.eval = ρ := hρ
    refine Reg.go_run (Value.bool true) W ?_ ?_
    · rw [hρ']; simp [execOp, go_sem, e201, e203, eC]
    · exact ⟨Below.refl _ _, rfl⟩
set_option maxHeartbeats 4000000 in
set_option maxRecDepth 20000 in
theorem vn17_h18 :
    Reg.OpOK Try.prog (Reg.opsOf Try.f9 17) a0 w0 (vn17R b29 zz) (fun _ _ _ _ => True) 18 := by
    refine Reg.op_ok2 (fun af => { dst := some 205, op := Op.move (Operand.tmp 204), type := 4, pos := "outright.go:44", after := af, guard := none }) #[{ on := 17, ground := Ground.data }, { on := 14, ground := Ground.chain }] (by kernel_rfl) [17, 14] (by kernel_rfl) fun af v W hb hd => ?_
    have d17 : v 17 = (Value.bool true) := hd 17 (by decide)
    have e204 := (Reg.gfr_eval (ops := (Reg.opsOf Try.f9 17)) (a0 := a0) (v := v) (L := [17, 14]) 204 17 (by kernel_rfl) (by rw [hsz]; omega)).trans d17
    refine ⟨Reg.wanted_none rfl, ?_⟩
    generalize Reg.gfr (Reg.opsOf Try.f9 17) a0 v [17, 14] = G at e204 ⊢
    generalize hρ : G.eval = ρ at e204
    have hρ' : G.eval = ρ := hρ
    refine Reg.go_run (Value.bool true) W ?_ ?_
    · rw [hρ']; simp [execOp, go_sem, e204]
    · exact ⟨Below.refl _ _, rfl⟩
set_option maxHeartbeats 4000000 in
set_option maxRecDepth 20000 in
theorem vn17_h19 :
    Reg.OpOK Try.prog (Reg.opsOf Try.f9 17) a0 w0 (vn17R b29 zz) (fun _ _ _ _ => True) 19 := by
    refine Reg.op_ok2 (fun af => { dst := some 206, op := Op.load 24 (Operand.tmp 29), type := 24, pos := "outright.go:44", after := af, guard := some (18, true) }) #[{ on := 18, ground := Ground.guard }] (by kernel_rfl) [18] (by kernel_rfl) fun af v W hb hd => ?_
    have d18 : v 18 = (Value.bool true) := hd 18 (by decide)
    have e29 := (Reg.gfr_eval0 (ops := (Reg.opsOf Try.f9 17)) (a0 := a0) (v := v) (L := [18]) 29 (by kernel_rfl)).trans i29
    have e205 := (Reg.gfr_eval (ops := (Reg.opsOf Try.f9 17)) (a0 := a0) (v := v) (L := [18]) 205 18 (by kernel_rfl) (by rw [hsz]; omega)).trans d18
    refine ⟨Reg.wanted_of rfl (by kernel_rfl) e205, ?_⟩
    generalize Reg.gfr (Reg.opsOf Try.f9 17) a0 v [18] = G at e29 ⊢
    generalize hρ : G.eval = ρ at e29
    have hρ' : G.eval = ρ := hρ
    exact fun K hK => wp_load_row 24 (.tmp 29) rfl b29 (by rw [hρ']; exact e29) 24 (vC zz) (0, 0) _ (M_b29 W hb) Try.underlying24 rfl (vec_size hz) (hK _ _ ⟨Below.refl _ _, rfl⟩)
set_option maxHeartbeats 4000000 in
set_option maxRecDepth 20000 in
theorem vn17_h20 :
    Reg.OpOK Try.prog (Reg.opsOf Try.f9 17) a0 w0 (vn17R b29 zz) (fun _ _ _ _ => True) 20 := by
    refine Reg.op_ok2 (fun af => { dst := some 207, op := Op.call { callee := Callee.value (Operand.func 34), args := #[Operand.const (Value.slice none 0 0)], argTypes := #[75] }, type := 24, pos := "outright.go:44", after := af, guard := some (18, true) }) #[{ on := 18, ground := Ground.chain }, { on := 18, ground := Ground.guard }] (by kernel_rfl) [18, 18] (by kernel_rfl) fun af v W hb hd => ?_
    have d18 : v 18 = (Value.bool true) := hd 18 (by decide)
    have e205 := (Reg.gfr_eval (ops := (Reg.opsOf Try.f9 17)) (a0 := a0) (v := v) (L := [18, 18]) 205 18 (by kernel_rfl) (by rw [hsz]; omega)).trans d18
    refine ⟨Reg.wanted_of rfl (by kernel_rfl) e205, ?_⟩
    have eF : ∀ f, (Reg.gfr (Reg.opsOf Try.f9 17) a0 v [18, 18]).eval (.func f) = .func (.func f) #[] #[] := fun _ => rfl
    have eC : ∀ x, (Reg.gfr (Reg.opsOf Try.f9 17) a0 v [18, 18]).eval (.const x) = x := fun _ => rfl
    generalize Reg.gfr (Reg.opsOf Try.f9 17) a0 v [18, 18] = G at eF eC ⊢
    generalize hρ : G.eval = ρ at eF eC
    have hρ' : G.eval = ρ := hρ
    refine Reg.go_call 34 #[(Value.slice none 0 0)] (by rw [hρ']; simp [execOp, go_sem, eF, eC]) ((of_any none 0 0 [] rfl (by omega) W (RdC.nil _ _)).mono fun e w' he => ?_)
    obtain ⟨rfl, hbb⟩ := he
    exact ⟨_, rfl, hbb, (show _ = _ from by rw [hzz])⟩
set_option maxHeartbeats 4000000 in
set_option maxRecDepth 20000 in
theorem vn17_h21 :
    Reg.OpOK Try.prog (Reg.opsOf Try.f9 17) a0 w0 (vn17R b29 zz) (fun _ _ _ _ => True) 21 := by
    refine Reg.op_ok2 (fun af => { dst := some 208, op := Op.binOp BinOp.eql 24 (Operand.tmp 206) (Operand.tmp 207) 24, type := 4, pos := "outright.go:44", after := af, guard := some (18, true) }) #[{ on := 19, ground := Ground.data }, { on := 20, ground := Ground.data }, { on := 18, ground := Ground.guard }] (by kernel_rfl) [19, 20, 18] (by kernel_rfl) fun af v W hb hd => ?_
    have d18 : v 18 = (Value.bool true) := hd 18 (by decide)
    have d19 : v 19 = (Value.agg (vC zz)) := hd 19 (by decide)
    have d20 : v 20 = (Value.agg (vC zz)) := hd 20 (by decide)
    have e206 := (Reg.gfr_eval (ops := (Reg.opsOf Try.f9 17)) (a0 := a0) (v := v) (L := [19, 20, 18]) 206 19 (by kernel_rfl) (by rw [hsz]; omega)).trans d19
    have e207 := (Reg.gfr_eval (ops := (Reg.opsOf Try.f9 17)) (a0 := a0) (v := v) (L := [19, 20, 18]) 207 20 (by kernel_rfl) (by rw [hsz]; omega)).trans d20
    have e205 := (Reg.gfr_eval (ops := (Reg.opsOf Try.f9 17)) (a0 := a0) (v := v) (L := [19, 20, 18]) 205 18 (by kernel_rfl) (by rw [hsz]; omega)).trans d18
    refine ⟨Reg.wanted_of rfl (by kernel_rfl) e205, ?_⟩
    generalize Reg.gfr (Reg.opsOf Try.f9 17) a0 v [19, 20, 18] = G at e206 e207 ⊢
    generalize hρ : G.eval = ρ at e206 e207
    have hρ' : G.eval = ρ := hρ
    refine Reg.go_run (Value.bool true) W ?_ ?_
    · rw [hρ']; simp [execOp, go_sem, e206, e207, run_eq_vec W zz zz hz hz]
    · exact ⟨Below.refl _ _, rfl⟩
set_option maxHeartbeats 4000000 in
set_option maxRecDepth 20000 in
theorem vn17_h22 :
    Reg.OpOK Try.prog (Reg.opsOf Try.f9 17) a0 w0 (vn17R b29 zz) (fun _ _ _ _ => True) 22 := by
    refine Reg.op_ok2 (fun af => { dst := some 209, op := Op.pick (Operand.tmp 205) (Operand.tmp 208) (Operand.const (Value.bool false)), type := 4, pos := "outright.go:44", after := af, guard := none }) #[{ on := 18, ground := Ground.data }, { on := 21, ground := Ground.data }] (by kernel_rfl) [18, 21] (by kernel_rfl) fun af v W hb hd => ?_
    have d18 : v 18 = (Value.bool true) := hd 18 (by decide)
    have d21 : v 21 = (Value.bool true) := hd 21 (by decide)
    have e205 := (Reg.gfr_eval (ops := (Reg.opsOf Try.f9 17)) (a0 := a0) (v := v) (L := [18, 21]) 205 18 (by kernel_rfl) (by rw [hsz]; omega)).trans d18
    have e208 := (Reg.gfr_eval (ops := (Reg.opsOf Try.f9 17)) (a0 := a0) (v := v) (L := [18, 21]) 208 21 (by kernel_rfl) (by rw [hsz]; omega)).trans d21
    refine ⟨Reg.wanted_none rfl, ?_⟩
    have eC : ∀ x, (Reg.gfr (Reg.opsOf Try.f9 17) a0 v [18, 21]).eval (.const x) = x := fun _ => rfl
    generalize Reg.gfr (Reg.opsOf Try.f9 17) a0 v [18, 21] = G at e205 e208 eC ⊢
    generalize hρ : G.eval = ρ at e205 e208 eC
    have hρ' : G.eval = ρ := hρ
    refine Reg.go_run (Value.bool true) W ?_ ?_
    · rw [hρ']; simp [execOp, go_sem, e205, e208, eC]
    · exact ⟨Below.refl _ _, rfl⟩
set_option maxHeartbeats 4000000 in
set_option maxRecDepth 20000 in
theorem vn17_h23 :
    Reg.OpOK Try.prog (Reg.opsOf Try.f9 17) a0 w0 (vn17R b29 zz) (fun _ _ _ _ => True) 23 := by
    refine Reg.op_ok2 (fun af => { dst := some 31, op := Op.assign (Operand.tmp 209), type := 4, pos := "outright.go:44", after := af, guard := none }) #[{ on := 22, ground := Ground.data }, { on := 20, ground := Ground.chain }, { on := 0, ground := Ground.phase }, { on := 1, ground := Ground.phase }, { on := 2, ground := Ground.phase }, { on := 3, ground := Ground.phase }, { on := 4, ground := Ground.phase }, { on := 5, ground := Ground.phase }, { on := 6, ground := Ground.phase }, { on := 7, ground := Ground.phase }, { on := 8, ground := Ground.phase }, { on := 9, ground := Ground.phase }, { on := 10, ground := Ground.phase }, { on := 11, ground := Ground.phase }, { on := 12, ground := Ground.phase }, { on := 13, ground := Ground.phase }, { on := 14, ground := Ground.phase }, { on := 15, ground := Ground.phase }, { on := 16, ground := Ground.phase }, { on := 17, ground := Ground.phase }, { on := 18, ground := Ground.phase }, { on := 19, ground := Ground.phase }, { on := 20, ground := Ground.phase }, { on := 21, ground := Ground.phase }, { on := 22, ground := Ground.phase }] (by kernel_rfl) [22, 20, 0, 1, 2, 3, 4, 5, 6, 7, 8, 9, 10, 11, 12, 13, 14, 15, 16, 17, 18, 19, 20, 21, 22] (by kernel_rfl) fun af v W hb hd => ?_
    have d22 : v 22 = (Value.bool true) := hd 22 (by decide)
    have e209 := (Reg.gfr_eval (ops := (Reg.opsOf Try.f9 17)) (a0 := a0) (v := v) (L := [22, 20, 0, 1, 2, 3, 4, 5, 6, 7, 8, 9, 10, 11, 12, 13, 14, 15, 16, 17, 18, 19, 20, 21, 22]) 209 22 (by kernel_rfl) (by rw [hsz]; omega)).trans d22
    refine ⟨Reg.wanted_none rfl, ?_⟩
    generalize Reg.gfr (Reg.opsOf Try.f9 17) a0 v [22, 20, 0, 1, 2, 3, 4, 5, 6, 7, 8, 9, 10, 11, 12, 13, 14, 15, 16, 17, 18, 19, 20, 21, 22] = G at e209 ⊢
    generalize hρ : G.eval = ρ at e209
    have hρ' : G.eval = ρ := hρ
    refine Reg.go_run (Value.bool true) W ?_ ?_
    · rw [hρ']; simp [execOp, go_sem, e209]
    · exact ⟨Below.refl _ _, rfl⟩
end
set_option maxHeartbeats 4000000 in
set_option maxRecDepth 20000 in
theorem vn17 (b29 : Nat) (zz : List Nat) (w0 : World) {s0 s1 s2 s3 s4 s5 s6 s7 s8 s9 s10 s11 s12 s13 s14 s15 s16 s17 s18 s19 s20 s21 s23 s25 s27 s31 s32 s33 s34 s35 s36 s37 s38 s39 s40 s41 s42 s43 s44 s45 s46 s47 s48 s49 s50 s51 s52 s53 s54 s55 s56 s57 s58 s59 s60 s61 s62 s63 s64 s65 s66 s67 s68 s69 s70 s71 s72 s73 s74 s75 s76 s77 s78 s79 s80 s81 s82 s83 s84 s85 s86 s87 s88 s89 s90 s91 s92 s93 s94 s95 s96 s97 s98 s99 s100 s101 s102 s103 s104 s105 s106 s107 s108 s109 s110 s111 s112 s113 s114 s115 s116 s117 s118 s119 s120 s121 s122 s123 s124 s125 s126 s127 s128 s129 s130 s131 s132 s133 s134 s135 s136 s137 s138 s139 s140 s141 s142 s143 s144 s145 s146 s147 s148 s149 s150 s151 s152 s153 s154 s155 s156 s157 s158 s159 s160 s161 s162 s163 s164 s165 s166 s167 s168 s169 s170 s171 s172 s173 s174 s175 s176 s177 s178 s179 s180 s181 s182 s183 s184 s185 s186 s187 s188 s189 s190 s191 s192 s193 s194 s195 s196 s197 s198 s199 s200 s201 s202 s203 s204 s205 s206 s207 s208 s209 s210 s211 s212 s213 s214 s215 s216 s217 s218 s219 s220 s221 s222 s223 s224 s225 s226 s227 s228 s229 s230 s231 s232 s233 s234 s235 s236 s237 s238 s239 s240 s241 s242 s243 s244 s245 s246 s247 s248 s249 s250 s251 s252 s253 s254 s255 s256 s257 s258 s259 s260 s261 s262 s263 s264 s265 s266 s267 s268 s269 s270 s271 s272 s273 s274 s275 s276 s277 s278 s279 s280 s281 s282 s283 s284 s285 s286 s287 s288 s289 s290 s291 s292 s293 s294 s295 s296 : Value}
    (hz : zz.length = 16) (hzz : padV [] = zz)
    (M_b29 : ∀ W, Below w0.heap.size w0 W → W.heap[b29]? = some (.cells (vC zz) 24 (0, 0)))
    {Q : Exit → Act → World → Prop}
    (hend : ∀ (w : World), Below w0.heap.size w0 w → Q .normal { tmps := #[s0, s1, s2, s3, s4, s5, s6, s7, s8, s9, s10, s11, s12, s13, s14, s15, s16, s17, s18, s19, s20, s21, (Value.int IntKind.i64 62), s23, (Value.int IntKind.i64 12), s25, (Value.int IntKind.i64 10), s27, (Value.int IntKind.i64 1), (Value.pointer (some ⟨b29, 0, none⟩)), (Value.int IntKind.i64 0), (Value.bool true), s32, s33, s34, s35, s36, s37, s38, s39, s40, s41, s42, s43, s44, s45, s46, s47, s48, s49, s50, s51, s52, s53, s54, s55, s56, s57, s58, s59, s60, s61, s62, s63, s64, s65, s66, s67, s68, s69, s70, s71, s72, s73, s74, s75, s76, s77, s78, s79, s80, s81, s82, s83, s84, s85, s86, s87, s88, s89, s90, s91, s92, s93, s94, s95, s96, s97, s98, s99, s100, s101, s102, s103, s104, s105, s106, s107, s108, s109, s110, s111, s112, s113, s114, s115, s116, s117, s118, s119, s120, s121, s122, s123, s124, s125, s126, s127, s128, s129, s130, s131, s132, s133, s134, s135, s136, s137, s138, s139, s140, s141, s142, s143, s144, s145, s146, s147, s148, s149, s150, s151, s152, s153, s154, s155, s156, s157, s158, s159, s160, s161, s162, s163, s164, s165, s166, s167, s168, s169, s170, s171, s172, s173, s174, s175, s176, s177, s178, s179, s180, s181, s182, s183, s184, s185, s186, (Value.int IntKind.i64 62), (Value.bool true), (Value.bool true), (Value.int IntKind.i64 12), (Value.bool true), (Value.bool true), (Value.bool true), (Value.int IntKind.i64 10), (Value.bool true), (Value.bool true), (Value.bool true), (Value.int IntKind.i64 1), (Value.bool true), (Value.bool true), (Value.bool true), (Value.int IntKind.i64 0), (Value.bool true), (Value.bool true), (Value.bool true), (Value.agg (vC zz)), (Value.agg (vC zz)), (Value.bool true), (Value.bool true), s210, s211, s212, s213, s214, s215, s216, s217, s218, s219, s220, s221, s222, s223, s224, s225, s226, s227, s228, s229, s230, s231, s232, s233, s234, s235, s236, s237, s238, s239, s240, s241, s242, s243, s244, s245, s246, s247, s248, s249, s250, s251, s252, s253, s254, s255, s256, s257, s258, s259, s260, s261, s262, s263, s264, s265, s266, s267, s268, s269, s270, s271, s272, s273, s274, s275, s276, s277, s278, s279, s280, s281, s282, s283, s284, s285, s286, s287, s288, s289, s290, s291, s292, s293, s294, s295, s296], defers := [] } w) :
    (Code.region 17 (Reg.opsOf Try.f9 17) true).wp Try.prog Q { tmps := #[s0, s1, s2, s3, s4, s5, s6, s7, s8, s9, s10, s11, s12, s13, s14, s15, s16, s17, s18, s19, s20, s21, (Value.int IntKind.i64 62), s23, (Value.int IntKind.i64 12), s25, (Value.int IntKind.i64 10), s27, (Value.int IntKind.i64 1), (Value.pointer (some ⟨b29, 0, none⟩)), (Value.int IntKind.i64 0), s31, s32, s33, s34, s35, s36, s37, s38, s39, s40, s41, s42, s43, s44, s45, s46, s47, s48, s49, s50, s51, s52, s53, s54, s55, s56, s57, s58, s59, s60, s61, s62, s63, s64, s65, s66, s67, s68, s69, s70, s71, s72, s73, s74, s75, s76, s77, s78, s79, s80, s81, s82, s83, s84, s85, s86, s87, s88, s89, s90, s91, s92, s93, s94, s95, s96, s97, s98, s99, s100, s101, s102, s103, s104, s105, s106, s107, s108, s109, s110, s111, s112, s113, s114, s115, s116, s117, s118, s119, s120, s121, s122, s123, s124, s125, s126, s127, s128, s129, s130, s131, s132, s133, s134, s135, s136, s137, s138, s139, s140, s141, s142, s143, s144, s145, s146, s147, s148, s149, s150, s151, s152, s153, s154, s155, s156, s157, s158, s159, s160, s161, s162, s163, s164, s165, s166, s167, s168, s169, s170, s171, s172, s173, s174, s175, s176, s177, s178, s179, s180, s181, s182, s183, s184, s185, s186, s187, s188, s189, s190, s191, s192, s193, s194, s195, s196, s197, s198, s199, s200, s201, s202, s203, s204, s205, s206, s207, s208, s209, s210, s211, s212, s213, s214, s215, s216, s217, s218, s219, s220, s221, s222, s223, s224, s225, s226, s227, s228, s229, s230, s231, s232, s233, s234, s235, s236, s237, s238, s239, s240, s241, s242, s243, s244, s245, s246, s247, s248, s249, s250, s251, s252, s253, s254, s255, s256, s257, s258, s259, s260, s261, s262, s263, s264, s265, s266, s267, s268, s269, s270, s271, s272, s273, s274, s275, s276, s277, s278, s279, s280, s281, s282, s283, s284, s285, s286, s287, s288, s289, s290, s291, s292, s293, s294, s295, s296], defers := [] } w0 := by
  obtain ⟨a0, ha0⟩ : ∃ a0 : Act, a0 = { tmps := #[s0, s1, s2, s3, s4, s5, s6, s7, s8, s9, s10, s11, s12, s13, s14, s15, s16, s17, s18, s19, s20, s21, (Value.int IntKind.i64 62), s23, (Value.int IntKind.i64 12), s25, (Value.int IntKind.i64 10), s27, (Value.int IntKind.i64 1), (Value.pointer (some ⟨b29, 0, none⟩)), (Value.int IntKind.i64 0), s31, s32, s33, s34, s35, s36, s37, s38, s39, s40, s41, s42, s43, s44, s45, s46, s47, s48, s49, s50, s51, s52, s53, s54, s55, s56, s57, s58, s59, s60, s61, s62, s63, s64, s65, s66, s67, s68, s69, s70, s71, s72, s73, s74, s75, s76, s77, s78, s79, s80, s81, s82, s83, s84, s85, s86, s87, s88, s89, s90, s91, s92, s93, s94, s95, s96, s97, s98, s99, s100, s101, s102, s103, s104, s105, s106, s107, s108, s109, s110, s111, s112, s113, s114, s115, s116, s117, s118, s119, s120, s121, s122, s123, s124, s125, s126, s127, s128, s129, s130, s131, s132, s133, s134, s135, s136, s137, s138, s139, s140, s141, s142, s143, s144, s145, s146, s147, s148, s149, s150, s151, s152, s153, s154, s155, s156, s157, s158, s159, s160, s161, s162, s163, s164, s165, s166, s167, s168, s169, s170, s171, s172, s173, s174, s175, s176, s177, s178, s179, s180, s181, s182, s183, s184, s185, s186, s187, s188, s189, s190, s191, s192, s193, s194, s195, s196, s197, s198, s199, s200, s201, s202, s203, s204, s205, s206, s207, s208, s209, s210, s211, s212, s213, s214, s215, s216, s217, s218, s219, s220, s221, s222, s223, s224, s225, s226, s227, s228, s229, s230, s231, s232, s233, s234, s235, s236, s237, s238, s239, s240, s241, s242, s243, s244, s245, s246, s247, s248, s249, s250, s251, s252, s253, s254, s255, s256, s257, s258, s259, s260, s261, s262, s263, s264, s265, s266, s267, s268, s269, s270, s271, s272, s273, s274, s275, s276, s277, s278, s279, s280, s281, s282, s283, s284, s285, s286, s287, s288, s289, s290, s291, s292, s293, s294, s295, s296], defers := [] } := ⟨_, rfl⟩
  have hfin : ∀ v : Nat → Value, Reg.gfr (Reg.opsOf Try.f9 17) a0 v (List.range 24) = { tmps := #[s0, s1, s2, s3, s4, s5, s6, s7, s8, s9, s10, s11, s12, s13, s14, s15, s16, s17, s18, s19, s20, s21, (Value.int IntKind.i64 62), s23, (Value.int IntKind.i64 12), s25, (Value.int IntKind.i64 10), s27, (Value.int IntKind.i64 1), (Value.pointer (some ⟨b29, 0, none⟩)), (Value.int IntKind.i64 0), v 23, s32, s33, s34, s35, s36, s37, s38, s39, s40, s41, s42, s43, s44, s45, s46, s47, s48, s49, s50, s51, s52, s53, s54, s55, s56, s57, s58, s59, s60, s61, s62, s63, s64, s65, s66, s67, s68, s69, s70, s71, s72, s73, s74, s75, s76, s77, s78, s79, s80, s81, s82, s83, s84, s85, s86, s87, s88, s89, s90, s91, s92, s93, s94, s95, s96, s97, s98, s99, s100, s101, s102, s103, s104, s105, s106, s107, s108, s109, s110, s111, s112, s113, s114, s115, s116, s117, s118, s119, s120, s121, s122, s123, s124, s125, s126, s127, s128, s129, s130, s131, s132, s133, s134, s135, s136, s137, s138, s139, s140, s141, s142, s143, s144, s145, s146, s147, s148, s149, s150, s151, s152, s153, s154, s155, s156, s157, s158, s159, s160, s161, s162, s163, s164, s165, s166, s167, s168, s169, s170, s171, s172, s173, s174, s175, s176, s177, s178, s179, s180, s181, s182, s183, s184, s185, s186, v 0, v 1, v 2, v 3, v 4, v 5, v 6, v 7, v 8, v 9, v 10, v 11, v 12, v 13, v 14, v 15, v 16, v 17, v 18, v 19, v 20, v 21, v 22, s210, s211, s212, s213, s214, s215, s216, s217, s218, s219, s220, s221, s222, s223, s224, s225, s226, s227, s228, s229, s230, s231, s232, s233, s234, s235, s236, s237, s238, s239, s240, s241, s242, s243, s244, s245, s246, s247, s248, s249, s250, s251, s252, s253, s254, s255, s256, s257, s258, s259, s260, s261, s262, s263, s264, s265, s266, s267, s268, s269, s270, s271, s272, s273, s274, s275, s276, s277, s278, s279, s280, s281, s282, s283, s284, s285, s286, s287, s288, s289, s290, s291, s292, s293, s294, s295, s296], defers := [] } := fun v => by rw [ha0]; kernel_rfl
  rw [← ha0]
  have i22 : a0.eval (.tmp 22) = (Value.int IntKind.i64 62) := by rw [ha0]; rfl
  have i24 : a0.eval (.tmp 24) = (Value.int IntKind.i64 12) := by rw [ha0]; rfl
  have i26 : a0.eval (.tmp 26) = (Value.int IntKind.i64 10) := by rw [ha0]; rfl
  have i28 : a0.eval (.tmp 28) = (Value.int IntKind.i64 1) := by rw [ha0]; rfl
  have i29 : a0.eval (.tmp 29) = (Value.pointer (some ⟨b29, 0, none⟩)) := by rw [ha0]; rfl
  have i30 : a0.eval (.tmp 30) = (Value.int IntKind.i64 0) := by rw [ha0]; rfl
  have hsz : a0.tmps.size = 297 := by rw [ha0]; rfl
  clear ha0
  have hn : (Reg.opsOf Try.f9 17).size = 24 := by kernel_rfl
  have h0 := vn17_h0 b29 zz w0 a0 hz hzz M_b29 i22 i24 i26 i28 i29 i30 hsz
  have h1 := vn17_h1 b29 zz w0 a0 hz hzz M_b29 i22 i24 i26 i28 i29 i30 hsz
  have h2 := vn17_h2 b29 zz w0 a0 hz hzz M_b29 i22 i24 i26 i28 i29 i30 hsz
  have h3 := vn17_h3 b29 zz w0 a0 hz hzz M_b29 i22 i24 i26 i28 i29 i30 hsz
  have h4 := vn17_h4 b29 zz w0 a0 hz hzz M_b29 i22 i24 i26 i28 i29 i30 hsz
  have h5 := vn17_h5 b29 zz w0 a0 hz hzz M_b29 i22 i24 i26 i28 i29 i30 hsz
  have h6 := vn17_h6 b29 zz w0 a0 hz hzz M_b29 i22 i24 i26 i28 i29 i30 hsz
  have h7 := vn17_h7 b29 zz w0 a0 hz hzz M_b29 i22 i24 i26 i28 i29 i30 hsz
  have h8 := vn17_h8 b29 zz w0 a0 hz hzz M_b29 i22 i24 i26 i28 i29 i30 hsz
  have h9 := vn17_h9 b29 zz w0 a0 hz hzz M_b29 i22 i24 i26 i28 i29 i30 hsz
  have h10 := vn17_h10 b29 zz w0 a0 hz hzz M_b29 i22 i24 i26 i28 i29 i30 hsz
  have h11 := vn17_h11 b29 zz w0 a0 hz hzz M_b29 i22 i24 i26 i28 i29 i30 hsz
  have h12 := vn17_h12 b29 zz w0 a0 hz hzz M_b29 i22 i24 i26 i28 i29 i30 hsz
  have h13 := vn17_h13 b29 zz w0 a0 hz hzz M_b29 i22 i24 i26 i28 i29 i30 hsz
  have h14 := vn17_h14 b29 zz w0 a0 hz hzz M_b29 i22 i24 i26 i28 i29 i30 hsz
  have h15 := vn17_h15 b29 zz w0 a0 hz hzz M_b29 i22 i24 i26 i28 i29 i30 hsz
  have h16 := vn17_h16 b29 zz w0 a0 hz hzz M_b29 i22 i24 i26 i28 i29 i30 hsz
  have h17 := vn17_h17 b29 zz w0 a0 hz hzz M_b29 i22 i24 i26 i28 i29 i30 hsz
  have h18 := vn17_h18 b29 zz w0 a0 hz hzz M_b29 i22 i24 i26 i28 i29 i30 hsz
  have h19 := vn17_h19 b29 zz w0 a0 hz hzz M_b29 i22 i24 i26 i28 i29 i30 hsz
  have h20 := vn17_h20 b29 zz w0 a0 hz hzz M_b29 i22 i24 i26 i28 i29 i30 hsz
  have h21 := vn17_h21 b29 zz w0 a0 hz hzz M_b29 i22 i24 i26 i28 i29 i30 hsz
  have h22 := vn17_h22 b29 zz w0 a0 hz hzz M_b29 i22 i24 i26 i28 i29 i30 hsz
  have h23 := vn17_h23 b29 zz w0 a0 hz hzz M_b29 i22 i24 i26 i28 i29 i30 hsz
  refine Reg.region_all (by kernel_rfl) (vn17R b29 zz) (by rw [hn, hsz]; kernel_rfl) (vn17_stable b29 zz) (fun i hi => ?_) (fun v w hb hR => ?_)
  · rw [hn] at hi
    match i, List.mem_range.1 hi with
    | 0, _ => exact h0
    | 1, _ => exact h1
    | 2, _ => exact h2
    | 3, _ => exact h3
    | 4, _ => exact h4
    | 5, _ => exact h5
    | 6, _ => exact h6
    | 7, _ => exact h7
    | 8, _ => exact h8
    | 9, _ => exact h9
    | 10, _ => exact h10
    | 11, _ => exact h11
    | 12, _ => exact h12
    | 13, _ => exact h13
    | 14, _ => exact h14
    | 15, _ => exact h15
    | 16, _ => exact h16
    | 17, _ => exact h17
    | 18, _ => exact h18
    | 19, _ => exact h19
    | 20, _ => exact h20
    | 21, _ => exact h21
    | 22, _ => exact h22
    | 23, _ => exact h23
    | (_ + 24), h => omega
  · rw [hn] at hR ⊢
    have v0 : v 0 = (Value.int IntKind.i64 62) := hR 0 (by decide)
    have v1 : v 1 = (Value.bool true) := hR 1 (by decide)
    have v2 : v 2 = (Value.bool true) := hR 2 (by decide)
    have v3 : v 3 = (Value.int IntKind.i64 12) := hR 3 (by decide)
    have v4 : v 4 = (Value.bool true) := hR 4 (by decide)
    have v5 : v 5 = (Value.bool true) := hR 5 (by decide)
    have v6 : v 6 = (Value.bool true) := hR 6 (by decide)
    have v7 : v 7 = (Value.int IntKind.i64 10) := hR 7 (by decide)
    have v8 : v 8 = (Value.bool true) := hR 8 (by decide)
    have v9 : v 9 = (Value.bool true) := hR 9 (by decide)
    have v10 : v 10 = (Value.bool true) := hR 10 (by decide)
    have v11 : v 11 = (Value.int IntKind.i64 1) := hR 11 (by decide)
    have v12 : v 12 = (Value.bool true) := hR 12 (by decide)
    have v13 : v 13 = (Value.bool true) := hR 13 (by decide)
    have v14 : v 14 = (Value.bool true) := hR 14 (by decide)
    have v15 : v 15 = (Value.int IntKind.i64 0) := hR 15 (by decide)
    have v16 : v 16 = (Value.bool true) := hR 16 (by decide)
    have v17 : v 17 = (Value.bool true) := hR 17 (by decide)
    have v18 : v 18 = (Value.bool true) := hR 18 (by decide)
    have v19 : v 19 = (Value.agg (vC zz)) := hR 19 (by decide)
    have v20 : v 20 = (Value.agg (vC zz)) := hR 20 (by decide)
    have v21 : v 21 = (Value.bool true) := hR 21 (by decide)
    have v22 : v 22 = (Value.bool true) := hR 22 (by decide)
    have v23 : v 23 = (Value.bool true) := hR 23 (by decide)
    rw [hfin v, v0, v1, v2, v3, v4, v5, v6, v7, v8, v9, v10, v11, v12, v13, v14, v15, v16, v17, v18, v19, v20, v21, v22, v23]
    exact hend w  hb 
end Go.Proofs.Ytfifbjlmbdgmjaa
