/- Regions that draw their order: their obligations (printed by regen2.py). -/
import Derived.Test.YtokfenogiajcgaaLebP
import Derived.Test.YtokfenogiajcgaaLebG
import Derived.Test.YtokfenogiajcgaaRegT
namespace Go.Proofs.Ytokfenogiajcgaa
open Go.RowKit
set_option linter.unusedVariables false
set_option linter.unusedSimpArgs false
set_option linter.unusedSectionVars false
def lf13R (nn kk ll cc : Nat) (AA : Option Addr) (ss : ByteArray) : Nat → Value → World → Prop
  | 0 => fun x_ _ => x_ = (Value.bool true)
  | 1 => fun x_ _ => x_ = (Value.bool true)
  | 2 => fun x_ _ => x_ = (Value.int IntKind.i64 (kk : Int))
  | 3 => fun x_ _ => x_ = (Value.int IntKind.u64 (nn : Int))
  | 4 => fun x_ _ => x_ = (Value.int IntKind.i64 (kk : Int))
  | 5 => fun x_ _ => x_ = (Value.bool true)
  | 6 => fun x_ _ => x_ = (Value.bool true)
  | 7 => fun x_ _ => x_ = (Value.bool true)
  | 8 => fun x_ _ => x_ = (Value.int IntKind.u64 (nn : Int))
  | 9 => fun x_ _ => x_ = (Value.string ss)
  | 10 => fun x_ _ => x_ = (Value.slice AA ll cc)
  | 11 => fun x_ _ => x_ = (Value.int IntKind.i64 (kk : Int))
  | 12 => fun x_ _ => x_ = (Value.slice AA kk cc)
  | 13 => fun x_ _ => x_ = (Value.string ss)
  | 14 => fun x_ _ => x_ = (Value.bool true)
  | 15 => fun x_ _ => x_ = (Value.bool true)
  | 16 => fun x_ _ => x_ = (Value.bool true)
  | _ => fun _ _ => True
theorem lf13_stable (nn kk ll cc : Nat) (AA : Option Addr) (ss : ByteArray) : ∀ i_ u_ w_ w_', (lf13R nn kk ll cc AA ss) i_ u_ w_ → Below w_.heap.size w_ w_' → (lf13R nn kk ll cc AA ss) i_ u_ w_' := fun i_ u_ w_ w_' h_ hb_ => by
  match i_, h_ with
  | 0, h_ => exact h_
  | 1, h_ => exact h_
  | 2, h_ => exact h_
  | 3, h_ => exact h_
  | 4, h_ => exact h_
  | 5, h_ => exact h_
  | 6, h_ => exact h_
  | 7, h_ => exact h_
  | 8, h_ => exact h_
  | 9, h_ => exact h_
  | 10, h_ => exact h_
  | 11, h_ => exact h_
  | 12, h_ => exact h_
  | 13, h_ => exact h_
  | 14, h_ => exact h_
  | 15, h_ => exact h_
  | 16, h_ => exact h_
  | (_ + 17), _ => trivial
section
variable (nn kk ll cc : Nat) (AA : Option Addr) (ss : ByteArray) (w0 : World) (a0 : Act)
variable (hss : ∀ W : World, Calls Try.prog 14 #[(Value.int IntKind.u64 (nn : Int))] W fun e w' => e = .returned (Value.int IntKind.i64 (kk : Int)) ∧ w' = W)
variable (hst : ∀ W : World, Calls Try.prog 30 #[(Value.int IntKind.u64 (nn : Int))] W fun e w' => e = .returned (.string ss) ∧ Below W.heap.size W w')
variable (cs : ∀ W : World, (Instr.slice 24 (.slice AA ll cc) none (some (.int .i64 (kk : Int))) none).run Try.prog W = .ok (.slice AA kk cc) W)
variable (c2 : ∀ W, Below w0.heap.size w0 W → (convert 24 9 (.slice AA kk cc)).run Try.prog W = .ok (.string ss) W)
variable (i2 : a0.eval (.tmp 2) = (Value.slice AA ll cc)) (i7 : a0.eval (.tmp 7) = (Value.bool true)) (i12 : a0.eval (.tmp 12) = (Value.int IntKind.u64 (nn : Int))) (i14 : a0.eval (.tmp 14) = (Value.int IntKind.i64 (kk : Int))) (hsz : a0.tmps.size = 103)
include nn kk ll cc AA ss w0 a0 hss hst cs c2 i2 i7 i12 i14 hsz
set_option maxHeartbeats 4000000 in
set_option maxRecDepth 20000 in
theorem lf13_h0 :
    Reg.OpOK Try.prog (Reg.opsOf Try.f5 13) a0 w0 (lf13R nn kk ll cc AA ss) (fun _ _ _ _ => True) 0 := by
    refine Reg.op_ok2 (fun af => { dst := some 87, op := Op.move (Operand.tmp 7), type := 4, pos := "outright.go:119", after := af, guard := none }) #[] (by kernel_rfl) [] (by kernel_rfl) fun af v W hb hd => ?_
    have e7 := (Reg.gfr_eval0 (ops := (Reg.opsOf Try.f5 13)) (a0 := a0) (v := v) (L := []) 7 (by kernel_rfl)).trans i7
    refine ⟨Reg.wanted_none rfl, ?_⟩
    generalize Reg.gfr (Reg.opsOf Try.f5 13) a0 v [] = G at e7 ⊢
    generalize hρ : G.eval = ρ at e7
    have hρ' : G.eval = ρ := hρ
    refine Reg.go_run (Value.bool true) W ?_ ?_
    · rw [hρ']; simp [execOp, go_sem, e7]
    · exact ⟨Below.refl _ _, rfl⟩
set_option maxHeartbeats 4000000 in
set_option maxRecDepth 20000 in
theorem lf13_h1 :
    Reg.OpOK Try.prog (Reg.opsOf Try.f5 13) a0 w0 (lf13R nn kk ll cc AA ss) (fun _ _ _ _ => True) 1 := by
    refine Reg.op_ok2 (fun af => { dst := some 88, op := Op.move (Operand.tmp 87), type := 4, pos := "outright.go:119", after := af, guard := none }) #[{ on := 0, ground := Ground.data }] (by kernel_rfl) [0] (by kernel_rfl) fun af v W hb hd => ?_
    have d0 : v 0 = (Value.bool true) := hd 0 (by decide)
    have e87 := (Reg.gfr_eval (ops := (Reg.opsOf Try.f5 13)) (a0 := a0) (v := v) (L := [0]) 87 0 (by kernel_rfl) (by rw [hsz]; omega)).trans d0
    refine ⟨Reg.wanted_none rfl, ?_⟩
    generalize Reg.gfr (Reg.opsOf Try.f5 13) a0 v [0] = G at e87 ⊢
    generalize hρ : G.eval = ρ at e87
    have hρ' : G.eval = ρ := hρ
    refine Reg.go_run (Value.bool true) W ?_ ?_
    · rw [hρ']; simp [execOp, go_sem, e87]
    · exact ⟨Below.refl _ _, rfl⟩
set_option maxHeartbeats 4000000 in
set_option maxRecDepth 20000 in
theorem lf13_h2 :
    Reg.OpOK Try.prog (Reg.opsOf Try.f5 13) a0 w0 (lf13R nn kk ll cc AA ss) (fun _ _ _ _ => True) 2 := by
    refine Reg.op_ok2 (fun af => { dst := some 89, op := Op.move (Operand.tmp 14), type := 3, pos := "outright.go:119", after := af, guard := some (1, true) }) #[{ on := 1, ground := Ground.guard }] (by kernel_rfl) [1] (by kernel_rfl) fun af v W hb hd => ?_
    have d1 : v 1 = (Value.bool true) := hd 1 (by decide)
    have e14 := (Reg.gfr_eval0 (ops := (Reg.opsOf Try.f5 13)) (a0 := a0) (v := v) (L := [1]) 14 (by kernel_rfl)).trans i14
    have e88 := (Reg.gfr_eval (ops := (Reg.opsOf Try.f5 13)) (a0 := a0) (v := v) (L := [1]) 88 1 (by kernel_rfl) (by rw [hsz]; omega)).trans d1
    refine ⟨Reg.wanted_of rfl (by kernel_rfl) e88, ?_⟩
    generalize Reg.gfr (Reg.opsOf Try.f5 13) a0 v [1] = G at e14 ⊢
    generalize hρ : G.eval = ρ at e14
    have hρ' : G.eval = ρ := hρ
    refine Reg.go_run (Value.int IntKind.i64 (kk : Int)) W ?_ ?_
    · rw [hρ']; simp [execOp, go_sem, e14]
    · exact ⟨Below.refl _ _, rfl⟩
set_option maxHeartbeats 4000000 in
set_option maxRecDepth 20000 in
theorem lf13_h3 :
    Reg.OpOK Try.prog (Reg.opsOf Try.f5 13) a0 w0 (lf13R nn kk ll cc AA ss) (fun _ _ _ _ => True) 3 := by
    refine Reg.op_ok2 (fun af => { dst := some 90, op := Op.move (Operand.tmp 12), type := 28, pos := "outright.go:119", after := af, guard := some (1, true) }) #[{ on := 1, ground := Ground.guard }] (by kernel_rfl) [1] (by kernel_rfl) fun af v W hb hd => ?_
    have d1 : v 1 = (Value.bool true) := hd 1 (by decide)
    have e12 := (Reg.gfr_eval0 (ops := (Reg.opsOf Try.f5 13)) (a0 := a0) (v := v) (L := [1]) 12 (by kernel_rfl)).trans i12
    have e88 := (Reg.gfr_eval (ops := (Reg.opsOf Try.f5 13)) (a0 := a0) (v := v) (L := [1]) 88 1 (by kernel_rfl) (by rw [hsz]; omega)).trans d1
    refine ⟨Reg.wanted_of rfl (by kernel_rfl) e88, ?_⟩
    generalize Reg.gfr (Reg.opsOf Try.f5 13) a0 v [1] = G at e12 ⊢
    generalize hρ : G.eval = ρ at e12
    have hρ' : G.eval = ρ := hρ
    refine Reg.go_run (Value.int IntKind.u64 (nn : Int)) W ?_ ?_
    · rw [hρ']; simp [execOp, go_sem, e12]
    · exact ⟨Below.refl _ _, rfl⟩
set_option maxHeartbeats 4000000 in
set_option maxRecDepth 20000 in
theorem lf13_h4 :
    Reg.OpOK Try.prog (Reg.opsOf Try.f5 13) a0 w0 (lf13R nn kk ll cc AA ss) (fun _ _ _ _ => True) 4 := by
    refine Reg.op_ok2 (fun af => { dst := some 91, op := Op.call { callee := Callee.value (Operand.func 14), args := #[Operand.tmp 90], argTypes := #[28] }, type := 3, pos := "outright.go:119", after := af, guard := some (1, true) }) #[{ on := 3, ground := Ground.data }, { on := 1, ground := Ground.chain }, { on := 1, ground := Ground.guard }] (by kernel_rfl) [3, 1, 1] (by kernel_rfl) fun af v W hb hd => ?_
    have d1 : v 1 = (Value.bool true) := hd 1 (by decide)
    have d3 : v 3 = (Value.int IntKind.u64 (nn : Int)) := hd 3 (by decide)
    have e90 := (Reg.gfr_eval (ops := (Reg.opsOf Try.f5 13)) (a0 := a0) (v := v) (L := [3, 1, 1]) 90 3 (by kernel_rfl) (by rw [hsz]; omega)).trans d3
    have e88 := (Reg.gfr_eval (ops := (Reg.opsOf Try.f5 13)) (a0 := a0) (v := v) (L := [3, 1, 1]) 88 1 (by kernel_rfl) (by rw [hsz]; omega)).trans d1
    refine ⟨Reg.wanted_of rfl (by kernel_rfl) e88, ?_⟩
    have eF : ∀ f, (Reg.gfr (Reg.opsOf Try.f5 13) a0 v [3, 1, 1]).eval (.func f) = .func (.func f) #[] #[] := fun _ => rfl
    generalize Reg.gfr (Reg.opsOf Try.f5 13) a0 v [3, 1, 1] = G at e90 eF ⊢
    generalize hρ : G.eval = ρ at e90 eF
    have hρ' : G.eval = ρ := hρ
    refine Reg.go_call 14 #[(Value.int IntKind.u64 (nn : Int))] (by rw [hρ']; simp [execOp, go_sem, e90, eF]) ((hss W).mono fun e w' he => ?_)
    obtain ⟨rfl, hw_⟩ := he
    subst hw_
    exact ⟨_, rfl, Below.refl _ _, rfl⟩
set_option maxHeartbeats 4000000 in
set_option maxRecDepth 20000 in
theorem lf13_h5 :
    Reg.OpOK Try.prog (Reg.opsOf Try.f5 13) a0 w0 (lf13R nn kk ll cc AA ss) (fun _ _ _ _ => True) 5 := by
    refine Reg.op_ok2 (fun af => { dst := some 92, op := Op.binOp BinOp.eql 3 (Operand.tmp 89) (Operand.tmp 91) 3, type := 4, pos := "outright.go:119", after := af, guard := some (1, true) }) #[{ on := 2, ground := Ground.data }, { on := 4, ground := Ground.data }, { on := 1, ground := Ground.guard }] (by kernel_rfl) [2, 4, 1] (by kernel_rfl) fun af v W hb hd => ?_
    have d1 : v 1 = (Value.bool true) := hd 1 (by decide)
    have d2 : v 2 = (Value.int IntKind.i64 (kk : Int)) := hd 2 (by decide)
    have d4 : v 4 = (Value.int IntKind.i64 (kk : Int)) := hd 4 (by decide)
    have e89 := (Reg.gfr_eval (ops := (Reg.opsOf Try.f5 13)) (a0 := a0) (v := v) (L := [2, 4, 1]) 89 2 (by kernel_rfl) (by rw [hsz]; omega)).trans d2
    have e91 := (Reg.gfr_eval (ops := (Reg.opsOf Try.f5 13)) (a0 := a0) (v := v) (L := [2, 4, 1]) 91 4 (by kernel_rfl) (by rw [hsz]; omega)).trans d4
    have e88 := (Reg.gfr_eval (ops := (Reg.opsOf Try.f5 13)) (a0 := a0) (v := v) (L := [2, 4, 1]) 88 1 (by kernel_rfl) (by rw [hsz]; omega)).trans d1
    refine ⟨Reg.wanted_of rfl (by kernel_rfl) e88, ?_⟩
    generalize Reg.gfr (Reg.opsOf Try.f5 13) a0 v [2, 4, 1] = G at e89 e91 ⊢
    generalize hρ : G.eval = ρ at e89 e91
    have hρ' : G.eval = ρ := hρ
    refine Reg.go_run (Value.bool true) W ?_ ?_
    · rw [hρ']; simp [execOp, go_sem, e89, e91]
    · exact ⟨Below.refl _ _, rfl⟩
set_option maxHeartbeats 4000000 in
set_option maxRecDepth 20000 in
theorem lf13_h6 :
    Reg.OpOK Try.prog (Reg.opsOf Try.f5 13) a0 w0 (lf13R nn kk ll cc AA ss) (fun _ _ _ _ => True) 6 := by
    refine Reg.op_ok2 (fun af => { dst := some 93, op := Op.pick (Operand.tmp 88) (Operand.tmp 92) (Operand.const (Value.bool false)), type := 4, pos := "outright.go:119", after := af, guard := none }) #[{ on := 1, ground := Ground.data }, { on := 5, ground := Ground.data }] (by kernel_rfl) [1, 5] (by kernel_rfl) fun af v W hb hd => ?_
    have d1 : v 1 = (Value.bool true) := hd 1 (by decide)
    have d5 : v 5 = (Value.bool true) := hd 5 (by decide)
    have e88 := (Reg.gfr_eval (ops := (Reg.opsOf Try.f5 13)) (a0 := a0) (v := v) (L := [1, 5]) 88 1 (by kernel_rfl) (by rw [hsz]; omega)).trans d1
    have e92 := (Reg.gfr_eval (ops := (Reg.opsOf Try.f5 13)) (a0 := a0) (v := v) (L := [1, 5]) 92 5 (by kernel_rfl) (by rw [hsz]; omega)).trans d5
    refine ⟨Reg.wanted_none rfl, ?_⟩
    have eC : ∀ x, (Reg.gfr (Reg.opsOf Try.f5 13) a0 v [1, 5]).eval (.const x) = x := fun _ => rfl
    generalize Reg.gfr (Reg.opsOf Try.f5 13) a0 v [1, 5] = G at e88 e92 eC ⊢
    generalize hρ : G.eval = ρ at e88 e92 eC
    have hρ' : G.eval = ρ := hρ
    refine Reg.go_run (Value.bool true) W ?_ ?_
    · rw [hρ']; simp [execOp, go_sem, e88, e92, eC]
    · exact ⟨Below.refl _ _, rfl⟩
set_option maxHeartbeats 4000000 in
set_option maxRecDepth 20000 in
theorem lf13_h7 :
    Reg.OpOK Try.prog (Reg.opsOf Try.f5 13) a0 w0 (lf13R nn kk ll cc AA ss) (fun _ _ _ _ => True) 7 := by
    refine Reg.op_ok2 (fun af => { dst := some 94, op := Op.move (Operand.tmp 93), type := 4, pos := "outright.go:119", after := af, guard := none }) #[{ on := 6, ground := Ground.data }, { on := 4, ground := Ground.chain }] (by kernel_rfl) [6, 4] (by kernel_rfl) fun af v W hb hd => ?_
    have d6 : v 6 = (Value.bool true) := hd 6 (by decide)
    have e93 := (Reg.gfr_eval (ops := (Reg.opsOf Try.f5 13)) (a0 := a0) (v := v) (L := [6, 4]) 93 6 (by kernel_rfl) (by rw [hsz]; omega)).trans d6
    refine ⟨Reg.wanted_none rfl, ?_⟩
    generalize Reg.gfr (Reg.opsOf Try.f5 13) a0 v [6, 4] = G at e93 ⊢
    generalize hρ : G.eval = ρ at e93
    have hρ' : G.eval = ρ := hρ
    refine Reg.go_run (Value.bool true) W ?_ ?_
    · rw [hρ']; simp [execOp, go_sem, e93]
    · exact ⟨Below.refl _ _, rfl⟩
set_option maxHeartbeats 4000000 in
set_option maxRecDepth 20000 in
theorem lf13_h8 :
    Reg.OpOK Try.prog (Reg.opsOf Try.f5 13) a0 w0 (lf13R nn kk ll cc AA ss) (fun _ _ _ _ => True) 8 := by
    refine Reg.op_ok2 (fun af => { dst := some 95, op := Op.move (Operand.tmp 12), type := 28, pos := "outright.go:119", after := af, guard := some (7, true) }) #[{ on := 7, ground := Ground.guard }] (by kernel_rfl) [7] (by kernel_rfl) fun af v W hb hd => ?_
    have d7 : v 7 = (Value.bool true) := hd 7 (by decide)
    have e12 := (Reg.gfr_eval0 (ops := (Reg.opsOf Try.f5 13)) (a0 := a0) (v := v) (L := [7]) 12 (by kernel_rfl)).trans i12
    have e94 := (Reg.gfr_eval (ops := (Reg.opsOf Try.f5 13)) (a0 := a0) (v := v) (L := [7]) 94 7 (by kernel_rfl) (by rw [hsz]; omega)).trans d7
    refine ⟨Reg.wanted_of rfl (by kernel_rfl) e94, ?_⟩
    generalize Reg.gfr (Reg.opsOf Try.f5 13) a0 v [7] = G at e12 ⊢
    generalize hρ : G.eval = ρ at e12
    have hρ' : G.eval = ρ := hρ
    refine Reg.go_run (Value.int IntKind.u64 (nn : Int)) W ?_ ?_
    · rw [hρ']; simp [execOp, go_sem, e12]
    · exact ⟨Below.refl _ _, rfl⟩
set_option maxHeartbeats 4000000 in
set_option maxRecDepth 20000 in
theorem lf13_h9 :
    Reg.OpOK Try.prog (Reg.opsOf Try.f5 13) a0 w0 (lf13R nn kk ll cc AA ss) (fun _ _ _ _ => True) 9 := by
    refine Reg.op_ok2 (fun af => { dst := some 96, op := Op.call { callee := Callee.value (Operand.func 30), args := #[Operand.tmp 95], argTypes := #[28] }, type := 9, pos := "outright.go:119", after := af, guard := some (7, true) }) #[{ on := 8, ground := Ground.data }, { on := 7, ground := Ground.chain }, { on := 7, ground := Ground.guard }] (by kernel_rfl) [8, 7, 7] (by kernel_rfl) fun af v W hb hd => ?_
    have d7 : v 7 = (Value.bool true) := hd 7 (by decide)
    have d8 : v 8 = (Value.int IntKind.u64 (nn : Int)) := hd 8 (by decide)
    have e95 := (Reg.gfr_eval (ops := (Reg.opsOf Try.f5 13)) (a0 := a0) (v := v) (L := [8, 7, 7]) 95 8 (by kernel_rfl) (by rw [hsz]; omega)).trans d8
    have e94 := (Reg.gfr_eval (ops := (Reg.opsOf Try.f5 13)) (a0 := a0) (v := v) (L := [8, 7, 7]) 94 7 (by kernel_rfl) (by rw [hsz]; omega)).trans d7
    refine ⟨Reg.wanted_of rfl (by kernel_rfl) e94, ?_⟩
    have eF : ∀ f, (Reg.gfr (Reg.opsOf Try.f5 13) a0 v [8, 7, 7]).eval (.func f) = .func (.func f) #[] #[] := fun _ => rfl
    generalize Reg.gfr (Reg.opsOf Try.f5 13) a0 v [8, 7, 7] = G at e95 eF ⊢
    generalize hρ : G.eval = ρ at e95 eF
    have hρ' : G.eval = ρ := hρ
    refine Reg.go_call 30 #[(Value.int IntKind.u64 (nn : Int))] (by rw [hρ']; simp [execOp, go_sem, e95, eF]) ((hst W).mono fun e w' he => ?_)
    obtain ⟨rfl, hb_⟩ := he
    exact ⟨_, rfl, hb_, rfl⟩
set_option maxHeartbeats 4000000 in
set_option maxRecDepth 20000 in
theorem lf13_h10 :
    Reg.OpOK Try.prog (Reg.opsOf Try.f5 13) a0 w0 (lf13R nn kk ll cc AA ss) (fun _ _ _ _ => True) 10 := by
    refine Reg.op_ok2 (fun af => { dst := some 97, op := Op.move (Operand.tmp 2), type := 24, pos := "outright.go:119", after := af, guard := some (7, true) }) #[{ on := 7, ground := Ground.guard }] (by kernel_rfl) [7] (by kernel_rfl) fun af v W hb hd => ?_
    have d7 : v 7 = (Value.bool true) := hd 7 (by decide)
    have e2 := (Reg.gfr_eval0 (ops := (Reg.opsOf Try.f5 13)) (a0 := a0) (v := v) (L := [7]) 2 (by kernel_rfl)).trans i2
    have e94 := (Reg.gfr_eval (ops := (Reg.opsOf Try.f5 13)) (a0 := a0) (v := v) (L := [7]) 94 7 (by kernel_rfl) (by rw [hsz]; omega)).trans d7
    refine ⟨Reg.wanted_of rfl (by kernel_rfl) e94, ?_⟩
    generalize Reg.gfr (Reg.opsOf Try.f5 13) a0 v [7] = G at e2 ⊢
    generalize hρ : G.eval = ρ at e2
    have hρ' : G.eval = ρ := hρ
    refine Reg.go_run (Value.slice AA ll cc) W ?_ ?_
    · rw [hρ']; simp [execOp, go_sem, e2]
    · exact ⟨Below.refl _ _, rfl⟩
set_option maxHeartbeats 4000000 in
set_option maxRecDepth 20000 in
theorem lf13_h11 :
    Reg.OpOK Try.prog (Reg.opsOf Try.f5 13) a0 w0 (lf13R nn kk ll cc AA ss) (fun _ _ _ _ => True) 11 := by
    refine Reg.op_ok2 (fun af => { dst := some 98, op := Op.move (Operand.tmp 14), type := 3, pos := "outright.go:119", after := af, guard := some (7, true) }) #[{ on := 7, ground := Ground.guard }] (by kernel_rfl) [7] (by kernel_rfl) fun af v W hb hd => ?_
    have d7 : v 7 = (Value.bool true) := hd 7 (by decide)
    have e14 := (Reg.gfr_eval0 (ops := (Reg.opsOf Try.f5 13)) (a0 := a0) (v := v) (L := [7]) 14 (by kernel_rfl)).trans i14
    have e94 := (Reg.gfr_eval (ops := (Reg.opsOf Try.f5 13)) (a0 := a0) (v := v) (L := [7]) 94 7 (by kernel_rfl) (by rw [hsz]; omega)).trans d7
    refine ⟨Reg.wanted_of rfl (by kernel_rfl) e94, ?_⟩
    generalize Reg.gfr (Reg.opsOf Try.f5 13) a0 v [7] = G at e14 ⊢
    generalize hρ : G.eval = ρ at e14
    have hρ' : G.eval = ρ := hρ
    refine Reg.go_run (Value.int IntKind.i64 (kk : Int)) W ?_ ?_
    · rw [hρ']; simp [execOp, go_sem, e14]
    · exact ⟨Below.refl _ _, rfl⟩
set_option maxHeartbeats 4000000 in
set_option maxRecDepth 20000 in
theorem lf13_h12 :
    Reg.OpOK Try.prog (Reg.opsOf Try.f5 13) a0 w0 (lf13R nn kk ll cc AA ss) (fun _ _ _ _ => True) 12 := by
    refine Reg.op_ok2 (fun af => { dst := some 99, op := Op.slice 24 (Operand.tmp 97) none (some (Operand.tmp 98)) none, type := 24, pos := "outright.go:119", after := af, guard := some (7, true) }) #[{ on := 10, ground := Ground.data }, { on := 11, ground := Ground.data }, { on := 7, ground := Ground.guard }] (by kernel_rfl) [10, 11, 7] (by kernel_rfl) fun af v W hb hd => ?_
    have d7 : v 7 = (Value.bool true) := hd 7 (by decide)
    have d10 : v 10 = (Value.slice AA ll cc) := hd 10 (by decide)
    have d11 : v 11 = (Value.int IntKind.i64 (kk : Int)) := hd 11 (by decide)
    have e97 := (Reg.gfr_eval (ops := (Reg.opsOf Try.f5 13)) (a0 := a0) (v := v) (L := [10, 11, 7]) 97 10 (by kernel_rfl) (by rw [hsz]; omega)).trans d10
    have e98 := (Reg.gfr_eval (ops := (Reg.opsOf Try.f5 13)) (a0 := a0) (v := v) (L := [10, 11, 7]) 98 11 (by kernel_rfl) (by rw [hsz]; omega)).trans d11
    have e94 := (Reg.gfr_eval (ops := (Reg.opsOf Try.f5 13)) (a0 := a0) (v := v) (L := [10, 11, 7]) 94 7 (by kernel_rfl) (by rw [hsz]; omega)).trans d7
    refine ⟨Reg.wanted_of rfl (by kernel_rfl) e94, ?_⟩
    generalize Reg.gfr (Reg.opsOf Try.f5 13) a0 v [10, 11, 7] = G at e97 e98 ⊢
    generalize hρ : G.eval = ρ at e97 e98
    have hρ' : G.eval = ρ := hρ
    refine Reg.go_run (Value.slice AA kk cc) W ?_ ?_
    · rw [hρ']; simp [execOp, go_sem, e97, e98, cs]
    · exact ⟨Below.refl _ _, rfl⟩
set_option maxHeartbeats 4000000 in
set_option maxRecDepth 20000 in
theorem lf13_h13 :
    Reg.OpOK Try.prog (Reg.opsOf Try.f5 13) a0 w0 (lf13R nn kk ll cc AA ss) (fun _ _ _ _ => True) 13 := by
    refine Reg.op_ok2 (fun af => { dst := some 100, op := Op.convert 24 9 (Operand.tmp 99), type := 9, pos := "outright.go:119", after := af, guard := some (7, true) }) #[{ on := 12, ground := Ground.data }, { on := 7, ground := Ground.guard }] (by kernel_rfl) [12, 7] (by kernel_rfl) fun af v W hb hd => ?_
    have d7 : v 7 = (Value.bool true) := hd 7 (by decide)
    have d12 : v 12 = (Value.slice AA kk cc) := hd 12 (by decide)
    have e99 := (Reg.gfr_eval (ops := (Reg.opsOf Try.f5 13)) (a0 := a0) (v := v) (L := [12, 7]) 99 12 (by kernel_rfl) (by rw [hsz]; omega)).trans d12
    have e94 := (Reg.gfr_eval (ops := (Reg.opsOf Try.f5 13)) (a0 := a0) (v := v) (L := [12, 7]) 94 7 (by kernel_rfl) (by rw [hsz]; omega)).trans d7
    refine ⟨Reg.wanted_of rfl (by kernel_rfl) e94, ?_⟩
    generalize Reg.gfr (Reg.opsOf Try.f5 13) a0 v [12, 7] = G at e99 ⊢
    generalize hρ : G.eval = ρ at e99
    have hρ' : G.eval = ρ := hρ
    refine Reg.go_run (Value.string ss) W ?_ ?_
    · rw [hρ']; simp [execOp, go_sem, e99, c2 W hb]
    · exact ⟨Below.refl _ _, rfl⟩
set_option maxHeartbeats 4000000 in
set_option maxRecDepth 20000 in
theorem lf13_h14 :
    Reg.OpOK Try.prog (Reg.opsOf Try.f5 13) a0 w0 (lf13R nn kk ll cc AA ss) (fun _ _ _ _ => True) 14 := by
    refine Reg.op_ok2 (fun af => { dst := some 101, op := Op.binOp BinOp.eql 9 (Operand.tmp 96) (Operand.tmp 100) 9, type := 4, pos := "outright.go:119", after := af, guard := some (7, true) }) #[{ on := 9, ground := Ground.data }, { on := 13, ground := Ground.data }, { on := 7, ground := Ground.guard }] (by kernel_rfl) [9, 13, 7] (by kernel_rfl) fun af v W hb hd => ?_
    have d7 : v 7 = (Value.bool true) := hd 7 (by decide)
    have d9 : v 9 = (Value.string ss) := hd 9 (by decide)
    have d13 : v 13 = (Value.string ss) := hd 13 (by decide)
    have e96 := (Reg.gfr_eval (ops := (Reg.opsOf Try.f5 13)) (a0 := a0) (v := v) (L := [9, 13, 7]) 96 9 (by kernel_rfl) (by rw [hsz]; omega)).trans d9
    have e100 := (Reg.gfr_eval (ops := (Reg.opsOf Try.f5 13)) (a0 := a0) (v := v) (L := [9, 13, 7]) 100 13 (by kernel_rfl) (by rw [hsz]; omega)).trans d13
    have e94 := (Reg.gfr_eval (ops := (Reg.opsOf Try.f5 13)) (a0 := a0) (v := v) (L := [9, 13, 7]) 94 7 (by kernel_rfl) (by rw [hsz]; omega)).trans d7
    refine ⟨Reg.wanted_of rfl (by kernel_rfl) e94, ?_⟩
    generalize Reg.gfr (Reg.opsOf Try.f5 13) a0 v [9, 13, 7] = G at e96 e100 ⊢
    generalize hρ : G.eval = ρ at e96 e100
    have hρ' : G.eval = ρ := hρ
    refine Reg.go_run (Value.bool true) W ?_ ?_
    · rw [hρ']; simp [execOp, go_sem, e96, e100]
    · exact ⟨Below.refl _ _, rfl⟩
set_option maxHeartbeats 4000000 in
set_option maxRecDepth 20000 in
theorem lf13_h15 :
    Reg.OpOK Try.prog (Reg.opsOf Try.f5 13) a0 w0 (lf13R nn kk ll cc AA ss) (fun _ _ _ _ => True) 15 := by
    refine Reg.op_ok2 (fun af => { dst := some 102, op := Op.pick (Operand.tmp 94) (Operand.tmp 101) (Operand.const (Value.bool false)), type := 4, pos := "outright.go:119", after := af, guard := none }) #[{ on := 7, ground := Ground.data }, { on := 14, ground := Ground.data }] (by kernel_rfl) [7, 14] (by kernel_rfl) fun af v W hb hd => ?_
    have d7 : v 7 = (Value.bool true) := hd 7 (by decide)
    have d14 : v 14 = (Value.bool true) := hd 14 (by decide)
    have e94 := (Reg.gfr_eval (ops := (Reg.opsOf Try.f5 13)) (a0 := a0) (v := v) (L := [7, 14]) 94 7 (by kernel_rfl) (by rw [hsz]; omega)).trans d7
    have e101 := (Reg.gfr_eval (ops := (Reg.opsOf Try.f5 13)) (a0 := a0) (v := v) (L := [7, 14]) 101 14 (by kernel_rfl) (by rw [hsz]; omega)).trans d14
    refine ⟨Reg.wanted_none rfl, ?_⟩
    have eC : ∀ x, (Reg.gfr (Reg.opsOf Try.f5 13) a0 v [7, 14]).eval (.const x) = x := fun _ => rfl
    generalize Reg.gfr (Reg.opsOf Try.f5 13) a0 v [7, 14] = G at e94 e101 eC ⊢
    generalize hρ : G.eval = ρ at e94 e101 eC
    have hρ' : G.eval = ρ := hρ
    refine Reg.go_run (Value.bool true) W ?_ ?_
    · rw [hρ']; simp [execOp, go_sem, e94, e101, eC]
    · exact ⟨Below.refl _ _, rfl⟩
set_option maxHeartbeats 4000000 in
set_option maxRecDepth 20000 in
theorem lf13_h16 :
    Reg.OpOK Try.prog (Reg.opsOf Try.f5 13) a0 w0 (lf13R nn kk ll cc AA ss) (fun _ _ _ _ => True) 16 := by
    refine Reg.op_ok2 (fun af => { dst := some 6, op := Op.assign (Operand.tmp 102), type := 4, pos := "outright.go:119", after := af, guard := none }) #[{ on := 15, ground := Ground.data }, { on := 9, ground := Ground.chain }, { on := 0, ground := Ground.phase }, { on := 1, ground := Ground.phase }, { on := 2, ground := Ground.phase }, { on := 3, ground := Ground.phase }, { on := 4, ground := Ground.phase }, { on := 5, ground := Ground.phase }, { on := 6, ground := Ground.phase }, { on := 7, ground := Ground.phase }, { on := 8, ground := Ground.phase }, { on := 9, ground := Ground.phase }, { on := 10, ground := Ground.phase }, { on := 11, ground := Ground.phase }, { on := 12, ground := Ground.phase }, { on := 13, ground := Ground.phase }, { on := 14, ground := Ground.phase }, { on := 15, ground := Ground.phase }] (by kernel_rfl) [15, 9, 0, 1, 2, 3, 4, 5, 6, 7, 8, 9, 10, 11, 12, 13, 14, 15] (by kernel_rfl) fun af v W hb hd => ?_
    have d15 : v 15 = (Value.bool true) := hd 15 (by decide)
    have e102 := (Reg.gfr_eval (ops := (Reg.opsOf Try.f5 13)) (a0 := a0) (v := v) (L := [15, 9, 0, 1, 2, 3, 4, 5, 6, 7, 8, 9, 10, 11, 12, 13, 14, 15]) 102 15 (by kernel_rfl) (by rw [hsz]; omega)).trans d15
    refine ⟨Reg.wanted_none rfl, ?_⟩
    generalize Reg.gfr (Reg.opsOf Try.f5 13) a0 v [15, 9, 0, 1, 2, 3, 4, 5, 6, 7, 8, 9, 10, 11, 12, 13, 14, 15] = G at e102 ⊢
    generalize hρ : G.eval = ρ at e102
    have hρ' : G.eval = ρ := hρ
    refine Reg.go_run (Value.bool true) W ?_ ?_
    · rw [hρ']; simp [execOp, go_sem, e102]
    · exact ⟨Below.refl _ _, rfl⟩
end
set_option maxHeartbeats 4000000 in
set_option maxRecDepth 20000 in
theorem lf13 (nn kk ll cc : Nat) (AA : Option Addr) (ss : ByteArray) (w0 : World) {s0 s1 s3 s4 s5 s6 s8 s9 s10 s11 s13 s15 s16 s17 s18 s19 s20 s21 s22 s23 s24 s25 s26 s27 s28 s29 s30 s31 s32 s33 s34 s35 s36 s37 s38 s39 s40 s41 s42 s43 s44 s45 s46 s47 s48 s49 s50 s51 s52 s53 s54 s55 s56 s57 s58 s59 s60 s61 s62 s63 s64 s65 s66 s67 s68 s69 s70 s71 s72 s73 s74 s75 s76 s77 s78 s79 s80 s81 s82 s83 s84 s85 s86 s87 s88 s89 s90 s91 s92 s93 s94 s95 s96 s97 s98 s99 s100 s101 s102 : Value}
    (hss : ∀ W : World, Calls Try.prog 14 #[(Value.int IntKind.u64 (nn : Int))] W fun e w' => e = .returned (Value.int IntKind.i64 (kk : Int)) ∧ w' = W)
    (hst : ∀ W : World, Calls Try.prog 30 #[(Value.int IntKind.u64 (nn : Int))] W fun e w' => e = .returned (.string ss) ∧ Below W.heap.size W w')
    (cs : ∀ W : World, (Instr.slice 24 (.slice AA ll cc) none (some (.int .i64 (kk : Int))) none).run Try.prog W = .ok (.slice AA kk cc) W)
    (c2 : ∀ W, Below w0.heap.size w0 W → (convert 24 9 (.slice AA kk cc)).run Try.prog W = .ok (.string ss) W)
    {Q : Exit → Act → World → Prop}
    (hend : ∀ (w : World), Below w0.heap.size w0 w → Q .normal { tmps := #[s0, s1, (Value.slice AA ll cc), s3, s4, s5, (Value.bool true), (Value.bool true), s8, s9, s10, s11, (Value.int IntKind.u64 (nn : Int)), s13, (Value.int IntKind.i64 (kk : Int)), s15, s16, s17, s18, s19, s20, s21, s22, s23, s24, s25, s26, s27, s28, s29, s30, s31, s32, s33, s34, s35, s36, s37, s38, s39, s40, s41, s42, s43, s44, s45, s46, s47, s48, s49, s50, s51, s52, s53, s54, s55, s56, s57, s58, s59, s60, s61, s62, s63, s64, s65, s66, s67, s68, s69, s70, s71, s72, s73, s74, s75, s76, s77, s78, s79, s80, s81, s82, s83, s84, s85, s86, (Value.bool true), (Value.bool true), (Value.int IntKind.i64 (kk : Int)), (Value.int IntKind.u64 (nn : Int)), (Value.int IntKind.i64 (kk : Int)), (Value.bool true), (Value.bool true), (Value.bool true), (Value.int IntKind.u64 (nn : Int)), (Value.string ss), (Value.slice AA ll cc), (Value.int IntKind.i64 (kk : Int)), (Value.slice AA kk cc), (Value.string ss), (Value.bool true), (Value.bool true)], defers := [] } w) :
    (Code.region 13 (Reg.opsOf Try.f5 13) true).wp Try.prog Q { tmps := #[s0, s1, (Value.slice AA ll cc), s3, s4, s5, s6, (Value.bool true), s8, s9, s10, s11, (Value.int IntKind.u64 (nn : Int)), s13, (Value.int IntKind.i64 (kk : Int)), s15, s16, s17, s18, s19, s20, s21, s22, s23, s24, s25, s26, s27, s28, s29, s30, s31, s32, s33, s34, s35, s36, s37, s38, s39, s40, s41, s42, s43, s44, s45, s46, s47, s48, s49, s50, s51, s52, s53, s54, s55, s56, s57, s58, s59, s60, s61, s62, s63, s64, s65, s66, s67, s68, s69, s70, s71, s72, s73, s74, s75, s76, s77, s78, s79, s80, s81, s82, s83, s84, s85, s86, s87, s88, s89, s90, s91, s92, s93, s94, s95, s96, s97, s98, s99, s100, s101, s102], defers := [] } w0 := by
  obtain ⟨a0, ha0⟩ : ∃ a0 : Act, a0 = { tmps := #[s0, s1, (Value.slice AA ll cc), s3, s4, s5, s6, (Value.bool true), s8, s9, s10, s11, (Value.int IntKind.u64 (nn : Int)), s13, (Value.int IntKind.i64 (kk : Int)), s15, s16, s17, s18, s19, s20, s21, s22, s23, s24, s25, s26, s27, s28, s29, s30, s31, s32, s33, s34, s35, s36, s37, s38, s39, s40, s41, s42, s43, s44, s45, s46, s47, s48, s49, s50, s51, s52, s53, s54, s55, s56, s57, s58, s59, s60, s61, s62, s63, s64, s65, s66, s67, s68, s69, s70, s71, s72, s73, s74, s75, s76, s77, s78, s79, s80, s81, s82, s83, s84, s85, s86, s87, s88, s89, s90, s91, s92, s93, s94, s95, s96, s97, s98, s99, s100, s101, s102], defers := [] } := ⟨_, rfl⟩
  have hfin : ∀ v : Nat → Value, Reg.gfr (Reg.opsOf Try.f5 13) a0 v (List.range 17) = { tmps := #[s0, s1, (Value.slice AA ll cc), s3, s4, s5, v 16, (Value.bool true), s8, s9, s10, s11, (Value.int IntKind.u64 (nn : Int)), s13, (Value.int IntKind.i64 (kk : Int)), s15, s16, s17, s18, s19, s20, s21, s22, s23, s24, s25, s26, s27, s28, s29, s30, s31, s32, s33, s34, s35, s36, s37, s38, s39, s40, s41, s42, s43, s44, s45, s46, s47, s48, s49, s50, s51, s52, s53, s54, s55, s56, s57, s58, s59, s60, s61, s62, s63, s64, s65, s66, s67, s68, s69, s70, s71, s72, s73, s74, s75, s76, s77, s78, s79, s80, s81, s82, s83, s84, s85, s86, v 0, v 1, v 2, v 3, v 4, v 5, v 6, v 7, v 8, v 9, v 10, v 11, v 12, v 13, v 14, v 15], defers := [] } := fun v => by rw [ha0]; kernel_rfl
  rw [← ha0]
  have i2 : a0.eval (.tmp 2) = (Value.slice AA ll cc) := by rw [ha0]; rfl
  have i7 : a0.eval (.tmp 7) = (Value.bool true) := by rw [ha0]; rfl
  have i12 : a0.eval (.tmp 12) = (Value.int IntKind.u64 (nn : Int)) := by rw [ha0]; rfl
  have i14 : a0.eval (.tmp 14) = (Value.int IntKind.i64 (kk : Int)) := by rw [ha0]; rfl
  have hsz : a0.tmps.size = 103 := by rw [ha0]; rfl
  clear ha0
  have hn : (Reg.opsOf Try.f5 13).size = 17 := by kernel_rfl
  have h0 := lf13_h0 nn kk ll cc AA ss w0 a0 hss hst cs c2 i2 i7 i12 i14 hsz
  have h1 := lf13_h1 nn kk ll cc AA ss w0 a0 hss hst cs c2 i2 i7 i12 i14 hsz
  have h2 := lf13_h2 nn kk ll cc AA ss w0 a0 hss hst cs c2 i2 i7 i12 i14 hsz
  have h3 := lf13_h3 nn kk ll cc AA ss w0 a0 hss hst cs c2 i2 i7 i12 i14 hsz
  have h4 := lf13_h4 nn kk ll cc AA ss w0 a0 hss hst cs c2 i2 i7 i12 i14 hsz
  have h5 := lf13_h5 nn kk ll cc AA ss w0 a0 hss hst cs c2 i2 i7 i12 i14 hsz
  have h6 := lf13_h6 nn kk ll cc AA ss w0 a0 hss hst cs c2 i2 i7 i12 i14 hsz
  have h7 := lf13_h7 nn kk ll cc AA ss w0 a0 hss hst cs c2 i2 i7 i12 i14 hsz
  have h8 := lf13_h8 nn kk ll cc AA ss w0 a0 hss hst cs c2 i2 i7 i12 i14 hsz
  have h9 := lf13_h9 nn kk ll cc AA ss w0 a0 hss hst cs c2 i2 i7 i12 i14 hsz
  have h10 := lf13_h10 nn kk ll cc AA ss w0 a0 hss hst cs c2 i2 i7 i12 i14 hsz
  have h11 := lf13_h11 nn kk ll cc AA ss w0 a0 hss hst cs c2 i2 i7 i12 i14 hsz
  have h12 := lf13_h12 nn kk ll cc AA ss w0 a0 hss hst cs c2 i2 i7 i12 i14 hsz
  have h13 := lf13_h13 nn kk ll cc AA ss w0 a0 hss hst cs c2 i2 i7 i12 i14 hsz
  have h14 := lf13_h14 nn kk ll cc AA ss w0 a0 hss hst cs c2 i2 i7 i12 i14 hsz
  have h15 := lf13_h15 nn kk ll cc AA ss w0 a0 hss hst cs c2 i2 i7 i12 i14 hsz
  have h16 := lf13_h16 nn kk ll cc AA ss w0 a0 hss hst cs c2 i2 i7 i12 i14 hsz
  refine Reg.region_all (by kernel_rfl) (lf13R nn kk ll cc AA ss) (by rw [hn, hsz]; kernel_rfl) (lf13_stable nn kk ll cc AA ss) (fun i hi => ?_) (fun v w hb hR => ?_)
  · rw [hn] at hi
    match i, List.mem_range.1 hi with
    | 0, _ => exact h0
    | 1, _ => exact h1
    | 2, _ => exact h2
    | 3, _ => exact h3
    | 4, _ => exact h4
    | 5, _ => exact h5
    | 6, _ => exact h6
    | 7, _ => exact h7
    | 8, _ => exact h8
    | 9, _ => exact h9
    | 10, _ => exact h10
    | 11, _ => exact h11
    | 12, _ => exact h12
    | 13, _ => exact h13
    | 14, _ => exact h14
    | 15, _ => exact h15
    | 16, _ => exact h16
    | (_ + 17), h => omega
  · rw [hn] at hR ⊢
    have v0 : v 0 = (Value.bool true) := hR 0 (by decide)
    have v1 : v 1 = (Value.bool true) := hR 1 (by decide)
    have v2 : v 2 = (Value.int IntKind.i64 (kk : Int)) := hR 2 (by decide)
    have v3 : v 3 = (Value.int IntKind.u64 (nn : Int)) := hR 3 (by decide)
    have v4 : v 4 = (Value.int IntKind.i64 (kk : Int)) := hR 4 (by decide)
    have v5 : v 5 = (Value.bool true) := hR 5 (by decide)
    have v6 : v 6 = (Value.bool true) := hR 6 (by decide)
    have v7 : v 7 = (Value.bool true) := hR 7 (by decide)
    have v8 : v 8 = (Value.int IntKind.u64 (nn : Int)) := hR 8 (by decide)
    have v9 : v 9 = (Value.string ss) := hR 9 (by decide)
    have v10 : v 10 = (Value.slice AA ll cc) := hR 10 (by decide)
    have v11 : v 11 = (Value.int IntKind.i64 (kk : Int)) := hR 11 (by decide)
    have v12 : v 12 = (Value.slice AA kk cc) := hR 12 (by decide)
    have v13 : v 13 = (Value.string ss) := hR 13 (by decide)
    have v14 : v 14 = (Value.bool true) := hR 14 (by decide)
    have v15 : v 15 = (Value.bool true) := hR 15 (by decide)
    have v16 : v 16 = (Value.bool true) := hR 16 (by decide)
    rw [hfin v, v0, v1, v2, v3, v4, v5, v6, v7, v8, v9, v10, v11, v12, v13, v14, v15, v16]
    exact hend w  hb 
end Go.Proofs.Ytokfenogiajcgaa
