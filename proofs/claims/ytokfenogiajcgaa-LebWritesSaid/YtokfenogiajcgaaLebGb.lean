/- Regions that draw their order: their obligations (printed by regen2.py). -/
import Derived.Test.YtokfenogiajcgaaLebP
import Derived.Test.YtokfenogiajcgaaRegT
namespace Go.Proofs.Ytokfenogiajcgaa
open Go.RowKit
set_option linter.unusedVariables false
set_option linter.unusedSimpArgs false
set_option linter.unusedSectionVars false
def lw20R (ad pp : Addr) (nn cl k co oc : Nat) (ao oa : Option Addr) (ol : List UInt8) : Nat → Value → World → Prop
  | 0 => fun x_ _ => x_ = (Value.bool true)
  | 1 => fun x_ _ => x_ = (Value.bool false)
  | 2 => fun x_ _ => x_ = (Value.bool false)
  | 3 => fun x_ _ => x_ = (Value.slice ao ol.length co)
  | 4 => fun x_ _ => x_ = (Value.string (bstr ol))
  | 5 => fun x_ _ => x_ = (Value.slice (some ad) nn cl)
  | 6 => fun x_ _ => x_ = (Value.int IntKind.i64 (k : Int))
  | 7 => fun x_ _ => x_ = (Value.pointer (some pp))
  | 8 => fun x_ _ => x_ = (Value.pointer (some ⟨pp.block, pp.off + 3, none⟩))
  | 9 => fun x_ _ => x_ = (Value.slice oa ol.length oc)
  | 10 => fun x_ _ => x_ = (Value.string (bstr ol))
  | 11 => fun x_ _ => x_ = (Value.bool false)
  | 12 => fun x_ _ => x_ = (Value.bool false)
  | _ => fun _ _ => True
theorem lw20_stable (ad pp : Addr) (nn cl k co oc : Nat) (ao oa : Option Addr) (ol : List UInt8) : ∀ i_ u_ w_ w_', (lw20R ad pp nn cl k co oc ao oa ol) i_ u_ w_ → Below w_.heap.size w_ w_' → (lw20R ad pp nn cl k co oc ao oa ol) i_ u_ w_' := fun i_ u_ w_ w_' h_ hb_ => by
  match i_, h_ with
  | 0, h_ => exact h_
  | 1, h_ => exact h_
  | 2, h_ => exact h_
  | 3, h_ => exact h_
  | 4, h_ => exact h_
  | 5, h_ => exact h_
  | 6, h_ => exact h_
  | 7, h_ => exact h_
  | 8, h_ => exact h_
  | 9, h_ => exact h_
  | 10, h_ => exact h_
  | 11, h_ => exact h_
  | 12, h_ => exact h_
  | (_ + 13), _ => trivial
section
variable (ad pp : Addr) (nn cl k co oc : Nat) (ao oa : Option Addr) (ol : List UInt8) (w0 : World) (a0 : Act)
variable (hkl : k < nn) (hpp : ad.add (k * 4) = pp)
variable (c1 : ∀ W, Below w0.heap.size w0 W → (convert 24 9 (.slice ao ol.length co)).run Try.prog W = .ok (.string (bstr ol)) W)
variable (c2 : ∀ W, Below w0.heap.size w0 W → (convert 24 9 (.slice oa ol.length oc)).run Try.prog W = .ok (.string (bstr ol)) W)
variable (CN : ∀ W, Below w0.heap.size w0 W → W.cell? ⟨pp.block, pp.off + 3, none⟩ = some (Value.slice oa ol.length oc))
variable (i0 : a0.eval (.tmp 0) = (Value.slice (some ad) nn cl)) (i5 : a0.eval (.tmp 5) = (Value.int IntKind.i64 (k : Int))) (i6 : a0.eval (.tmp 6) = (Value.slice ao ol.length co)) (i7 : a0.eval (.tmp 7) = (Value.bool true)) (hsz : a0.tmps.size = 136)
include ad pp nn cl k co oc ao oa ol w0 a0 hkl hpp c1 c2 CN i0 i5 i6 i7 hsz
set_option maxHeartbeats 4000000 in
set_option maxRecDepth 20000 in
theorem lw20_h0 :
    Reg.OpOK Try.prog (Reg.opsOf Try.f3 20) a0 w0 (lw20R ad pp nn cl k co oc ao oa ol) (fun _ _ _ _ => True) 0 := by
    refine Reg.op_ok2 (fun af => { dst := some 87, op := Op.move (Operand.tmp 7), type := 4, pos := "law.go:46", after := af, guard := none }) #[] (by kernel_rfl) [] (by kernel_rfl) fun af v W hb hd => ?_
    have e7 := (Reg.gfr_eval0 (ops := (Reg.opsOf Try.f3 20)) (a0 := a0) (v := v) (L := []) 7 (by kernel_rfl)).trans i7
    refine ⟨Reg.wanted_none rfl, ?_⟩
    generalize Reg.gfr (Reg.opsOf Try.f3 20) a0 v [] = G at e7 ⊢
    generalize hρ : G.eval = ρ at e7
    have hρ' : G.eval = ρ := hρ
    refine Reg.go_run (Value.bool true) W ?_ ?_
    · rw [hρ']; simp [execOp, go_sem, e7]
    · exact ⟨Below.refl _ _, rfl⟩
set_option maxHeartbeats 4000000 in
set_option maxRecDepth 20000 in
theorem lw20_h1 :
    Reg.OpOK Try.prog (Reg.opsOf Try.f3 20) a0 w0 (lw20R ad pp nn cl k co oc ao oa ol) (fun _ _ _ _ => True) 1 := by
    refine Reg.op_ok2 (fun af => { dst := some 88, op := Op.unOp UnOp.not 4 (Operand.tmp 87), type := 4, pos := "law.go:46", after := af, guard := none }) #[{ on := 0, ground := Ground.data }] (by kernel_rfl) [0] (by kernel_rfl) fun af v W hb hd => ?_
    have d0 : v 0 = (Value.bool true) := hd 0 (by decide)
    have e87 := (Reg.gfr_eval (ops := (Reg.opsOf Try.f3 20)) (a0 := a0) (v := v) (L := [0]) 87 0 (by kernel_rfl) (by rw [hsz]; omega)).trans d0
    refine ⟨Reg.wanted_none rfl, ?_⟩
    generalize Reg.gfr (Reg.opsOf Try.f3 20) a0 v [0] = G at e87 ⊢
    generalize hρ : G.eval = ρ at e87
    have hρ' : G.eval = ρ := hρ
    refine Reg.go_run (Value.bool false) W ?_ ?_
    · rw [hρ']; simp [execOp, go_sem, e87]
    · exact ⟨Below.refl _ _, rfl⟩
set_option maxHeartbeats 4000000 in
set_option maxRecDepth 20000 in
theorem lw20_h2 :
    Reg.OpOK Try.prog (Reg.opsOf Try.f3 20) a0 w0 (lw20R ad pp nn cl k co oc ao oa ol) (fun _ _ _ _ => True) 2 := by
    refine Reg.op_ok2 (fun af => { dst := some 89, op := Op.move (Operand.tmp 88), type := 4, pos := "law.go:46", after := af, guard := none }) #[{ on := 1, ground := Ground.data }] (by kernel_rfl) [1] (by kernel_rfl) fun af v W hb hd => ?_
    have d1 : v 1 = (Value.bool false) := hd 1 (by decide)
    have e88 := (Reg.gfr_eval (ops := (Reg.opsOf Try.f3 20)) (a0 := a0) (v := v) (L := [1]) 88 1 (by kernel_rfl) (by rw [hsz]; omega)).trans d1
    refine ⟨Reg.wanted_none rfl, ?_⟩
    generalize Reg.gfr (Reg.opsOf Try.f3 20) a0 v [1] = G at e88 ⊢
    generalize hρ : G.eval = ρ at e88
    have hρ' : G.eval = ρ := hρ
    refine Reg.go_run (Value.bool false) W ?_ ?_
    · rw [hρ']; simp [execOp, go_sem, e88]
    · exact ⟨Below.refl _ _, rfl⟩
set_option maxHeartbeats 4000000 in
set_option maxRecDepth 20000 in
theorem lw20_h3 :
    Reg.OpOK Try.prog (Reg.opsOf Try.f3 20) a0 w0 (lw20R ad pp nn cl k co oc ao oa ol) (fun _ _ _ _ => True) 3 := by
    refine Reg.op_ok2 (fun af => { dst := some 90, op := Op.move (Operand.tmp 6), type := 24, pos := "law.go:46", after := af, guard := some (2, false) }) #[{ on := 2, ground := Ground.guard }] (by kernel_rfl) [2] (by kernel_rfl) fun af v W hb hd => ?_
    have d2 : v 2 = (Value.bool false) := hd 2 (by decide)
    have e6 := (Reg.gfr_eval0 (ops := (Reg.opsOf Try.f3 20)) (a0 := a0) (v := v) (L := [2]) 6 (by kernel_rfl)).trans i6
    have e89 := (Reg.gfr_eval (ops := (Reg.opsOf Try.f3 20)) (a0 := a0) (v := v) (L := [2]) 89 2 (by kernel_rfl) (by rw [hsz]; omega)).trans d2
    refine ⟨Reg.wanted_of rfl (by kernel_rfl) e89, ?_⟩
    generalize Reg.gfr (Reg.opsOf Try.f3 20) a0 v [2] = G at e6 ⊢
    generalize hρ : G.eval = ρ at e6
    have hρ' : G.eval = ρ := hρ
    refine Reg.go_run (Value.slice ao ol.length co) W ?_ ?_
    · rw [hρ']; simp [execOp, go_sem, e6]
    · exact ⟨Below.refl _ _, rfl⟩
set_option maxHeartbeats 4000000 in
set_option maxRecDepth 20000 in
theorem lw20_h4 :
    Reg.OpOK Try.prog (Reg.opsOf Try.f3 20) a0 w0 (lw20R ad pp nn cl k co oc ao oa ol) (fun _ _ _ _ => True) 4 := by
    refine Reg.op_ok2 (fun af => { dst := some 91, op := Op.convert 24 9 (Operand.tmp 90), type := 9, pos := "law.go:46", after := af, guard := some (2, false) }) #[{ on := 3, ground := Ground.data }, { on := 2, ground := Ground.guard }] (by kernel_rfl) [3, 2] (by kernel_rfl) fun af v W hb hd => ?_
    have d2 : v 2 = (Value.bool false) := hd 2 (by decide)
    have d3 : v 3 = (Value.slice ao ol.length co) := hd 3 (by decide)
    have e90 := (Reg.gfr_eval (ops := (Reg.opsOf Try.f3 20)) (a0 := a0) (v := v) (L := [3, 2]) 90 3 (by kernel_rfl) (by rw [hsz]; omega)).trans d3
    have e89 := (Reg.gfr_eval (ops := (Reg.opsOf Try.f3 20)) (a0 := a0) (v := v) (L := [3, 2]) 89 2 (by kernel_rfl) (by rw [hsz]; omega)).trans d2
    refine ⟨Reg.wanted_of rfl (by kernel_rfl) e89, ?_⟩
    generalize Reg.gfr (Reg.opsOf Try.f3 20) a0 v [3, 2] = G at e90 ⊢
    generalize hρ : G.eval = ρ at e90
    have hρ' : G.eval = ρ := hρ
    refine Reg.go_run (Value.string (bstr ol)) W ?_ ?_
    · rw [hρ']; simp [execOp, go_sem, e90, c1 W hb]
    · exact ⟨Below.refl _ _, rfl⟩
set_option maxHeartbeats 4000000 in
set_option maxRecDepth 20000 in
theorem lw20_h5 :
    Reg.OpOK Try.prog (Reg.opsOf Try.f3 20) a0 w0 (lw20R ad pp nn cl k co oc ao oa ol) (fun _ _ _ _ => True) 5 := by
    refine Reg.op_ok2 (fun af => { dst := some 92, op := Op.move (Operand.tmp 0), type := 22, pos := "law.go:46", after := af, guard := some (2, false) }) #[{ on := 2, ground := Ground.guard }] (by kernel_rfl) [2] (by kernel_rfl) fun af v W hb hd => ?_
    have d2 : v 2 = (Value.bool false) := hd 2 (by decide)
    have e0 := (Reg.gfr_eval0 (ops := (Reg.opsOf Try.f3 20)) (a0 := a0) (v := v) (L := [2]) 0 (by kernel_rfl)).trans i0
    have e89 := (Reg.gfr_eval (ops := (Reg.opsOf Try.f3 20)) (a0 := a0) (v := v) (L := [2]) 89 2 (by kernel_rfl) (by rw [hsz]; omega)).trans d2
    refine ⟨Reg.wanted_of rfl (by kernel_rfl) e89, ?_⟩
    generalize Reg.gfr (Reg.opsOf Try.f3 20) a0 v [2] = G at e0 ⊢
    generalize hρ : G.eval = ρ at e0
    have hρ' : G.eval = ρ := hρ
    refine Reg.go_run (Value.slice (some ad) nn cl) W ?_ ?_
    · rw [hρ']; simp [execOp, go_sem, e0]
    · exact ⟨Below.refl _ _, rfl⟩
set_option maxHeartbeats 4000000 in
set_option maxRecDepth 20000 in
theorem lw20_h6 :
    Reg.OpOK Try.prog (Reg.opsOf Try.f3 20) a0 w0 (lw20R ad pp nn cl k co oc ao oa ol) (fun _ _ _ _ => True) 6 := by
    refine Reg.op_ok2 (fun af => { dst := some 93, op := Op.move (Operand.tmp 5), type := 3, pos := "law.go:46", after := af, guard := some (2, false) }) #[{ on := 2, ground := Ground.guard }] (by kernel_rfl) [2] (by kernel_rfl) fun af v W hb hd => ?_
    have d2 : v 2 = (Value.bool false) := hd 2 (by decide)
    have e5 := (Reg.gfr_eval0 (ops := (Reg.opsOf Try.f3 20)) (a0 := a0) (v := v) (L := [2]) 5 (by kernel_rfl)).trans i5
    have e89 := (Reg.gfr_eval (ops := (Reg.opsOf Try.f3 20)) (a0 := a0) (v := v) (L := [2]) 89 2 (by kernel_rfl) (by rw [hsz]; omega)).trans d2
    refine ⟨Reg.wanted_of rfl (by kernel_rfl) e89, ?_⟩
    generalize Reg.gfr (Reg.opsOf Try.f3 20) a0 v [2] = G at e5 ⊢
    generalize hρ : G.eval = ρ at e5
    have hρ' : G.eval = ρ := hρ
    refine Reg.go_run (Value.int IntKind.i64 (k : Int)) W ?_ ?_
    · rw [hρ']; simp [execOp, go_sem, e5]
    · exact ⟨Below.refl _ _, rfl⟩
set_option maxHeartbeats 4000000 in
set_option maxRecDepth 20000 in
theorem lw20_h7 :
    Reg.OpOK Try.prog (Reg.opsOf Try.f3 20) a0 w0 (lw20R ad pp nn cl k co oc ao oa ol) (fun _ _ _ _ => True) 7 := by
    refine Reg.op_ok2 (fun af => { dst := some 94, op := Op.indexAddr 22 (Operand.tmp 92) (Operand.tmp 93), type := 0, pos := "law.go:46", after := af, guard := some (2, false) }) #[{ on := 5, ground := Ground.data }, { on := 6, ground := Ground.data }, { on := 2, ground := Ground.guard }] (by kernel_rfl) [5, 6, 2] (by kernel_rfl) fun af v W hb hd => ?_
    have d2 : v 2 = (Value.bool false) := hd 2 (by decide)
    have d5 : v 5 = (Value.slice (some ad) nn cl) := hd 5 (by decide)
    have d6 : v 6 = (Value.int IntKind.i64 (k : Int)) := hd 6 (by decide)
    have e92 := (Reg.gfr_eval (ops := (Reg.opsOf Try.f3 20)) (a0 := a0) (v := v) (L := [5, 6, 2]) 92 5 (by kernel_rfl) (by rw [hsz]; omega)).trans d5
    have e93 := (Reg.gfr_eval (ops := (Reg.opsOf Try.f3 20)) (a0 := a0) (v := v) (L := [5, 6, 2]) 93 6 (by kernel_rfl) (by rw [hsz]; omega)).trans d6
    have e89 := (Reg.gfr_eval (ops := (Reg.opsOf Try.f3 20)) (a0 := a0) (v := v) (L := [5, 6, 2]) 89 2 (by kernel_rfl) (by rw [hsz]; omega)).trans d2
    refine ⟨Reg.wanted_of rfl (by kernel_rfl) e89, ?_⟩
    generalize Reg.gfr (Reg.opsOf Try.f3 20) a0 v [5, 6, 2] = G at e92 e93 ⊢
    generalize hρ : G.eval = ρ at e92 e93
    have hρ' : G.eval = ρ := hρ
    refine Reg.go_run (Value.pointer (some pp)) W ?_ ?_
    · rw [hρ']; simp [execOp, go_sem, e92, e93, hkl, hpp]
    · exact ⟨Below.refl _ _, rfl⟩
set_option maxHeartbeats 4000000 in
set_option maxRecDepth 20000 in
theorem lw20_h8 :
    Reg.OpOK Try.prog (Reg.opsOf Try.f3 20) a0 w0 (lw20R ad pp nn cl k co oc ao oa ol) (fun _ _ _ _ => True) 8 := by
    refine Reg.op_ok2 (fun af => { dst := some 95, op := Op.fieldAddr 30 (Operand.tmp 94) 3, type := 0, pos := "law.go:46", after := af, guard := some (2, false) }) #[{ on := 7, ground := Ground.data }, { on := 2, ground := Ground.guard }] (by kernel_rfl) [7, 2] (by kernel_rfl) fun af v W hb hd => ?_
    have d2 : v 2 = (Value.bool false) := hd 2 (by decide)
    have d7 : v 7 = (Value.pointer (some pp)) := hd 7 (by decide)
    have e94 := (Reg.gfr_eval (ops := (Reg.opsOf Try.f3 20)) (a0 := a0) (v := v) (L := [7, 2]) 94 7 (by kernel_rfl) (by rw [hsz]; omega)).trans d7
    have e89 := (Reg.gfr_eval (ops := (Reg.opsOf Try.f3 20)) (a0 := a0) (v := v) (L := [7, 2]) 89 2 (by kernel_rfl) (by rw [hsz]; omega)).trans d2
    refine ⟨Reg.wanted_of rfl (by kernel_rfl) e89, ?_⟩
    generalize Reg.gfr (Reg.opsOf Try.f3 20) a0 v [7, 2] = G at e94 ⊢
    generalize hρ : G.eval = ρ at e94
    have hρ' : G.eval = ρ := hρ
    refine Reg.go_run (Value.pointer (some ⟨pp.block, pp.off + 3, none⟩)) W ?_ ?_
    · rw [hρ']; simp [execOp, go_sem, e94]
    · exact ⟨Below.refl _ _, rfl⟩
set_option maxHeartbeats 4000000 in
set_option maxRecDepth 20000 in
theorem lw20_h9 :
    Reg.OpOK Try.prog (Reg.opsOf Try.f3 20) a0 w0 (lw20R ad pp nn cl k co oc ao oa ol) (fun _ _ _ _ => True) 9 := by
    refine Reg.op_ok2 (fun af => { dst := some 96, op := Op.load 24 (Operand.tmp 95), type := 24, pos := "law.go:46", after := af, guard := some (2, false) }) #[{ on := 8, ground := Ground.data }, { on := 2, ground := Ground.guard }] (by kernel_rfl) [8, 2] (by kernel_rfl) fun af v W hb hd => ?_
    have d2 : v 2 = (Value.bool false) := hd 2 (by decide)
    have d8 : v 8 = (Value.pointer (some ⟨pp.block, pp.off + 3, none⟩)) := hd 8 (by decide)
    have e95 := (Reg.gfr_eval (ops := (Reg.opsOf Try.f3 20)) (a0 := a0) (v := v) (L := [8, 2]) 95 8 (by kernel_rfl) (by rw [hsz]; omega)).trans d8
    have e89 := (Reg.gfr_eval (ops := (Reg.opsOf Try.f3 20)) (a0 := a0) (v := v) (L := [8, 2]) 89 2 (by kernel_rfl) (by rw [hsz]; omega)).trans d2
    refine ⟨Reg.wanted_of rfl (by kernel_rfl) e89, ?_⟩
    generalize Reg.gfr (Reg.opsOf Try.f3 20) a0 v [8, 2] = G at e95 ⊢
    generalize hρ : G.eval = ρ at e95
    have hρ' : G.eval = ρ := hρ
    refine Reg.go_run (Value.slice oa ol.length oc) W ?_ ?_
    · rw [hρ']; simp [execOp, go_sem, e95, CN W hb]
    · exact ⟨Below.refl _ _, rfl⟩
set_option maxHeartbeats 4000000 in
set_option maxRecDepth 20000 in
theorem lw20_h10 :
    Reg.OpOK Try.prog (Reg.opsOf Try.f3 20) a0 w0 (lw20R ad pp nn cl k co oc ao oa ol) (fun _ _ _ _ => True) 10 := by
    refine Reg.op_ok2 (fun af => { dst := some 97, op := Op.convert 24 9 (Operand.tmp 96), type := 9, pos := "law.go:46", after := af, guard := some (2, false) }) #[{ on := 9, ground := Ground.data }, { on := 2, ground := Ground.guard }] (by kernel_rfl) [9, 2] (by kernel_rfl) fun af v W hb hd => ?_
    have d2 : v 2 = (Value.bool false) := hd 2 (by decide)
    have d9 : v 9 = (Value.slice oa ol.length oc) := hd 9 (by decide)
    have e96 := (Reg.gfr_eval (ops := (Reg.opsOf Try.f3 20)) (a0 := a0) (v := v) (L := [9, 2]) 96 9 (by kernel_rfl) (by rw [hsz]; omega)).trans d9
    have e89 := (Reg.gfr_eval (ops := (Reg.opsOf Try.f3 20)) (a0 := a0) (v := v) (L := [9, 2]) 89 2 (by kernel_rfl) (by rw [hsz]; omega)).trans d2
    refine ⟨Reg.wanted_of rfl (by kernel_rfl) e89, ?_⟩
    generalize Reg.gfr (Reg.opsOf Try.f3 20) a0 v [9, 2] = G at e96 ⊢
    generalize hρ : G.eval = ρ at e96
    have hρ' : G.eval = ρ := hρ
    refine Reg.go_run (Value.string (bstr ol)) W ?_ ?_
    · rw [hρ']; simp [execOp, go_sem, e96, c2 W hb]
    · exact ⟨Below.refl _ _, rfl⟩
set_option maxHeartbeats 4000000 in
set_option maxRecDepth 20000 in
theorem lw20_h11 :
    Reg.OpOK Try.prog (Reg.opsOf Try.f3 20) a0 w0 (lw20R ad pp nn cl k co oc ao oa ol) (fun _ _ _ _ => True) 11 := by
    refine Reg.op_ok2 (fun af => { dst := some 98, op := Op.binOp BinOp.neq 9 (Operand.tmp 91) (Operand.tmp 97) 9, type := 4, pos := "law.go:46", after := af, guard := some (2, false) }) #[{ on := 4, ground := Ground.data }, { on := 10, ground := Ground.data }, { on := 2, ground := Ground.guard }] (by kernel_rfl) [4, 10, 2] (by kernel_rfl) fun af v W hb hd => ?_
    have d2 : v 2 = (Value.bool false) := hd 2 (by decide)
    have d4 : v 4 = (Value.string (bstr ol)) := hd 4 (by decide)
    have d10 : v 10 = (Value.string (bstr ol)) := hd 10 (by decide)
    have e91 := (Reg.gfr_eval (ops := (Reg.opsOf Try.f3 20)) (a0 := a0) (v := v) (L := [4, 10, 2]) 91 4 (by kernel_rfl) (by rw [hsz]; omega)).trans d4
    have e97 := (Reg.gfr_eval (ops := (Reg.opsOf Try.f3 20)) (a0 := a0) (v := v) (L := [4, 10, 2]) 97 10 (by kernel_rfl) (by rw [hsz]; omega)).trans d10
    have e89 := (Reg.gfr_eval (ops := (Reg.opsOf Try.f3 20)) (a0 := a0) (v := v) (L := [4, 10, 2]) 89 2 (by kernel_rfl) (by rw [hsz]; omega)).trans d2
    refine ⟨Reg.wanted_of rfl (by kernel_rfl) e89, ?_⟩
    generalize Reg.gfr (Reg.opsOf Try.f3 20) a0 v [4, 10, 2] = G at e91 e97 ⊢
    generalize hρ : G.eval = ρ at e91 e97
    have hρ' : G.eval = ρ := hρ
    refine Reg.go_run (Value.bool false) W ?_ ?_
    · rw [hρ']; simp [execOp, go_sem, e91, e97]
    · exact ⟨Below.refl _ _, rfl⟩
set_option maxHeartbeats 4000000 in
set_option maxRecDepth 20000 in
theorem lw20_h12 :
    Reg.OpOK Try.prog (Reg.opsOf Try.f3 20) a0 w0 (lw20R ad pp nn cl k co oc ao oa ol) (fun _ _ _ _ => True) 12 := by
    refine Reg.op_ok2 (fun af => { dst := some 99, op := Op.pick (Operand.tmp 89) (Operand.const (Value.bool true)) (Operand.tmp 98), type := 4, pos := "law.go:46", after := af, guard := none }) #[{ on := 2, ground := Ground.data }, { on := 11, ground := Ground.data }] (by kernel_rfl) [2, 11] (by kernel_rfl) fun af v W hb hd => ?_
    have d2 : v 2 = (Value.bool false) := hd 2 (by decide)
    have d11 : v 11 = (Value.bool false) := hd 11 (by decide)
    have e89 := (Reg.gfr_eval (ops := (Reg.opsOf Try.f3 20)) (a0 := a0) (v := v) (L := [2, 11]) 89 2 (by kernel_rfl) (by rw [hsz]; omega)).trans d2
    have e98 := (Reg.gfr_eval (ops := (Reg.opsOf Try.f3 20)) (a0 := a0) (v := v) (L := [2, 11]) 98 11 (by kernel_rfl) (by rw [hsz]; omega)).trans d11
    refine ⟨Reg.wanted_none rfl, ?_⟩
    have eC : ∀ x, (Reg.gfr (Reg.opsOf Try.f3 20) a0 v [2, 11]).eval (.const x) = x := fun _ => rfl
    generalize Reg.gfr (Reg.opsOf Try.f3 20) a0 v [2, 11] = G at e89 e98 eC ⊢
    generalize hρ : G.eval = ρ at e89 e98 eC
    have hρ' : G.eval = ρ := hρ
    refine Reg.go_run (Value.bool false) W ?_ ?_
    · rw [hρ']; simp [execOp, go_sem, e89, e98, eC]
    · exact ⟨Below.refl _ _, rfl⟩
end
set_option maxHeartbeats 4000000 in
set_option maxRecDepth 20000 in
theorem lw20 (ad pp : Addr) (nn cl k co oc : Nat) (ao oa : Option Addr) (ol : List UInt8) (w0 : World) {s1 s2 s3 s4 s8 s9 s10 s11 s12 s13 s14 s15 s16 s17 s18 s19 s20 s21 s22 s23 s24 s25 s26 s27 s28 s29 s30 s31 s32 s33 s34 s35 s36 s37 s38 s39 s40 s41 s42 s43 s44 s45 s46 s47 s48 s49 s50 s51 s52 s53 s54 s55 s56 s57 s58 s59 s60 s61 s62 s63 s64 s65 s66 s67 s68 s69 s70 s71 s72 s73 s74 s75 s76 s77 s78 s79 s80 s81 s82 s83 s84 s85 s86 s87 s88 s89 s90 s91 s92 s93 s94 s95 s96 s97 s98 s99 s100 s101 s102 s103 s104 s105 s106 s107 s108 s109 s110 s111 s112 s113 s114 s115 s116 s117 s118 s119 s120 s121 s122 s123 s124 s125 s126 s127 s128 s129 s130 s131 s132 s133 s134 s135 : Value}
    (hkl : k < nn) (hpp : ad.add (k * 4) = pp)
    (c1 : ∀ W, Below w0.heap.size w0 W → (convert 24 9 (.slice ao ol.length co)).run Try.prog W = .ok (.string (bstr ol)) W)
    (c2 : ∀ W, Below w0.heap.size w0 W → (convert 24 9 (.slice oa ol.length oc)).run Try.prog W = .ok (.string (bstr ol)) W)
    (CN : ∀ W, Below w0.heap.size w0 W → W.cell? ⟨pp.block, pp.off + 3, none⟩ = some (Value.slice oa ol.length oc))
    {Q : Exit → Act → World → Prop}
    (hend : ∀ (w : World), Below w0.heap.size w0 w → Q .normal { tmps := #[(Value.slice (some ad) nn cl), s1, s2, s3, s4, (Value.int IntKind.i64 (k : Int)), (Value.slice ao ol.length co), (Value.bool true), s8, s9, s10, s11, s12, s13, s14, s15, s16, s17, s18, s19, s20, s21, s22, s23, s24, s25, s26, s27, s28, s29, s30, s31, s32, s33, s34, s35, s36, s37, s38, s39, s40, s41, s42, s43, s44, s45, s46, s47, s48, s49, s50, s51, s52, s53, s54, s55, s56, s57, s58, s59, s60, s61, s62, s63, s64, s65, s66, s67, s68, s69, s70, s71, s72, s73, s74, s75, s76, s77, s78, s79, s80, s81, s82, s83, s84, s85, s86, (Value.bool true), (Value.bool false), (Value.bool false), (Value.slice ao ol.length co), (Value.string (bstr ol)), (Value.slice (some ad) nn cl), (Value.int IntKind.i64 (k : Int)), (Value.pointer (some pp)), (Value.pointer (some ⟨pp.block, pp.off + 3, none⟩)), (Value.slice oa ol.length oc), (Value.string (bstr ol)), (Value.bool false), (Value.bool false), s100, s101, s102, s103, s104, s105, s106, s107, s108, s109, s110, s111, s112, s113, s114, s115, s116, s117, s118, s119, s120, s121, s122, s123, s124, s125, s126, s127, s128, s129, s130, s131, s132, s133, s134, s135], defers := [] } w) :
    (Code.region 20 (Reg.opsOf Try.f3 20) true).wp Try.prog Q { tmps := #[(Value.slice (some ad) nn cl), s1, s2, s3, s4, (Value.int IntKind.i64 (k : Int)), (Value.slice ao ol.length co), (Value.bool true), s8, s9, s10, s11, s12, s13, s14, s15, s16, s17, s18, s19, s20, s21, s22, s23, s24, s25, s26, s27, s28, s29, s30, s31, s32, s33, s34, s35, s36, s37, s38, s39, s40, s41, s42, s43, s44, s45, s46, s47, s48, s49, s50, s51, s52, s53, s54, s55, s56, s57, s58, s59, s60, s61, s62, s63, s64, s65, s66, s67, s68, s69, s70, s71, s72, s73, s74, s75, s76, s77, s78, s79, s80, s81, s82, s83, s84, s85, s86, s87, s88, s89, s90, s91, s92, s93, s94, s95, s96, s97, s98, s99, s100, s101, s102, s103, s104, s105, s106, s107, s108, s109, s110, s111, s112, s113, s114, s115, s116, s117, s118, s119, s120, s121, s122, s123, s124, s125, s126, s127, s128, s129, s130, s131, s132, s133, s134, s135], defers := [] } w0 := by
  obtain ⟨a0, ha0⟩ : ∃ a0 : Act, a0 = { tmps := #[(Value.slice (some ad) nn cl), s1, s2, s3, s4, (Value.int IntKind.i64 (k : Int)), (Value.slice ao ol.length co), (Value.bool true), s8, s9, s10, s11, s12, s13, s14, s15, s16, s17, s18, s19, s20, s21, s22, s23, s24, s25, s26, s27, s28, s29, s30, s31, s32, s33, s34, s35, s36, s37, s38, s39, s40, s41, s42, s43, s44, s45, s46, s47, s48, s49, s50, s51, s52, s53, s54, s55, s56, s57, s58, s59, s60, s61, s62, s63, s64, s65, s66, s67, s68, s69, s70, s71, s72, s73, s74, s75, s76, s77, s78, s79, s80, s81, s82, s83, s84, s85, s86, s87, s88, s89, s90, s91, s92, s93, s94, s95, s96, s97, s98, s99, s100, s101, s102, s103, s104, s105, s106, s107, s108, s109, s110, s111, s112, s113, s114, s115, s116, s117, s118, s119, s120, s121, s122, s123, s124, s125, s126, s127, s128, s129, s130, s131, s132, s133, s134, s135], defers := [] } := ⟨_, rfl⟩
  have hfin : ∀ v : Nat → Value, Reg.gfr (Reg.opsOf Try.f3 20) a0 v (List.range 13) = { tmps := #[(Value.slice (some ad) nn cl), s1, s2, s3, s4, (Value.int IntKind.i64 (k : Int)), (Value.slice ao ol.length co), (Value.bool true), s8, s9, s10, s11, s12, s13, s14, s15, s16, s17, s18, s19, s20, s21, s22, s23, s24, s25, s26, s27, s28, s29, s30, s31, s32, s33, s34, s35, s36, s37, s38, s39, s40, s41, s42, s43, s44, s45, s46, s47, s48, s49, s50, s51, s52, s53, s54, s55, s56, s57, s58, s59, s60, s61, s62, s63, s64, s65, s66, s67, s68, s69, s70, s71, s72, s73, s74, s75, s76, s77, s78, s79, s80, s81, s82, s83, s84, s85, s86, v 0, v 1, v 2, v 3, v 4, v 5, v 6, v 7, v 8, v 9, v 10, v 11, v 12, s100, s101, s102, s103, s104, s105, s106, s107, s108, s109, s110, s111, s112, s113, s114, s115, s116, s117, s118, s119, s120, s121, s122, s123, s124, s125, s126, s127, s128, s129, s130, s131, s132, s133, s134, s135], defers := [] } := fun v => by rw [ha0]; kernel_rfl
  rw [← ha0]
  have i0 : a0.eval (.tmp 0) = (Value.slice (some ad) nn cl) := by rw [ha0]; rfl
  have i5 : a0.eval (.tmp 5) = (Value.int IntKind.i64 (k : Int)) := by rw [ha0]; rfl
  have i6 : a0.eval (.tmp 6) = (Value.slice ao ol.length co) := by rw [ha0]; rfl
  have i7 : a0.eval (.tmp 7) = (Value.bool true) := by rw [ha0]; rfl
  have hsz : a0.tmps.size = 136 := by rw [ha0]; rfl
  clear ha0
  have hn : (Reg.opsOf Try.f3 20).size = 13 := by kernel_rfl
  have h0 := lw20_h0 ad pp nn cl k co oc ao oa ol w0 a0 hkl hpp c1 c2 CN i0 i5 i6 i7 hsz
  have h1 := lw20_h1 ad pp nn cl k co oc ao oa ol w0 a0 hkl hpp c1 c2 CN i0 i5 i6 i7 hsz
  have h2 := lw20_h2 ad pp nn cl k co oc ao oa ol w0 a0 hkl hpp c1 c2 CN i0 i5 i6 i7 hsz
  have h3 := lw20_h3 ad pp nn cl k co oc ao oa ol w0 a0 hkl hpp c1 c2 CN i0 i5 i6 i7 hsz
  have h4 := lw20_h4 ad pp nn cl k co oc ao oa ol w0 a0 hkl hpp c1 c2 CN i0 i5 i6 i7 hsz
  have h5 := lw20_h5 ad pp nn cl k co oc ao oa ol w0 a0 hkl hpp c1 c2 CN i0 i5 i6 i7 hsz
  have h6 := lw20_h6 ad pp nn cl k co oc ao oa ol w0 a0 hkl hpp c1 c2 CN i0 i5 i6 i7 hsz
  have h7 := lw20_h7 ad pp nn cl k co oc ao oa ol w0 a0 hkl hpp c1 c2 CN i0 i5 i6 i7 hsz
  have h8 := lw20_h8 ad pp nn cl k co oc ao oa ol w0 a0 hkl hpp c1 c2 CN i0 i5 i6 i7 hsz
  have h9 := lw20_h9 ad pp nn cl k co oc ao oa ol w0 a0 hkl hpp c1 c2 CN i0 i5 i6 i7 hsz
  have h10 := lw20_h10 ad pp nn cl k co oc ao oa ol w0 a0 hkl hpp c1 c2 CN i0 i5 i6 i7 hsz
  have h11 := lw20_h11 ad pp nn cl k co oc ao oa ol w0 a0 hkl hpp c1 c2 CN i0 i5 i6 i7 hsz
  have h12 := lw20_h12 ad pp nn cl k co oc ao oa ol w0 a0 hkl hpp c1 c2 CN i0 i5 i6 i7 hsz
  refine Reg.region_all (by kernel_rfl) (lw20R ad pp nn cl k co oc ao oa ol) (by rw [hn, hsz]; kernel_rfl) (lw20_stable ad pp nn cl k co oc ao oa ol) (fun i hi => ?_) (fun v w hb hR => ?_)
  · rw [hn] at hi
    match i, List.mem_range.1 hi with
    | 0, _ => exact h0
    | 1, _ => exact h1
    | 2, _ => exact h2
    | 3, _ => exact h3
    | 4, _ => exact h4
    | 5, _ => exact h5
    | 6, _ => exact h6
    | 7, _ => exact h7
    | 8, _ => exact h8
    | 9, _ => exact h9
    | 10, _ => exact h10
    | 11, _ => exact h11
    | 12, _ => exact h12
    | (_ + 13), h => omega
  · rw [hn] at hR ⊢
    have v0 : v 0 = (Value.bool true) := hR 0 (by decide)
    have v1 : v 1 = (Value.bool false) := hR 1 (by decide)
    have v2 : v 2 = (Value.bool false) := hR 2 (by decide)
    have v3 : v 3 = (Value.slice ao ol.length co) := hR 3 (by decide)
    have v4 : v 4 = (Value.string (bstr ol)) := hR 4 (by decide)
    have v5 : v 5 = (Value.slice (some ad) nn cl) := hR 5 (by decide)
    have v6 : v 6 = (Value.int IntKind.i64 (k : Int)) := hR 6 (by decide)
    have v7 : v 7 = (Value.pointer (some pp)) := hR 7 (by decide)
    have v8 : v 8 = (Value.pointer (some ⟨pp.block, pp.off + 3, none⟩)) := hR 8 (by decide)
    have v9 : v 9 = (Value.slice oa ol.length oc) := hR 9 (by decide)
    have v10 : v 10 = (Value.string (bstr ol)) := hR 10 (by decide)
    have v11 : v 11 = (Value.bool false) := hR 11 (by decide)
    have v12 : v 12 = (Value.bool false) := hR 12 (by decide)
    rw [hfin v, v0, v1, v2, v3, v4, v5, v6, v7, v8, v9, v10, v11, v12]
    exact hend w  hb 
def lw36R (vs vw : Value) (gg : Nat) (xs : List UInt8) : Nat → Value → World → Prop
  | 0 => (fun u_ w_ => ∃ A_ c_, u_ = Value.slice A_ xs.length c_ ∧ RdC w_ A_ (u8v xs))
  | 1 => fun x_ _ => x_ = (Value.string (bstr xs))
  | 2 => fun x_ _ => x_ = vw
  | 3 => fun x_ _ => x_ = (Value.string (bstr xs))
  | 4 => fun x_ _ => x_ = (Value.bool true)
  | 5 => fun x_ _ => x_ = (Value.bool true)
  | _ => fun _ _ => True
theorem lw36_stable (vs vw : Value) (gg : Nat) (xs : List UInt8) : ∀ i_ u_ w_ w_', (lw36R vs vw gg xs) i_ u_ w_ → Below w_.heap.size w_ w_' → (lw36R vs vw gg xs) i_ u_ w_' := fun i_ u_ w_ w_' h_ hb_ => by
  match i_, h_ with
  | 0, h_ => exact ((by obtain ⟨A_, c_, h1_, h2_⟩ := h_; exact ⟨A_, c_, h1_, h2_.below hb_⟩))
  | 1, h_ => exact h_
  | 2, h_ => exact h_
  | 3, h_ => exact h_
  | 4, h_ => exact h_
  | 5, h_ => exact h_
  | (_ + 6), _ => trivial
section
variable (vs vw : Value) (gg : Nat) (xs : List UInt8) (w0 : World) (a0 : Act)
variable (hsk : ∀ W, Below w0.heap.size w0 W → SinkAt gg vs xs W) (hxl : xs.length ≤ 100000000)
variable (c2 : ∀ W, Below w0.heap.size w0 W → (convert 24 9 vw).run Try.prog W = .ok (.string (bstr xs)) W)
variable (i3 : a0.eval (.tmp 3) = (Value.pointer (some ⟨gg, 0, none⟩))) (i4 : a0.eval (.tmp 4) = vw) (hsz : a0.tmps.size = 136)
include vs vw gg xs w0 a0 hsk hxl c2 i3 i4 hsz
set_option maxHeartbeats 4000000 in
set_option maxRecDepth 20000 in
theorem lw36_h0 :
    Reg.OpOK Try.prog (Reg.opsOf Try.f3 36) a0 w0 (lw36R vs vw gg xs) (fun _ _ _ _ => True) 0 := by
    refine Reg.op_ok2 (fun af => { dst := some 131, op := Op.call { callee := Callee.value (Operand.func 18), args := #[Operand.tmp 3], argTypes := #[26] }, type := 24, pos := "law.go:60", after := af, guard := none }) #[] (by kernel_rfl) [] (by kernel_rfl) fun af v W hb hd => ?_
    have e3 := (Reg.gfr_eval0 (ops := (Reg.opsOf Try.f3 36)) (a0 := a0) (v := v) (L := []) 3 (by kernel_rfl)).trans i3
    refine ⟨Reg.wanted_none rfl, ?_⟩
    have eF : ∀ f, (Reg.gfr (Reg.opsOf Try.f3 36) a0 v []).eval (.func f) = .func (.func f) #[] #[] := fun _ => rfl
    generalize Reg.gfr (Reg.opsOf Try.f3 36) a0 v [] = G at e3 eF ⊢
    generalize hρ : G.eval = ρ at e3 eF
    have hρ' : G.eval = ρ := hρ
    refine Reg.go_call 18 #[(Value.pointer (some ⟨gg, 0, none⟩))] (by rw [hρ']; simp [execOp, go_sem, e3, eF]) ((all_any gg vs xs hxl W (hsk W hb)).mono fun e w' he => ?_)
    obtain ⟨v_, rfl, hn_⟩ := he
    obtain ⟨A_, c_, rfl, _, _, hr_, _⟩ := RdC.of_own hn_.1
    exact ⟨_, rfl, hn_.2, ⟨A_, c_, rfl, hr_⟩⟩
set_option maxHeartbeats 4000000 in
set_option maxRecDepth 20000 in
theorem lw36_h1 :
    Reg.OpOK Try.prog (Reg.opsOf Try.f3 36) a0 w0 (lw36R vs vw gg xs) (fun _ _ _ _ => True) 1 := by
    refine Reg.op_ok2 (fun af => { dst := some 132, op := Op.convert 24 9 (Operand.tmp 131), type := 9, pos := "law.go:60", after := af, guard := none }) #[{ on := 0, ground := Ground.data }] (by kernel_rfl) [0] (by kernel_rfl) fun af v W hb hd => ?_
    have d0 : ((fun u_ w_ => ∃ A_ c_, u_ = Value.slice A_ xs.length c_ ∧ RdC w_ A_ (u8v xs))) (v 0) W := hd 0 (by decide)
    have e131 := Reg.gfr_eval (ops := (Reg.opsOf Try.f3 36)) (a0 := a0) (v := v) (L := [0]) 131 0 (by kernel_rfl) (by rw [hsz]; omega)
    refine ⟨Reg.wanted_none rfl, ?_⟩
    generalize Reg.gfr (Reg.opsOf Try.f3 36) a0 v [0] = G at e131 ⊢
    generalize hρ : G.eval = ρ at e131
    have hρ' : G.eval = ρ := hρ
    obtain ⟨A_, c_, hv_, hr_⟩ := d0
    rw [hv_] at e131
    have cv := run_string_of (P := Try.prog) W 24 9 5 Try.underlying24 Try.underlying5 Try.underlying9 A_ xs c_ hr_
    refine Reg.go_run (Value.string (bstr xs)) W (by rw [hρ']; simp [execOp, go_sem, e131, cv]) ⟨Below.refl _ _, rfl⟩
set_option maxHeartbeats 4000000 in
set_option maxRecDepth 20000 in
theorem lw36_h2 :
    Reg.OpOK Try.prog (Reg.opsOf Try.f3 36) a0 w0 (lw36R vs vw gg xs) (fun _ _ _ _ => True) 2 := by
    refine Reg.op_ok2 (fun af => { dst := some 133, op := Op.move (Operand.tmp 4), type := 24, pos := "law.go:60", after := af, guard := none }) #[] (by kernel_rfl) [] (by kernel_rfl) fun af v W hb hd => ?_
    have e4 := (Reg.gfr_eval0 (ops := (Reg.opsOf Try.f3 36)) (a0 := a0) (v := v) (L := []) 4 (by kernel_rfl)).trans i4
    refine ⟨Reg.wanted_none rfl, ?_⟩
    generalize Reg.gfr (Reg.opsOf Try.f3 36) a0 v [] = G at e4 ⊢
    generalize hρ : G.eval = ρ at e4
    have hρ' : G.eval = ρ := hρ
    refine Reg.go_run vw W ?_ ?_
    · rw [hρ']; simp [execOp, go_sem, e4]
    · exact ⟨Below.refl _ _, rfl⟩
set_option maxHeartbeats 4000000 in
set_option maxRecDepth 20000 in
theorem lw36_h3 :
    Reg.OpOK Try.prog (Reg.opsOf Try.f3 36) a0 w0 (lw36R vs vw gg xs) (fun _ _ _ _ => True) 3 := by
    refine Reg.op_ok2 (fun af => { dst := some 134, op := Op.convert 24 9 (Operand.tmp 133), type := 9, pos := "law.go:60", after := af, guard := none }) #[{ on := 2, ground := Ground.data }] (by kernel_rfl) [2] (by kernel_rfl) fun af v W hb hd => ?_
    have d2 : v 2 = vw := hd 2 (by decide)
    have e133 := (Reg.gfr_eval (ops := (Reg.opsOf Try.f3 36)) (a0 := a0) (v := v) (L := [2]) 133 2 (by kernel_rfl) (by rw [hsz]; omega)).trans d2
    refine ⟨Reg.wanted_none rfl, ?_⟩
    generalize Reg.gfr (Reg.opsOf Try.f3 36) a0 v [2] = G at e133 ⊢
    generalize hρ : G.eval = ρ at e133
    have hρ' : G.eval = ρ := hρ
    refine Reg.go_run (Value.string (bstr xs)) W ?_ ?_
    · rw [hρ']; simp [execOp, go_sem, e133, c2 W hb]
    · exact ⟨Below.refl _ _, rfl⟩
set_option maxHeartbeats 4000000 in
set_option maxRecDepth 20000 in
theorem lw36_h4 :
    Reg.OpOK Try.prog (Reg.opsOf Try.f3 36) a0 w0 (lw36R vs vw gg xs) (fun _ _ _ _ => True) 4 := by
    refine Reg.op_ok2 (fun af => { dst := some 135, op := Op.binOp BinOp.eql 9 (Operand.tmp 132) (Operand.tmp 134) 9, type := 4, pos := "law.go:60", after := af, guard := none }) #[{ on := 1, ground := Ground.data }, { on := 3, ground := Ground.data }] (by kernel_rfl) [1, 3] (by kernel_rfl) fun af v W hb hd => ?_
    have d1 : v 1 = (Value.string (bstr xs)) := hd 1 (by decide)
    have d3 : v 3 = (Value.string (bstr xs)) := hd 3 (by decide)
    have e132 := (Reg.gfr_eval (ops := (Reg.opsOf Try.f3 36)) (a0 := a0) (v := v) (L := [1, 3]) 132 1 (by kernel_rfl) (by rw [hsz]; omega)).trans d1
    have e134 := (Reg.gfr_eval (ops := (Reg.opsOf Try.f3 36)) (a0 := a0) (v := v) (L := [1, 3]) 134 3 (by kernel_rfl) (by rw [hsz]; omega)).trans d3
    refine ⟨Reg.wanted_none rfl, ?_⟩
    generalize Reg.gfr (Reg.opsOf Try.f3 36) a0 v [1, 3] = G at e132 e134 ⊢
    generalize hρ : G.eval = ρ at e132 e134
    have hρ' : G.eval = ρ := hρ
    refine Reg.go_run (Value.bool true) W ?_ ?_
    · rw [hρ']; simp [execOp, go_sem, e132, e134]
    · exact ⟨Below.refl _ _, rfl⟩
set_option maxHeartbeats 4000000 in
set_option maxRecDepth 20000 in
theorem lw36_h5 :
    Reg.OpOK Try.prog (Reg.opsOf Try.f3 36) a0 w0 (lw36R vs vw gg xs) (fun _ _ _ _ => True) 5 := by
    refine Reg.op_ok2 (fun af => { dst := some 2, op := Op.assign (Operand.tmp 135), type := 4, pos := "law.go:60", after := af, guard := none }) #[{ on := 4, ground := Ground.data }, { on := 0, ground := Ground.chain }, { on := 0, ground := Ground.phase }, { on := 1, ground := Ground.phase }, { on := 2, ground := Ground.phase }, { on := 3, ground := Ground.phase }, { on := 4, ground := Ground.phase }] (by kernel_rfl) [4, 0, 0, 1, 2, 3, 4] (by kernel_rfl) fun af v W hb hd => ?_
    have d4 : v 4 = (Value.bool true) := hd 4 (by decide)
    have e135 := (Reg.gfr_eval (ops := (Reg.opsOf Try.f3 36)) (a0 := a0) (v := v) (L := [4, 0, 0, 1, 2, 3, 4]) 135 4 (by kernel_rfl) (by rw [hsz]; omega)).trans d4
    refine ⟨Reg.wanted_none rfl, ?_⟩
    generalize Reg.gfr (Reg.opsOf Try.f3 36) a0 v [4, 0, 0, 1, 2, 3, 4] = G at e135 ⊢
    generalize hρ : G.eval = ρ at e135
    have hρ' : G.eval = ρ := hρ
    refine Reg.go_run (Value.bool true) W ?_ ?_
    · rw [hρ']; simp [execOp, go_sem, e135]
    · exact ⟨Below.refl _ _, rfl⟩
end
set_option maxHeartbeats 4000000 in
set_option maxRecDepth 20000 in
theorem lw36 (vs vw : Value) (gg : Nat) (xs : List UInt8) (w0 : World) {s0 s1 s2 s5 s6 s7 s8 s9 s10 s11 s12 s13 s14 s15 s16 s17 s18 s19 s20 s21 s22 s23 s24 s25 s26 s27 s28 s29 s30 s31 s32 s33 s34 s35 s36 s37 s38 s39 s40 s41 s42 s43 s44 s45 s46 s47 s48 s49 s50 s51 s52 s53 s54 s55 s56 s57 s58 s59 s60 s61 s62 s63 s64 s65 s66 s67 s68 s69 s70 s71 s72 s73 s74 s75 s76 s77 s78 s79 s80 s81 s82 s83 s84 s85 s86 s87 s88 s89 s90 s91 s92 s93 s94 s95 s96 s97 s98 s99 s100 s101 s102 s103 s104 s105 s106 s107 s108 s109 s110 s111 s112 s113 s114 s115 s116 s117 s118 s119 s120 s121 s122 s123 s124 s125 s126 s127 s128 s129 s130 s131 s132 s133 s134 s135 : Value}
    (hsk : ∀ W, Below w0.heap.size w0 W → SinkAt gg vs xs W) (hxl : xs.length ≤ 100000000)
    (c2 : ∀ W, Below w0.heap.size w0 W → (convert 24 9 vw).run Try.prog W = .ok (.string (bstr xs)) W)
    {Q : Exit → Act → World → Prop}
    (hend : ∀ (w : World) (r131 : Value), Below w0.heap.size w0 w → Q .normal { tmps := #[s0, s1, (Value.bool true), (Value.pointer (some ⟨gg, 0, none⟩)), vw, s5, s6, s7, s8, s9, s10, s11, s12, s13, s14, s15, s16, s17, s18, s19, s20, s21, s22, s23, s24, s25, s26, s27, s28, s29, s30, s31, s32, s33, s34, s35, s36, s37, s38, s39, s40, s41, s42, s43, s44, s45, s46, s47, s48, s49, s50, s51, s52, s53, s54, s55, s56, s57, s58, s59, s60, s61, s62, s63, s64, s65, s66, s67, s68, s69, s70, s71, s72, s73, s74, s75, s76, s77, s78, s79, s80, s81, s82, s83, s84, s85, s86, s87, s88, s89, s90, s91, s92, s93, s94, s95, s96, s97, s98, s99, s100, s101, s102, s103, s104, s105, s106, s107, s108, s109, s110, s111, s112, s113, s114, s115, s116, s117, s118, s119, s120, s121, s122, s123, s124, s125, s126, s127, s128, s129, s130, r131, (Value.string (bstr xs)), vw, (Value.string (bstr xs)), (Value.bool true)], defers := [] } w) :
    (Code.region 36 (Reg.opsOf Try.f3 36) true).wp Try.prog Q { tmps := #[s0, s1, s2, (Value.pointer (some ⟨gg, 0, none⟩)), vw, s5, s6, s7, s8, s9, s10, s11, s12, s13, s14, s15, s16, s17, s18, s19, s20, s21, s22, s23, s24, s25, s26, s27, s28, s29, s30, s31, s32, s33, s34, s35, s36, s37, s38, s39, s40, s41, s42, s43, s44, s45, s46, s47, s48, s49, s50, s51, s52, s53, s54, s55, s56, s57, s58, s59, s60, s61, s62, s63, s64, s65, s66, s67, s68, s69, s70, s71, s72, s73, s74, s75, s76, s77, s78, s79, s80, s81, s82, s83, s84, s85, s86, s87, s88, s89, s90, s91, s92, s93, s94, s95, s96, s97, s98, s99, s100, s101, s102, s103, s104, s105, s106, s107, s108, s109, s110, s111, s112, s113, s114, s115, s116, s117, s118, s119, s120, s121, s122, s123, s124, s125, s126, s127, s128, s129, s130, s131, s132, s133, s134, s135], defers := [] } w0 := by
  obtain ⟨a0, ha0⟩ : ∃ a0 : Act, a0 = { tmps := #[s0, s1, s2, (Value.pointer (some ⟨gg, 0, none⟩)), vw, s5, s6, s7, s8, s9, s10, s11, s12, s13, s14, s15, s16, s17, s18, s19, s20, s21, s22, s23, s24, s25, s26, s27, s28, s29, s30, s31, s32, s33, s34, s35, s36, s37, s38, s39, s40, s41, s42, s43, s44, s45, s46, s47, s48, s49, s50, s51, s52, s53, s54, s55, s56, s57, s58, s59, s60, s61, s62, s63, s64, s65, s66, s67, s68, s69, s70, s71, s72, s73, s74, s75, s76, s77, s78, s79, s80, s81, s82, s83, s84, s85, s86, s87, s88, s89, s90, s91, s92, s93, s94, s95, s96, s97, s98, s99, s100, s101, s102, s103, s104, s105, s106, s107, s108, s109, s110, s111, s112, s113, s114, s115, s116, s117, s118, s119, s120, s121, s122, s123, s124, s125, s126, s127, s128, s129, s130, s131, s132, s133, s134, s135], defers := [] } := ⟨_, rfl⟩
  have hfin : ∀ v : Nat → Value, Reg.gfr (Reg.opsOf Try.f3 36) a0 v (List.range 6) = { tmps := #[s0, s1, v 5, (Value.pointer (some ⟨gg, 0, none⟩)), vw, s5, s6, s7, s8, s9, s10, s11, s12, s13, s14, s15, s16, s17, s18, s19, s20, s21, s22, s23, s24, s25, s26, s27, s28, s29, s30, s31, s32, s33, s34, s35, s36, s37, s38, s39, s40, s41, s42, s43, s44, s45, s46, s47, s48, s49, s50, s51, s52, s53, s54, s55, s56, s57, s58, s59, s60, s61, s62, s63, s64, s65, s66, s67, s68, s69, s70, s71, s72, s73, s74, s75, s76, s77, s78, s79, s80, s81, s82, s83, s84, s85, s86, s87, s88, s89, s90, s91, s92, s93, s94, s95, s96, s97, s98, s99, s100, s101, s102, s103, s104, s105, s106, s107, s108, s109, s110, s111, s112, s113, s114, s115, s116, s117, s118, s119, s120, s121, s122, s123, s124, s125, s126, s127, s128, s129, s130, v 0, v 1, v 2, v 3, v 4], defers := [] } := fun v => by rw [ha0]; kernel_rfl
  rw [← ha0]
  have i3 : a0.eval (.tmp 3) = (Value.pointer (some ⟨gg, 0, none⟩)) := by rw [ha0]; rfl
  have i4 : a0.eval (.tmp 4) = vw := by rw [ha0]; rfl
  have hsz : a0.tmps.size = 136 := by rw [ha0]; rfl
  clear ha0
  have hn : (Reg.opsOf Try.f3 36).size = 6 := by kernel_rfl
  have h0 := lw36_h0 vs vw gg xs w0 a0 hsk hxl c2 i3 i4 hsz
  have h1 := lw36_h1 vs vw gg xs w0 a0 hsk hxl c2 i3 i4 hsz
  have h2 := lw36_h2 vs vw gg xs w0 a0 hsk hxl c2 i3 i4 hsz
  have h3 := lw36_h3 vs vw gg xs w0 a0 hsk hxl c2 i3 i4 hsz
  have h4 := lw36_h4 vs vw gg xs w0 a0 hsk hxl c2 i3 i4 hsz
  have h5 := lw36_h5 vs vw gg xs w0 a0 hsk hxl c2 i3 i4 hsz
  refine Reg.region_all (by kernel_rfl) (lw36R vs vw gg xs) (by rw [hn, hsz]; kernel_rfl) (lw36_stable vs vw gg xs) (fun i hi => ?_) (fun v w hb hR => ?_)
  · rw [hn] at hi
    match i, List.mem_range.1 hi with
    | 0, _ => exact h0
    | 1, _ => exact h1
    | 2, _ => exact h2
    | 3, _ => exact h3
    | 4, _ => exact h4
    | 5, _ => exact h5
    | (_ + 6), h => omega
  · rw [hn] at hR ⊢
    have v1 : v 1 = (Value.string (bstr xs)) := hR 1 (by decide)
    have v2 : v 2 = vw := hR 2 (by decide)
    have v3 : v 3 = (Value.string (bstr xs)) := hR 3 (by decide)
    have v4 : v 4 = (Value.bool true) := hR 4 (by decide)
    have v5 : v 5 = (Value.bool true) := hR 5 (by decide)
    rw [hfin v, v1, v2, v3, v4, v5]
    exact hend w (v 0) hb 
end Go.Proofs.Ytokfenogiajcgaa
