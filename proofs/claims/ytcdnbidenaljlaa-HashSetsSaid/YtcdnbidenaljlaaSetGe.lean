/- Regions that draw their order: their obligations (printed by regen2.py). -/
import Derived.Test.YtcdnbidenaljlaaSetS
import Derived.Test.YtcdnbidenaljlaaApp2
import Derived.Test.YtcdnbidenaljlaaApp
import Derived.Test.YtcdnbidenaljlaaRegC
import Derived.Test.YtcdnbidenaljlaaRegT
namespace Go.Proofs.Ytcdnbidenaljlaa
open Go.RowKit
set_option linter.unusedVariables false
set_option linter.unusedSimpArgs false
set_option linter.unusedSectionVars false
def rs8tR (g o n c h g2 o2 m c2 k : Nat) (S S2 : List Value) (xv : Int) : Nat → Value → World → Prop
  | 0 => fun x_ _ => x_ = (Value.int IntKind.i64 (k : Int))
  | 1 => fun x_ _ => x_ = (Value.slice (some ⟨g2, o2, none⟩) m c2)
  | 2 => fun x_ _ => x_ = (Value.int IntKind.i64 (m : Int))
  | 3 => fun x_ _ => x_ = (Value.bool true)
  | 4 => fun x_ _ => x_ = (Value.bool true)
  | 5 => fun x_ _ => x_ = (Value.slice (some ⟨g2, o2, none⟩) m c2)
  | 6 => fun x_ _ => x_ = (Value.int IntKind.i64 (k : Int))
  | 7 => fun x_ _ => x_ = (Value.pointer (some ⟨g2, o2 + k * 32, none⟩))
  | 8 => fun x_ _ => x_ = (Value.agg S2.toArray)
  | 9 => fun x_ _ => x_ = (Value.slice (some ⟨g, o, none⟩) n c)
  | 10 => fun x_ _ => x_ = (Value.int IntKind.i64 (h : Int))
  | 11 => fun x_ _ => x_ = (Value.pointer (some ⟨g, o + h * 32, none⟩))
  | 12 => fun x_ _ => x_ = (Value.agg S.toArray)
  | 13 => fun x_ _ => x_ = (Value.int IntKind.i64 xv)
  | 14 => fun x_ _ => x_ = (Value.bool (decide (xv < 0)))
  | 15 => fun x_ _ => x_ = (Value.bool (decide (xv < 0)))
  | _ => fun _ _ => True
theorem rs8t_stable (g o n c h g2 o2 m c2 k : Nat) (S S2 : List Value) (xv : Int) : ∀ i_ u_ w_ w_', (rs8tR g o n c h g2 o2 m c2 k S S2 xv) i_ u_ w_ → Below w_.heap.size w_ w_' → (rs8tR g o n c h g2 o2 m c2 k S S2 xv) i_ u_ w_' := fun i_ u_ w_ w_' h_ hb_ => by
  match i_, h_ with
  | 0, h_ => exact h_
  | 1, h_ => exact h_
  | 2, h_ => exact h_
  | 3, h_ => exact h_
  | 4, h_ => exact h_
  | 5, h_ => exact h_
  | 6, h_ => exact h_
  | 7, h_ => exact h_
  | 8, h_ => exact h_
  | 9, h_ => exact h_
  | 10, h_ => exact h_
  | 11, h_ => exact h_
  | 12, h_ => exact h_
  | 13, h_ => exact h_
  | 14, h_ => exact h_
  | 15, h_ => exact h_
  | (_ + 16), _ => trivial
section
variable (g o n c h g2 o2 m c2 k : Nat) (S S2 : List Value) (xv : Int) (w0 : World) (a0 : Act)
variable (hhn : (h : Int) < (n : Int))
variable (hkm : (k : Int) < (m : Int))
variable (hld : ∀ W, Below w0.heap.size w0 W → W.rangeAt g (o + h * 32) S)
variable (hSi : (Try.prog.info? 23).map (·.size) = some S.length)
variable (hld2 : ∀ W, Below w0.heap.size w0 W → W.rangeAt g2 (o2 + k * 32) S2)
variable (hSi2 : (Try.prog.info? 23).map (·.size) = some S2.length)
variable (hcmp : ∀ W, Below w0.heap.size w0 W → Calls Try.prog 10 #[.agg S2.toArray, .agg S.toArray] W fun e w' => e = .returned (.int .i64 xv) ∧ Below W.heap.size W w')
variable (i0 : a0.eval (.tmp 0) = (Value.slice (some ⟨g, o, none⟩) n c)) (i3 : a0.eval (.tmp 3) = (Value.slice (some ⟨g2, o2, none⟩) m c2)) (i4 : a0.eval (.tmp 4) = (Value.int IntKind.i64 (h : Int))) (i6 : a0.eval (.tmp 6) = (Value.int IntKind.i64 (k : Int))) (hsz : a0.tmps.size = 56)
include g o n c h g2 o2 m c2 k S S2 xv w0 a0 hhn hkm hld hSi hld2 hSi2 hcmp i0 i3 i4 i6 hsz
set_option maxHeartbeats 4000000 in
set_option maxRecDepth 20000 in
theorem rs8t_h0 :
    Reg.OpOK Try.prog (Reg.opsOf Try.f12 8) a0 w0 (rs8tR g o n c h g2 o2 m c2 k S S2 xv) (fun _ _ _ _ => True) 0 := by
    refine Reg.op_ok2 (fun af => { dst := some 21, op := Op.move (Operand.tmp 6), type := 3, pos := "ref.go:154", after := af, guard := none }) #[] (by kernel_rfl) [] (by kernel_rfl) fun af v W hb hd => ?_
    have e6 := (Reg.gfr_eval0 (ops := (Reg.opsOf Try.f12 8)) (a0 := a0) (v := v) (L := []) 6 (by kernel_rfl)).trans i6
    refine ⟨Reg.wanted_none rfl, ?_⟩
    generalize Reg.gfr (Reg.opsOf Try.f12 8) a0 v [] = G at e6 ⊢
    generalize hρ : G.eval = ρ at e6
    have hρ' : G.eval = ρ := hρ
    refine Reg.go_run (Value.int IntKind.i64 (k : Int)) W ?_ ?_
    · rw [hρ']; simp [execOp, go_sem, e6]
    · exact ⟨Below.refl _ _, rfl⟩
set_option maxHeartbeats 4000000 in
set_option maxRecDepth 20000 in
theorem rs8t_h1 :
    Reg.OpOK Try.prog (Reg.opsOf Try.f12 8) a0 w0 (rs8tR g o n c h g2 o2 m c2 k S S2 xv) (fun _ _ _ _ => True) 1 := by
    refine Reg.op_ok2 (fun af => { dst := some 22, op := Op.move (Operand.tmp 3), type := 32, pos := "ref.go:154", after := af, guard := none }) #[] (by kernel_rfl) [] (by kernel_rfl) fun af v W hb hd => ?_
    have e3 := (Reg.gfr_eval0 (ops := (Reg.opsOf Try.f12 8)) (a0 := a0) (v := v) (L := []) 3 (by kernel_rfl)).trans i3
    refine ⟨Reg.wanted_none rfl, ?_⟩
    generalize Reg.gfr (Reg.opsOf Try.f12 8) a0 v [] = G at e3 ⊢
    generalize hρ : G.eval = ρ at e3
    have hρ' : G.eval = ρ := hρ
    refine Reg.go_run (Value.slice (some ⟨g2, o2, none⟩) m c2) W ?_ ?_
    · rw [hρ']; simp [execOp, go_sem, e3]
    · exact ⟨Below.refl _ _, rfl⟩
set_option maxHeartbeats 4000000 in
set_option maxRecDepth 20000 in
theorem rs8t_h2 :
    Reg.OpOK Try.prog (Reg.opsOf Try.f12 8) a0 w0 (rs8tR g o n c h g2 o2 m c2 k S S2 xv) (fun _ _ _ _ => True) 2 := by
    refine Reg.op_ok2 (fun af => { dst := some 23, op := Op.call { callee := Callee.builtin Builtin.len, args := #[Operand.tmp 22], argTypes := #[32] }, type := 3, pos := "ref.go:154", after := af, guard := none }) #[{ on := 1, ground := Ground.data }] (by kernel_rfl) [1] (by kernel_rfl) fun af v W hb hd => ?_
    have d1 : v 1 = (Value.slice (some ⟨g2, o2, none⟩) m c2) := hd 1 (by decide)
    have e22 := (Reg.gfr_eval (ops := (Reg.opsOf Try.f12 8)) (a0 := a0) (v := v) (L := [1]) 22 1 (by kernel_rfl) (by rw [hsz]; omega)).trans d1
    refine ⟨Reg.wanted_none rfl, ?_⟩
    generalize Reg.gfr (Reg.opsOf Try.f12 8) a0 v [1] = G at e22 ⊢
    generalize hρ : G.eval = ρ at e22
    have hρ' : G.eval = ρ := hρ
    refine Reg.go_run (Value.int IntKind.i64 (m : Int)) W ?_ ?_
    · rw [hρ']; simp [execOp, go_sem, e22]
    · exact ⟨Below.refl _ _, rfl⟩
set_option maxHeartbeats 4000000 in
set_option maxRecDepth 20000 in
theorem rs8t_h3 :
    Reg.OpOK Try.prog (Reg.opsOf Try.f12 8) a0 w0 (rs8tR g o n c h g2 o2 m c2 k S S2 xv) (fun _ _ _ _ => True) 3 := by
    refine Reg.op_ok2 (fun af => { dst := some 24, op := Op.binOp BinOp.lss 3 (Operand.tmp 21) (Operand.tmp 23) 3, type := 4, pos := "ref.go:154", after := af, guard := none }) #[{ on := 0, ground := Ground.data }, { on := 2, ground := Ground.data }] (by kernel_rfl) [0, 2] (by kernel_rfl) fun af v W hb hd => ?_
    have d0 : v 0 = (Value.int IntKind.i64 (k : Int)) := hd 0 (by decide)
    have d2 : v 2 = (Value.int IntKind.i64 (m : Int)) := hd 2 (by decide)
    have e21 := (Reg.gfr_eval (ops := (Reg.opsOf Try.f12 8)) (a0 := a0) (v := v) (L := [0, 2]) 21 0 (by kernel_rfl) (by rw [hsz]; omega)).trans d0
    have e23 := (Reg.gfr_eval (ops := (Reg.opsOf Try.f12 8)) (a0 := a0) (v := v) (L := [0, 2]) 23 2 (by kernel_rfl) (by rw [hsz]; omega)).trans d2
    refine ⟨Reg.wanted_none rfl, ?_⟩
    generalize Reg.gfr (Reg.opsOf Try.f12 8) a0 v [0, 2] = G at e21 e23 ⊢
    generalize hρ : G.eval = ρ at e21 e23
    have hρ' : G.eval = ρ := hρ
    refine Reg.go_run (Value.bool true) W ?_ ?_
    · rw [hρ']; simp [execOp, go_sem, e21, e23, hkm]
    · exact ⟨Below.refl _ _, rfl⟩
set_option maxHeartbeats 4000000 in
set_option maxRecDepth 20000 in
theorem rs8t_h4 :
    Reg.OpOK Try.prog (Reg.opsOf Try.f12 8) a0 w0 (rs8tR g o n c h g2 o2 m c2 k S S2 xv) (fun _ _ _ _ => True) 4 := by
    refine Reg.op_ok2 (fun af => { dst := some 25, op := Op.move (Operand.tmp 24), type := 4, pos := "ref.go:154", after := af, guard := none }) #[{ on := 3, ground := Ground.data }] (by kernel_rfl) [3] (by kernel_rfl) fun af v W hb hd => ?_
    have d3 : v 3 = (Value.bool true) := hd 3 (by decide)
    have e24 := (Reg.gfr_eval (ops := (Reg.opsOf Try.f12 8)) (a0 := a0) (v := v) (L := [3]) 24 3 (by kernel_rfl) (by rw [hsz]; omega)).trans d3
    refine ⟨Reg.wanted_none rfl, ?_⟩
    generalize Reg.gfr (Reg.opsOf Try.f12 8) a0 v [3] = G at e24 ⊢
    generalize hρ : G.eval = ρ at e24
    have hρ' : G.eval = ρ := hρ
    refine Reg.go_run (Value.bool true) W ?_ ?_
    · rw [hρ']; simp [execOp, go_sem, e24]
    · exact ⟨Below.refl _ _, rfl⟩
set_option maxHeartbeats 4000000 in
set_option maxRecDepth 20000 in
theorem rs8t_h5 :
    Reg.OpOK Try.prog (Reg.opsOf Try.f12 8) a0 w0 (rs8tR g o n c h g2 o2 m c2 k S S2 xv) (fun _ _ _ _ => True) 5 := by
    refine Reg.op_ok2 (fun af => { dst := some 26, op := Op.move (Operand.tmp 3), type := 32, pos := "ref.go:154", after := af, guard := some (4, true) }) #[{ on := 4, ground := Ground.guard }] (by kernel_rfl) [4] (by kernel_rfl) fun af v W hb hd => ?_
    have d4 : v 4 = (Value.bool true) := hd 4 (by decide)
    have e3 := (Reg.gfr_eval0 (ops := (Reg.opsOf Try.f12 8)) (a0 := a0) (v := v) (L := [4]) 3 (by kernel_rfl)).trans i3
    have e25 := (Reg.gfr_eval (ops := (Reg.opsOf Try.f12 8)) (a0 := a0) (v := v) (L := [4]) 25 4 (by kernel_rfl) (by rw [hsz]; omega)).trans d4
    refine ⟨Reg.wanted_of rfl (by kernel_rfl) e25, ?_⟩
    generalize Reg.gfr (Reg.opsOf Try.f12 8) a0 v [4] = G at e3 ⊢
    generalize hρ : G.eval = ρ at e3
    have hρ' : G.eval = ρ := hρ
    refine Reg.go_run (Value.slice (some ⟨g2, o2, none⟩) m c2) W ?_ ?_
    · rw [hρ']; simp [execOp, go_sem, e3]
    · exact ⟨Below.refl _ _, rfl⟩
set_option maxHeartbeats 4000000 in
set_option maxRecDepth 20000 in
theorem rs8t_h6 :
    Reg.OpOK Try.prog (Reg.opsOf Try.f12 8) a0 w0 (rs8tR g o n c h g2 o2 m c2 k S S2 xv) (fun _ _ _ _ => True) 6 := by
    refine Reg.op_ok2 (fun af => { dst := some 27, op := Op.move (Operand.tmp 6), type := 3, pos := "ref.go:154", after := af, guard := some (4, true) }) #[{ on := 4, ground := Ground.guard }] (by kernel_rfl) [4] (by kernel_rfl) fun af v W hb hd => ?_
    have d4 : v 4 = (Value.bool true) := hd 4 (by decide)
    have e6 := (Reg.gfr_eval0 (ops := (Reg.opsOf Try.f12 8)) (a0 := a0) (v := v) (L := [4]) 6 (by kernel_rfl)).trans i6
    have e25 := (Reg.gfr_eval (ops := (Reg.opsOf Try.f12 8)) (a0 := a0) (v := v) (L := [4]) 25 4 (by kernel_rfl) (by rw [hsz]; omega)).trans d4
    refine ⟨Reg.wanted_of rfl (by kernel_rfl) e25, ?_⟩
    generalize Reg.gfr (Reg.opsOf Try.f12 8) a0 v [4] = G at e6 ⊢
    generalize hρ : G.eval = ρ at e6
    have hρ' : G.eval = ρ := hρ
    refine Reg.go_run (Value.int IntKind.i64 (k : Int)) W ?_ ?_
    · rw [hρ']; simp [execOp, go_sem, e6]
    · exact ⟨Below.refl _ _, rfl⟩
set_option maxHeartbeats 4000000 in
set_option maxRecDepth 20000 in
theorem rs8t_h7 :
    Reg.OpOK Try.prog (Reg.opsOf Try.f12 8) a0 w0 (rs8tR g o n c h g2 o2 m c2 k S S2 xv) (fun _ _ _ _ => True) 7 := by
    refine Reg.op_ok2 (fun af => { dst := some 28, op := Op.indexAddr 32 (Operand.tmp 26) (Operand.tmp 27), type := 0, pos := "ref.go:154", after := af, guard := some (4, true) }) #[{ on := 5, ground := Ground.data }, { on := 6, ground := Ground.data }, { on := 4, ground := Ground.guard }] (by kernel_rfl) [5, 6, 4] (by kernel_rfl) fun af v W hb hd => ?_
    have d4 : v 4 = (Value.bool true) := hd 4 (by decide)
    have d5 : v 5 = (Value.slice (some ⟨g2, o2, none⟩) m c2) := hd 5 (by decide)
    have d6 : v 6 = (Value.int IntKind.i64 (k : Int)) := hd 6 (by decide)
    have e26 := (Reg.gfr_eval (ops := (Reg.opsOf Try.f12 8)) (a0 := a0) (v := v) (L := [5, 6, 4]) 26 5 (by kernel_rfl) (by rw [hsz]; omega)).trans d5
    have e27 := (Reg.gfr_eval (ops := (Reg.opsOf Try.f12 8)) (a0 := a0) (v := v) (L := [5, 6, 4]) 27 6 (by kernel_rfl) (by rw [hsz]; omega)).trans d6
    have e25 := (Reg.gfr_eval (ops := (Reg.opsOf Try.f12 8)) (a0 := a0) (v := v) (L := [5, 6, 4]) 25 4 (by kernel_rfl) (by rw [hsz]; omega)).trans d4
    refine ⟨Reg.wanted_of rfl (by kernel_rfl) e25, ?_⟩
    generalize Reg.gfr (Reg.opsOf Try.f12 8) a0 v [5, 6, 4] = G at e26 e27 ⊢
    generalize hρ : G.eval = ρ at e26 e27
    have hρ' : G.eval = ρ := hρ
    refine Reg.go_run (Value.pointer (some ⟨g2, o2 + k * 32, none⟩)) W ?_ ?_
    · rw [hρ']; simp [execOp, go_sem, e26, e27, hkm, Try.underlying32, Try.sizeOf23]
    · exact ⟨Below.refl _ _, rfl⟩
set_option maxHeartbeats 4000000 in
set_option maxRecDepth 20000 in
theorem rs8t_h8 :
    Reg.OpOK Try.prog (Reg.opsOf Try.f12 8) a0 w0 (rs8tR g o n c h g2 o2 m c2 k S S2 xv) (fun _ _ _ _ => True) 8 := by
    refine Reg.op_ok2 (fun af => { dst := some 29, op := Op.load 23 (Operand.tmp 28), type := 23, pos := "ref.go:154", after := af, guard := some (4, true) }) #[{ on := 7, ground := Ground.data }, { on := 4, ground := Ground.guard }] (by kernel_rfl) [7, 4] (by kernel_rfl) fun af v W hb hd => ?_
    have d4 : v 4 = (Value.bool true) := hd 4 (by decide)
    have d7 : v 7 = (Value.pointer (some ⟨g2, o2 + k * 32, none⟩)) := hd 7 (by decide)
    have e28 := (Reg.gfr_eval (ops := (Reg.opsOf Try.f12 8)) (a0 := a0) (v := v) (L := [7, 4]) 28 7 (by kernel_rfl) (by rw [hsz]; omega)).trans d7
    have e25 := (Reg.gfr_eval (ops := (Reg.opsOf Try.f12 8)) (a0 := a0) (v := v) (L := [7, 4]) 25 4 (by kernel_rfl) (by rw [hsz]; omega)).trans d4
    refine ⟨Reg.wanted_of rfl (by kernel_rfl) e25, ?_⟩
    generalize Reg.gfr (Reg.opsOf Try.f12 8) a0 v [7, 4] = G at e28 ⊢
    generalize hρ : G.eval = ρ at e28
    have hρ' : G.eval = ρ := hρ
    exact fun K hK => wp_load_mid 23 (.tmp 28) rfl g2 (o2 + k * 32) (by rw [hρ']; exact e28) S2 _ (hld2 W hb) Try.underlying23 rfl hSi2 (hK _ _ ⟨Below.refl _ _, rfl⟩)
set_option maxHeartbeats 4000000 in
set_option maxRecDepth 20000 in
theorem rs8t_h9 :
    Reg.OpOK Try.prog (Reg.opsOf Try.f12 8) a0 w0 (rs8tR g o n c h g2 o2 m c2 k S S2 xv) (fun _ _ _ _ => True) 9 := by
    refine Reg.op_ok2 (fun af => { dst := some 30, op := Op.move (Operand.tmp 0), type := 32, pos := "ref.go:154", after := af, guard := some (4, true) }) #[{ on := 4, ground := Ground.guard }] (by kernel_rfl) [4] (by kernel_rfl) fun af v W hb hd => ?_
    have d4 : v 4 = (Value.bool true) := hd 4 (by decide)
    have e0 := (Reg.gfr_eval0 (ops := (Reg.opsOf Try.f12 8)) (a0 := a0) (v := v) (L := [4]) 0 (by kernel_rfl)).trans i0
    have e25 := (Reg.gfr_eval (ops := (Reg.opsOf Try.f12 8)) (a0 := a0) (v := v) (L := [4]) 25 4 (by kernel_rfl) (by rw [hsz]; omega)).trans d4
    refine ⟨Reg.wanted_of rfl (by kernel_rfl) e25, ?_⟩
    generalize Reg.gfr (Reg.opsOf Try.f12 8) a0 v [4] = G at e0 ⊢
    generalize hρ : G.eval = ρ at e0
    have hρ' : G.eval = ρ := hρ
    refine Reg.go_run (Value.slice (some ⟨g, o, none⟩) n c) W ?_ ?_
    · rw [hρ']; simp [execOp, go_sem, e0]
    · exact ⟨Below.refl _ _, rfl⟩
set_option maxHeartbeats 4000000 in
set_option maxRecDepth 20000 in
theorem rs8t_h10 :
    Reg.OpOK Try.prog (Reg.opsOf Try.f12 8) a0 w0 (rs8tR g o n c h g2 o2 m c2 k S S2 xv) (fun _ _ _ _ => True) 10 := by
    refine Reg.op_ok2 (fun af => { dst := some 31, op := Op.move (Operand.tmp 4), type := 3, pos := "ref.go:154", after := af, guard := some (4, true) }) #[{ on := 4, ground := Ground.guard }] (by kernel_rfl) [4] (by kernel_rfl) fun af v W hb hd => ?_
    have d4 : v 4 = (Value.bool true) := hd 4 (by decide)
    have e4 := (Reg.gfr_eval0 (ops := (Reg.opsOf Try.f12 8)) (a0 := a0) (v := v) (L := [4]) 4 (by kernel_rfl)).trans i4
    have e25 := (Reg.gfr_eval (ops := (Reg.opsOf Try.f12 8)) (a0 := a0) (v := v) (L := [4]) 25 4 (by kernel_rfl) (by rw [hsz]; omega)).trans d4
    refine ⟨Reg.wanted_of rfl (by kernel_rfl) e25, ?_⟩
    generalize Reg.gfr (Reg.opsOf Try.f12 8) a0 v [4] = G at e4 ⊢
    generalize hρ : G.eval = ρ at e4
    have hρ' : G.eval = ρ := hρ
    refine Reg.go_run (Value.int IntKind.i64 (h : Int)) W ?_ ?_
    · rw [hρ']; simp [execOp, go_sem, e4]
    · exact ⟨Below.refl _ _, rfl⟩
set_option maxHeartbeats 4000000 in
set_option maxRecDepth 20000 in
theorem rs8t_h11 :
    Reg.OpOK Try.prog (Reg.opsOf Try.f12 8) a0 w0 (rs8tR g o n c h g2 o2 m c2 k S S2 xv) (fun _ _ _ _ => True) 11 := by
    refine Reg.op_ok2 (fun af => { dst := some 32, op := Op.indexAddr 32 (Operand.tmp 30) (Operand.tmp 31), type := 0, pos := "ref.go:154", after := af, guard := some (4, true) }) #[{ on := 9, ground := Ground.data }, { on := 10, ground := Ground.data }, { on := 4, ground := Ground.guard }] (by kernel_rfl) [9, 10, 4] (by kernel_rfl) fun af v W hb hd => ?_
    have d4 : v 4 = (Value.bool true) := hd 4 (by decide)
    have d9 : v 9 = (Value.slice (some ⟨g, o, none⟩) n c) := hd 9 (by decide)
    have d10 : v 10 = (Value.int IntKind.i64 (h : Int)) := hd 10 (by decide)
    have e30 := (Reg.gfr_eval (ops := (Reg.opsOf Try.f12 8)) (a0 := a0) (v := v) (L := [9, 10, 4]) 30 9 (by kernel_rfl) (by rw [hsz]; omega)).trans d9
    have e31 := (Reg.gfr_eval (ops := (Reg.opsOf Try.f12 8)) (a0 := a0) (v := v) (L := [9, 10, 4]) 31 10 (by kernel_rfl) (by rw [hsz]; omega)).trans d10
    have e25 := (Reg.gfr_eval (ops := (Reg.opsOf Try.f12 8)) (a0 := a0) (v := v) (L := [9, 10, 4]) 25 4 (by kernel_rfl) (by rw [hsz]; omega)).trans d4
    refine ⟨Reg.wanted_of rfl (by kernel_rfl) e25, ?_⟩
    generalize Reg.gfr (Reg.opsOf Try.f12 8) a0 v [9, 10, 4] = G at e30 e31 ⊢
    generalize hρ : G.eval = ρ at e30 e31
    have hρ' : G.eval = ρ := hρ
    refine Reg.go_run (Value.pointer (some ⟨g, o + h * 32, none⟩)) W ?_ ?_
    · rw [hρ']; simp [execOp, go_sem, e30, e31, hhn, Try.underlying32, Try.sizeOf23]
    · exact ⟨Below.refl _ _, rfl⟩
set_option maxHeartbeats 4000000 in
set_option maxRecDepth 20000 in
theorem rs8t_h12 :
    Reg.OpOK Try.prog (Reg.opsOf Try.f12 8) a0 w0 (rs8tR g o n c h g2 o2 m c2 k S S2 xv) (fun _ _ _ _ => True) 12 := by
    refine Reg.op_ok2 (fun af => { dst := some 33, op := Op.load 23 (Operand.tmp 32), type := 23, pos := "ref.go:154", after := af, guard := some (4, true) }) #[{ on := 11, ground := Ground.data }, { on := 4, ground := Ground.guard }] (by kernel_rfl) [11, 4] (by kernel_rfl) fun af v W hb hd => ?_
    have d4 : v 4 = (Value.bool true) := hd 4 (by decide)
    have d11 : v 11 = (Value.pointer (some ⟨g, o + h * 32, none⟩)) := hd 11 (by decide)
    have e32 := (Reg.gfr_eval (ops := (Reg.opsOf Try.f12 8)) (a0 := a0) (v := v) (L := [11, 4]) 32 11 (by kernel_rfl) (by rw [hsz]; omega)).trans d11
    have e25 := (Reg.gfr_eval (ops := (Reg.opsOf Try.f12 8)) (a0 := a0) (v := v) (L := [11, 4]) 25 4 (by kernel_rfl) (by rw [hsz]; omega)).trans d4
    refine ⟨Reg.wanted_of rfl (by kernel_rfl) e25, ?_⟩
    generalize Reg.gfr (Reg.opsOf Try.f12 8) a0 v [11, 4] = G at e32 ⊢
    generalize hρ : G.eval = ρ at e32
    have hρ' : G.eval = ρ := hρ
    exact fun K hK => wp_load_mid 23 (.tmp 32) rfl g (o + h * 32) (by rw [hρ']; exact e32) S _ (hld W hb) Try.underlying23 rfl hSi (hK _ _ ⟨Below.refl _ _, rfl⟩)
set_option maxHeartbeats 4000000 in
set_option maxRecDepth 20000 in
theorem rs8t_h13 :
    Reg.OpOK Try.prog (Reg.opsOf Try.f12 8) a0 w0 (rs8tR g o n c h g2 o2 m c2 k S S2 xv) (fun _ _ _ _ => True) 13 := by
    refine Reg.op_ok2 (fun af => { dst := some 34, op := Op.call { callee := Callee.value (Operand.func 10), args := #[Operand.tmp 29, Operand.tmp 33], argTypes := #[23, 23] }, type := 3, pos := "ref.go:154", after := af, guard := some (4, true) }) #[{ on := 8, ground := Ground.data }, { on := 12, ground := Ground.data }, { on := 4, ground := Ground.chain }, { on := 4, ground := Ground.guard }] (by kernel_rfl) [8, 12, 4, 4] (by kernel_rfl) fun af v W hb hd => ?_
    have d4 : v 4 = (Value.bool true) := hd 4 (by decide)
    have d8 : v 8 = (Value.agg S2.toArray) := hd 8 (by decide)
    have d12 : v 12 = (Value.agg S.toArray) := hd 12 (by decide)
    have e29 := (Reg.gfr_eval (ops := (Reg.opsOf Try.f12 8)) (a0 := a0) (v := v) (L := [8, 12, 4, 4]) 29 8 (by kernel_rfl) (by rw [hsz]; omega)).trans d8
    have e33 := (Reg.gfr_eval (ops := (Reg.opsOf Try.f12 8)) (a0 := a0) (v := v) (L := [8, 12, 4, 4]) 33 12 (by kernel_rfl) (by rw [hsz]; omega)).trans d12
    have e25 := (Reg.gfr_eval (ops := (Reg.opsOf Try.f12 8)) (a0 := a0) (v := v) (L := [8, 12, 4, 4]) 25 4 (by kernel_rfl) (by rw [hsz]; omega)).trans d4
    refine ⟨Reg.wanted_of rfl (by kernel_rfl) e25, ?_⟩
    have eF : ∀ f, (Reg.gfr (Reg.opsOf Try.f12 8) a0 v [8, 12, 4, 4]).eval (.func f) = .func (.func f) #[] #[] := fun _ => rfl
    generalize Reg.gfr (Reg.opsOf Try.f12 8) a0 v [8, 12, 4, 4] = G at e29 e33 eF ⊢
    generalize hρ : G.eval = ρ at e29 e33 eF
    have hρ' : G.eval = ρ := hρ
    refine Reg.go_call 10 #[(Value.agg S2.toArray), (Value.agg S.toArray)] (by rw [hρ']; simp [execOp, go_sem, e29, e33, eF]) ((hcmp W hb).mono fun e w' he => ?_)
    obtain ⟨rfl, hbb⟩ := he
    exact ⟨_, rfl, hbb, rfl⟩
set_option maxHeartbeats 4000000 in
set_option maxRecDepth 20000 in
theorem rs8t_h14 :
    Reg.OpOK Try.prog (Reg.opsOf Try.f12 8) a0 w0 (rs8tR g o n c h g2 o2 m c2 k S S2 xv) (fun _ _ _ _ => True) 14 := by
    refine Reg.op_ok2 (fun af => { dst := some 35, op := Op.binOp BinOp.lss 3 (Operand.tmp 34) (Operand.const (Value.int IntKind.i64 0)) 3, type := 4, pos := "ref.go:154", after := af, guard := some (4, true) }) #[{ on := 13, ground := Ground.data }, { on := 4, ground := Ground.guard }] (by kernel_rfl) [13, 4] (by kernel_rfl) fun af v W hb hd => ?_
    have d4 : v 4 = (Value.bool true) := hd 4 (by decide)
    have d13 : v 13 = (Value.int IntKind.i64 xv) := hd 13 (by decide)
    have e34 := (Reg.gfr_eval (ops := (Reg.opsOf Try.f12 8)) (a0 := a0) (v := v) (L := [13, 4]) 34 13 (by kernel_rfl) (by rw [hsz]; omega)).trans d13
    have e25 := (Reg.gfr_eval (ops := (Reg.opsOf Try.f12 8)) (a0 := a0) (v := v) (L := [13, 4]) 25 4 (by kernel_rfl) (by rw [hsz]; omega)).trans d4
    refine ⟨Reg.wanted_of rfl (by kernel_rfl) e25, ?_⟩
    have eC : ∀ x, (Reg.gfr (Reg.opsOf Try.f12 8) a0 v [13, 4]).eval (.const x) = x := fun _ => rfl
    generalize Reg.gfr (Reg.opsOf Try.f12 8) a0 v [13, 4] = G at e34 eC ⊢
    generalize hρ : G.eval = ρ at e34 eC
    have hρ' : G.eval = ρ := hρ
    refine Reg.go_run (Value.bool (decide (xv < 0))) W ?_ ?_
    · rw [hρ']; simp [execOp, go_sem, e34, eC]
    · exact ⟨Below.refl _ _, rfl⟩
set_option maxHeartbeats 4000000 in
set_option maxRecDepth 20000 in
theorem rs8t_h15 :
    Reg.OpOK Try.prog (Reg.opsOf Try.f12 8) a0 w0 (rs8tR g o n c h g2 o2 m c2 k S S2 xv) (fun _ _ _ _ => True) 15 := by
    refine Reg.op_ok2 (fun af => { dst := some 36, op := Op.pick (Operand.tmp 25) (Operand.tmp 35) (Operand.const (Value.bool false)), type := 4, pos := "ref.go:154", after := af, guard := none }) #[{ on := 4, ground := Ground.data }, { on := 14, ground := Ground.data }] (by kernel_rfl) [4, 14] (by kernel_rfl) fun af v W hb hd => ?_
    have d4 : v 4 = (Value.bool true) := hd 4 (by decide)
    have d14 : v 14 = (Value.bool (decide (xv < 0))) := hd 14 (by decide)
    have e25 := (Reg.gfr_eval (ops := (Reg.opsOf Try.f12 8)) (a0 := a0) (v := v) (L := [4, 14]) 25 4 (by kernel_rfl) (by rw [hsz]; omega)).trans d4
    have e35 := (Reg.gfr_eval (ops := (Reg.opsOf Try.f12 8)) (a0 := a0) (v := v) (L := [4, 14]) 35 14 (by kernel_rfl) (by rw [hsz]; omega)).trans d14
    refine ⟨Reg.wanted_none rfl, ?_⟩
    have eC : ∀ x, (Reg.gfr (Reg.opsOf Try.f12 8) a0 v [4, 14]).eval (.const x) = x := fun _ => rfl
    generalize Reg.gfr (Reg.opsOf Try.f12 8) a0 v [4, 14] = G at e25 e35 eC ⊢
    generalize hρ : G.eval = ρ at e25 e35 eC
    have hρ' : G.eval = ρ := hρ
    refine Reg.go_run (Value.bool (decide (xv < 0))) W ?_ ?_
    · rw [hρ']; simp [execOp, go_sem, e25, e35, eC]
    · exact ⟨Below.refl _ _, rfl⟩
end
set_option maxHeartbeats 4000000 in
set_option maxRecDepth 20000 in
theorem rs8t (g o n c h g2 o2 m c2 k : Nat) (S S2 : List Value) (xv : Int) (w0 : World) {s1 s2 s5 s7 s8 s9 s10 s11 s12 s13 s14 s15 s16 s17 s18 s19 s20 s21 s22 s23 s24 s25 s26 s27 s28 s29 s30 s31 s32 s33 s34 s35 s36 s37 s38 s39 s40 s41 s42 s43 s44 s45 s46 s47 s48 s49 s50 s51 s52 s53 s54 s55 : Value}
    (hhn : (h : Int) < (n : Int))
    (hkm : (k : Int) < (m : Int))
    (hld : ∀ W, Below w0.heap.size w0 W → W.rangeAt g (o + h * 32) S)
    (hSi : (Try.prog.info? 23).map (·.size) = some S.length)
    (hld2 : ∀ W, Below w0.heap.size w0 W → W.rangeAt g2 (o2 + k * 32) S2)
    (hSi2 : (Try.prog.info? 23).map (·.size) = some S2.length)
    (hcmp : ∀ W, Below w0.heap.size w0 W → Calls Try.prog 10 #[.agg S2.toArray, .agg S.toArray] W fun e w' => e = .returned (.int .i64 xv) ∧ Below W.heap.size W w')
    {Q : Exit → Act → World → Prop}
    (hend : ∀ (w : World), Below w0.heap.size w0 w → Q .normal { tmps := #[(Value.slice (some ⟨g, o, none⟩) n c), s1, s2, (Value.slice (some ⟨g2, o2, none⟩) m c2), (Value.int IntKind.i64 (h : Int)), s5, (Value.int IntKind.i64 (k : Int)), s7, s8, s9, s10, s11, s12, s13, s14, s15, s16, s17, s18, s19, s20, (Value.int IntKind.i64 (k : Int)), (Value.slice (some ⟨g2, o2, none⟩) m c2), (Value.int IntKind.i64 (m : Int)), (Value.bool true), (Value.bool true), (Value.slice (some ⟨g2, o2, none⟩) m c2), (Value.int IntKind.i64 (k : Int)), (Value.pointer (some ⟨g2, o2 + k * 32, none⟩)), (Value.agg S2.toArray), (Value.slice (some ⟨g, o, none⟩) n c), (Value.int IntKind.i64 (h : Int)), (Value.pointer (some ⟨g, o + h * 32, none⟩)), (Value.agg S.toArray), (Value.int IntKind.i64 xv), (Value.bool (decide (xv < 0))), (Value.bool (decide (xv < 0))), s37, s38, s39, s40, s41, s42, s43, s44, s45, s46, s47, s48, s49, s50, s51, s52, s53, s54, s55], defers := [] } w) :
    (Code.region 8 (Reg.opsOf Try.f12 8) true).wp Try.prog Q { tmps := #[(Value.slice (some ⟨g, o, none⟩) n c), s1, s2, (Value.slice (some ⟨g2, o2, none⟩) m c2), (Value.int IntKind.i64 (h : Int)), s5, (Value.int IntKind.i64 (k : Int)), s7, s8, s9, s10, s11, s12, s13, s14, s15, s16, s17, s18, s19, s20, s21, s22, s23, s24, s25, s26, s27, s28, s29, s30, s31, s32, s33, s34, s35, s36, s37, s38, s39, s40, s41, s42, s43, s44, s45, s46, s47, s48, s49, s50, s51, s52, s53, s54, s55], defers := [] } w0 := by
  obtain ⟨a0, ha0⟩ : ∃ a0 : Act, a0 = { tmps := #[(Value.slice (some ⟨g, o, none⟩) n c), s1, s2, (Value.slice (some ⟨g2, o2, none⟩) m c2), (Value.int IntKind.i64 (h : Int)), s5, (Value.int IntKind.i64 (k : Int)), s7, s8, s9, s10, s11, s12, s13, s14, s15, s16, s17, s18, s19, s20, s21, s22, s23, s24, s25, s26, s27, s28, s29, s30, s31, s32, s33, s34, s35, s36, s37, s38, s39, s40, s41, s42, s43, s44, s45, s46, s47, s48, s49, s50, s51, s52, s53, s54, s55], defers := [] } := ⟨_, rfl⟩
  have hfin : ∀ v : Nat → Value, Reg.gfr (Reg.opsOf Try.f12 8) a0 v (List.range 16) = { tmps := #[(Value.slice (some ⟨g, o, none⟩) n c), s1, s2, (Value.slice (some ⟨g2, o2, none⟩) m c2), (Value.int IntKind.i64 (h : Int)), s5, (Value.int IntKind.i64 (k : Int)), s7, s8, s9, s10, s11, s12, s13, s14, s15, s16, s17, s18, s19, s20, v 0, v 1, v 2, v 3, v 4, v 5, v 6, v 7, v 8, v 9, v 10, v 11, v 12, v 13, v 14, v 15, s37, s38, s39, s40, s41, s42, s43, s44, s45, s46, s47, s48, s49, s50, s51, s52, s53, s54, s55], defers := [] } := fun v => by rw [ha0]; kernel_rfl
  rw [← ha0]
  have i0 : a0.eval (.tmp 0) = (Value.slice (some ⟨g, o, none⟩) n c) := by rw [ha0]; rfl
  have i3 : a0.eval (.tmp 3) = (Value.slice (some ⟨g2, o2, none⟩) m c2) := by rw [ha0]; rfl
  have i4 : a0.eval (.tmp 4) = (Value.int IntKind.i64 (h : Int)) := by rw [ha0]; rfl
  have i6 : a0.eval (.tmp 6) = (Value.int IntKind.i64 (k : Int)) := by rw [ha0]; rfl
  have hsz : a0.tmps.size = 56 := by rw [ha0]; rfl
  clear ha0
  have hn : (Reg.opsOf Try.f12 8).size = 16 := by kernel_rfl
  have h0 := rs8t_h0 g o n c h g2 o2 m c2 k S S2 xv w0 a0 hhn hkm hld hSi hld2 hSi2 hcmp i0 i3 i4 i6 hsz
  have h1 := rs8t_h1 g o n c h g2 o2 m c2 k S S2 xv w0 a0 hhn hkm hld hSi hld2 hSi2 hcmp i0 i3 i4 i6 hsz
  have h2 := rs8t_h2 g o n c h g2 o2 m c2 k S S2 xv w0 a0 hhn hkm hld hSi hld2 hSi2 hcmp i0 i3 i4 i6 hsz
  have h3 := rs8t_h3 g o n c h g2 o2 m c2 k S S2 xv w0 a0 hhn hkm hld hSi hld2 hSi2 hcmp i0 i3 i4 i6 hsz
  have h4 := rs8t_h4 g o n c h g2 o2 m c2 k S S2 xv w0 a0 hhn hkm hld hSi hld2 hSi2 hcmp i0 i3 i4 i6 hsz
  have h5 := rs8t_h5 g o n c h g2 o2 m c2 k S S2 xv w0 a0 hhn hkm hld hSi hld2 hSi2 hcmp i0 i3 i4 i6 hsz
  have h6 := rs8t_h6 g o n c h g2 o2 m c2 k S S2 xv w0 a0 hhn hkm hld hSi hld2 hSi2 hcmp i0 i3 i4 i6 hsz
  have h7 := rs8t_h7 g o n c h g2 o2 m c2 k S S2 xv w0 a0 hhn hkm hld hSi hld2 hSi2 hcmp i0 i3 i4 i6 hsz
  have h8 := rs8t_h8 g o n c h g2 o2 m c2 k S S2 xv w0 a0 hhn hkm hld hSi hld2 hSi2 hcmp i0 i3 i4 i6 hsz
  have h9 := rs8t_h9 g o n c h g2 o2 m c2 k S S2 xv w0 a0 hhn hkm hld hSi hld2 hSi2 hcmp i0 i3 i4 i6 hsz
  have h10 := rs8t_h10 g o n c h g2 o2 m c2 k S S2 xv w0 a0 hhn hkm hld hSi hld2 hSi2 hcmp i0 i3 i4 i6 hsz
  have h11 := rs8t_h11 g o n c h g2 o2 m c2 k S S2 xv w0 a0 hhn hkm hld hSi hld2 hSi2 hcmp i0 i3 i4 i6 hsz
  have h12 := rs8t_h12 g o n c h g2 o2 m c2 k S S2 xv w0 a0 hhn hkm hld hSi hld2 hSi2 hcmp i0 i3 i4 i6 hsz
  have h13 := rs8t_h13 g o n c h g2 o2 m c2 k S S2 xv w0 a0 hhn hkm hld hSi hld2 hSi2 hcmp i0 i3 i4 i6 hsz
  have h14 := rs8t_h14 g o n c h g2 o2 m c2 k S S2 xv w0 a0 hhn hkm hld hSi hld2 hSi2 hcmp i0 i3 i4 i6 hsz
  have h15 := rs8t_h15 g o n c h g2 o2 m c2 k S S2 xv w0 a0 hhn hkm hld hSi hld2 hSi2 hcmp i0 i3 i4 i6 hsz
  refine Reg.region_all (by kernel_rfl) (rs8tR g o n c h g2 o2 m c2 k S S2 xv) (by rw [hn, hsz]; kernel_rfl) (rs8t_stable g o n c h g2 o2 m c2 k S S2 xv) (fun i hi => ?_) (fun v w hb hR => ?_)
  · rw [hn] at hi
    match i, List.mem_range.1 hi with
    | 0, _ => exact h0
    | 1, _ => exact h1
    | 2, _ => exact h2
    | 3, _ => exact h3
    | 4, _ => exact h4
    | 5, _ => exact h5
    | 6, _ => exact h6
    | 7, _ => exact h7
    | 8, _ => exact h8
    | 9, _ => exact h9
    | 10, _ => exact h10
    | 11, _ => exact h11
    | 12, _ => exact h12
    | 13, _ => exact h13
    | 14, _ => exact h14
    | 15, _ => exact h15
    | (_ + 16), h => omega
  · rw [hn] at hR ⊢
    have v0 : v 0 = (Value.int IntKind.i64 (k : Int)) := hR 0 (by decide)
    have v1 : v 1 = (Value.slice (some ⟨g2, o2, none⟩) m c2) := hR 1 (by decide)
    have v2 : v 2 = (Value.int IntKind.i64 (m : Int)) := hR 2 (by decide)
    have v3 : v 3 = (Value.bool true) := hR 3 (by decide)
    have v4 : v 4 = (Value.bool true) := hR 4 (by decide)
    have v5 : v 5 = (Value.slice (some ⟨g2, o2, none⟩) m c2) := hR 5 (by decide)
    have v6 : v 6 = (Value.int IntKind.i64 (k : Int)) := hR 6 (by decide)
    have v7 : v 7 = (Value.pointer (some ⟨g2, o2 + k * 32, none⟩)) := hR 7 (by decide)
    have v8 : v 8 = (Value.agg S2.toArray) := hR 8 (by decide)
    have v9 : v 9 = (Value.slice (some ⟨g, o, none⟩) n c) := hR 9 (by decide)
    have v10 : v 10 = (Value.int IntKind.i64 (h : Int)) := hR 10 (by decide)
    have v11 : v 11 = (Value.pointer (some ⟨g, o + h * 32, none⟩)) := hR 11 (by decide)
    have v12 : v 12 = (Value.agg S.toArray) := hR 12 (by decide)
    have v13 : v 13 = (Value.int IntKind.i64 xv) := hR 13 (by decide)
    have v14 : v 14 = (Value.bool (decide (xv < 0))) := hR 14 (by decide)
    have v15 : v 15 = (Value.bool (decide (xv < 0))) := hR 15 (by decide)
    rw [hfin v, v0, v1, v2, v3, v4, v5, v6, v7, v8, v9, v10, v11, v12, v13, v14, v15]
    exact hend w  hb 
def rs8fR (m c2 h : Nat) (AV : Value) (A2 : Option Addr) : Nat → Value → World → Prop
  | 0 => fun x_ _ => x_ = (Value.int IntKind.i64 (m : Int))
  | 1 => fun x_ _ => x_ = (Value.slice A2 m c2)
  | 2 => fun x_ _ => x_ = (Value.int IntKind.i64 (m : Int))
  | 3 => fun x_ _ => x_ = (Value.bool false)
  | 4 => fun x_ _ => x_ = (Value.bool false)
  | 5 => fun x_ _ => x_ = undef
  | 6 => fun x_ _ => x_ = undef
  | 7 => fun x_ _ => x_ = undef
  | 8 => fun x_ _ => x_ = undef
  | 9 => fun x_ _ => x_ = undef
  | 10 => fun x_ _ => x_ = undef
  | 11 => fun x_ _ => x_ = undef
  | 12 => fun x_ _ => x_ = undef
  | 13 => fun x_ _ => x_ = undef
  | 14 => fun x_ _ => x_ = undef
  | 15 => fun x_ _ => x_ = (Value.bool false)
  | _ => fun _ _ => True
theorem rs8f_stable (m c2 h : Nat) (AV : Value) (A2 : Option Addr) : ∀ i_ u_ w_ w_', (rs8fR m c2 h AV A2) i_ u_ w_ → Below w_.heap.size w_ w_' → (rs8fR m c2 h AV A2) i_ u_ w_' := fun i_ u_ w_ w_' h_ hb_ => by
  match i_, h_ with
  | 0, h_ => exact h_
  | 1, h_ => exact h_
  | 2, h_ => exact h_
  | 3, h_ => exact h_
  | 4, h_ => exact h_
  | 5, h_ => exact h_
  | 6, h_ => exact h_
  | 7, h_ => exact h_
  | 8, h_ => exact h_
  | 9, h_ => exact h_
  | 10, h_ => exact h_
  | 11, h_ => exact h_
  | 12, h_ => exact h_
  | 13, h_ => exact h_
  | 14, h_ => exact h_
  | 15, h_ => exact h_
  | (_ + 16), _ => trivial
section
variable (m c2 h : Nat) (AV : Value) (A2 : Option Addr) (w0 : World) (a0 : Act)
variable (i0 : a0.eval (.tmp 0) = AV) (i3 : a0.eval (.tmp 3) = (Value.slice A2 m c2)) (i4 : a0.eval (.tmp 4) = (Value.int IntKind.i64 (h : Int))) (i6 : a0.eval (.tmp 6) = (Value.int IntKind.i64 (m : Int))) (hsz : a0.tmps.size = 56)
include m c2 h AV A2 w0 a0 i0 i3 i4 i6 hsz
set_option maxHeartbeats 4000000 in
set_option maxRecDepth 20000 in
theorem rs8f_h0 :
    Reg.OpOK Try.prog (Reg.opsOf Try.f12 8) a0 w0 (rs8fR m c2 h AV A2) (fun _ _ _ _ => True) 0 := by
    refine Reg.op_ok2 (fun af => { dst := some 21, op := Op.move (Operand.tmp 6), type := 3, pos := "ref.go:154", after := af, guard := none }) #[] (by kernel_rfl) [] (by kernel_rfl) fun af v W hb hd => ?_
    have e6 := (Reg.gfr_eval0 (ops := (Reg.opsOf Try.f12 8)) (a0 := a0) (v := v) (L := []) 6 (by kernel_rfl)).trans i6
    refine ⟨Reg.wanted_none rfl, ?_⟩
    generalize Reg.gfr (Reg.opsOf Try.f12 8) a0 v [] = G at e6 ⊢
    generalize hρ : G.eval = ρ at e6
    have hρ' : G.eval = ρ := hρ
    refine Reg.go_run (Value.int IntKind.i64 (m : Int)) W ?_ ?_
    · rw [hρ']; simp [execOp, go_sem, e6]
    · exact ⟨Below.refl _ _, rfl⟩
set_option maxHeartbeats 4000000 in
set_option maxRecDepth 20000 in
theorem rs8f_h1 :
    Reg.OpOK Try.prog (Reg.opsOf Try.f12 8) a0 w0 (rs8fR m c2 h AV A2) (fun _ _ _ _ => True) 1 := by
    refine Reg.op_ok2 (fun af => { dst := some 22, op := Op.move (Operand.tmp 3), type := 32, pos := "ref.go:154", after := af, guard := none }) #[] (by kernel_rfl) [] (by kernel_rfl) fun af v W hb hd => ?_
    have e3 := (Reg.gfr_eval0 (ops := (Reg.opsOf Try.f12 8)) (a0 := a0) (v := v) (L := []) 3 (by kernel_rfl)).trans i3
    refine ⟨Reg.wanted_none rfl, ?_⟩
    generalize Reg.gfr (Reg.opsOf Try.f12 8) a0 v [] = G at e3 ⊢
    generalize hρ : G.eval = ρ at e3
    have hρ' : G.eval = ρ := hρ
    refine Reg.go_run (Value.slice A2 m c2) W ?_ ?_
    · rw [hρ']; simp [execOp, go_sem, e3]
    · exact ⟨Below.refl _ _, rfl⟩
set_option maxHeartbeats 4000000 in
set_option maxRecDepth 20000 in
theorem rs8f_h2 :
    Reg.OpOK Try.prog (Reg.opsOf Try.f12 8) a0 w0 (rs8fR m c2 h AV A2) (fun _ _ _ _ => True) 2 := by
    refine Reg.op_ok2 (fun af => { dst := some 23, op := Op.call { callee := Callee.builtin Builtin.len, args := #[Operand.tmp 22], argTypes := #[32] }, type := 3, pos := "ref.go:154", after := af, guard := none }) #[{ on := 1, ground := Ground.data }] (by kernel_rfl) [1] (by kernel_rfl) fun af v W hb hd => ?_
    have d1 : v 1 = (Value.slice A2 m c2) := hd 1 (by decide)
    have e22 := (Reg.gfr_eval (ops := (Reg.opsOf Try.f12 8)) (a0 := a0) (v := v) (L := [1]) 22 1 (by kernel_rfl) (by rw [hsz]; omega)).trans d1
    refine ⟨Reg.wanted_none rfl, ?_⟩
    generalize Reg.gfr (Reg.opsOf Try.f12 8) a0 v [1] = G at e22 ⊢
    generalize hρ : G.eval = ρ at e22
    have hρ' : G.eval = ρ := hρ
    refine Reg.go_run (Value.int IntKind.i64 (m : Int)) W ?_ ?_
    · rw [hρ']; simp [execOp, go_sem, e22]
    · exact ⟨Below.refl _ _, rfl⟩
set_option maxHeartbeats 4000000 in
set_option maxRecDepth 20000 in
theorem rs8f_h3 :
    Reg.OpOK Try.prog (Reg.opsOf Try.f12 8) a0 w0 (rs8fR m c2 h AV A2) (fun _ _ _ _ => True) 3 := by
    refine Reg.op_ok2 (fun af => { dst := some 24, op := Op.binOp BinOp.lss 3 (Operand.tmp 21) (Operand.tmp 23) 3, type := 4, pos := "ref.go:154", after := af, guard := none }) #[{ on := 0, ground := Ground.data }, { on := 2, ground := Ground.data }] (by kernel_rfl) [0, 2] (by kernel_rfl) fun af v W hb hd => ?_
    have d0 : v 0 = (Value.int IntKind.i64 (m : Int)) := hd 0 (by decide)
    have d2 : v 2 = (Value.int IntKind.i64 (m : Int)) := hd 2 (by decide)
    have e21 := (Reg.gfr_eval (ops := (Reg.opsOf Try.f12 8)) (a0 := a0) (v := v) (L := [0, 2]) 21 0 (by kernel_rfl) (by rw [hsz]; omega)).trans d0
    have e23 := (Reg.gfr_eval (ops := (Reg.opsOf Try.f12 8)) (a0 := a0) (v := v) (L := [0, 2]) 23 2 (by kernel_rfl) (by rw [hsz]; omega)).trans d2
    refine ⟨Reg.wanted_none rfl, ?_⟩
    generalize Reg.gfr (Reg.opsOf Try.f12 8) a0 v [0, 2] = G at e21 e23 ⊢
    generalize hρ : G.eval = ρ at e21 e23
    have hρ' : G.eval = ρ := hρ
    refine Reg.go_run (Value.bool false) W ?_ ?_
    · rw [hρ']; simp [execOp, go_sem, e21, e23]
    · exact ⟨Below.refl _ _, rfl⟩
set_option maxHeartbeats 4000000 in
set_option maxRecDepth 20000 in
theorem rs8f_h4 :
    Reg.OpOK Try.prog (Reg.opsOf Try.f12 8) a0 w0 (rs8fR m c2 h AV A2) (fun _ _ _ _ => True) 4 := by
    refine Reg.op_ok2 (fun af => { dst := some 25, op := Op.move (Operand.tmp 24), type := 4, pos := "ref.go:154", after := af, guard := none }) #[{ on := 3, ground := Ground.data }] (by kernel_rfl) [3] (by kernel_rfl) fun af v W hb hd => ?_
    have d3 : v 3 = (Value.bool false) := hd 3 (by decide)
    have e24 := (Reg.gfr_eval (ops := (Reg.opsOf Try.f12 8)) (a0 := a0) (v := v) (L := [3]) 24 3 (by kernel_rfl) (by rw [hsz]; omega)).trans d3
    refine ⟨Reg.wanted_none rfl, ?_⟩
    generalize Reg.gfr (Reg.opsOf Try.f12 8) a0 v [3] = G at e24 ⊢
    generalize hρ : G.eval = ρ at e24
    have hρ' : G.eval = ρ := hρ
    refine Reg.go_run (Value.bool false) W ?_ ?_
    · rw [hρ']; simp [execOp, go_sem, e24]
    · exact ⟨Below.refl _ _, rfl⟩
set_option maxHeartbeats 4000000 in
set_option maxRecDepth 20000 in
theorem rs8f_h5 :
    Reg.OpOK Try.prog (Reg.opsOf Try.f12 8) a0 w0 (rs8fR m c2 h AV A2) (fun _ _ _ _ => True) 5 := by
    refine Reg.op_no2 (fun af => { dst := some 26, op := Op.move (Operand.tmp 3), type := 32, pos := "ref.go:154", after := af, guard := some (4, true) }) #[{ on := 4, ground := Ground.guard }] (by kernel_rfl) [4] (by kernel_rfl) fun af v W hb hd => ?_
    have d4 : v 4 = (Value.bool false) := hd 4 (by decide)
    have e25 := (Reg.gfr_eval (ops := (Reg.opsOf Try.f12 8)) (a0 := a0) (v := v) (L := [4]) 25 4 (by kernel_rfl) (by rw [hsz]; omega)).trans d4
    exact ⟨Reg.wanted_not rfl (by kernel_rfl) e25, rfl, fun _ _ _ _ => ⟨trivial, trivial⟩⟩
set_option maxHeartbeats 4000000 in
set_option maxRecDepth 20000 in
theorem rs8f_h6 :
    Reg.OpOK Try.prog (Reg.opsOf Try.f12 8) a0 w0 (rs8fR m c2 h AV A2) (fun _ _ _ _ => True) 6 := by
    refine Reg.op_no2 (fun af => { dst := some 27, op := Op.move (Operand.tmp 6), type := 3, pos := "ref.go:154", after := af, guard := some (4, true) }) #[{ on := 4, ground := Ground.guard }] (by kernel_rfl) [4] (by kernel_rfl) fun af v W hb hd => ?_
    have d4 : v 4 = (Value.bool false) := hd 4 (by decide)
    have e25 := (Reg.gfr_eval (ops := (Reg.opsOf Try.f12 8)) (a0 := a0) (v := v) (L := [4]) 25 4 (by kernel_rfl) (by rw [hsz]; omega)).trans d4
    exact ⟨Reg.wanted_not rfl (by kernel_rfl) e25, rfl, fun _ _ _ _ => ⟨trivial, trivial⟩⟩
set_option maxHeartbeats 4000000 in
set_option maxRecDepth 20000 in
theorem rs8f_h7 :
    Reg.OpOK Try.prog (Reg.opsOf Try.f12 8) a0 w0 (rs8fR m c2 h AV A2) (fun _ _ _ _ => True) 7 := by
    refine Reg.op_no2 (fun af => { dst := some 28, op := Op.indexAddr 32 (Operand.tmp 26) (Operand.tmp 27), type := 0, pos := "ref.go:154", after := af, guard := some (4, true) }) #[{ on := 5, ground := Ground.data }, { on := 6, ground := Ground.data }, { on := 4, ground := Ground.guard }] (by kernel_rfl) [5, 6, 4] (by kernel_rfl) fun af v W hb hd => ?_
    have d4 : v 4 = (Value.bool false) := hd 4 (by decide)
    have e25 := (Reg.gfr_eval (ops := (Reg.opsOf Try.f12 8)) (a0 := a0) (v := v) (L := [5, 6, 4]) 25 4 (by kernel_rfl) (by rw [hsz]; omega)).trans d4
    exact ⟨Reg.wanted_not rfl (by kernel_rfl) e25, rfl, fun _ _ _ _ => ⟨trivial, trivial⟩⟩
set_option maxHeartbeats 4000000 in
set_option maxRecDepth 20000 in
theorem rs8f_h8 :
    Reg.OpOK Try.prog (Reg.opsOf Try.f12 8) a0 w0 (rs8fR m c2 h AV A2) (fun _ _ _ _ => True) 8 := by
    refine Reg.op_no2 (fun af => { dst := some 29, op := Op.load 23 (Operand.tmp 28), type := 23, pos := "ref.go:154", after := af, guard := some (4, true) }) #[{ on := 7, ground := Ground.data }, { on := 4, ground := Ground.guard }] (by kernel_rfl) [7, 4] (by kernel_rfl) fun af v W hb hd => ?_
    have d4 : v 4 = (Value.bool false) := hd 4 (by decide)
    have e25 := (Reg.gfr_eval (ops := (Reg.opsOf Try.f12 8)) (a0 := a0) (v := v) (L := [7, 4]) 25 4 (by kernel_rfl) (by rw [hsz]; omega)).trans d4
    exact ⟨Reg.wanted_not rfl (by kernel_rfl) e25, rfl, fun _ _ _ _ => ⟨trivial, trivial⟩⟩
set_option maxHeartbeats 4000000 in
set_option maxRecDepth 20000 in
theorem rs8f_h9 :
    Reg.OpOK Try.prog (Reg.opsOf Try.f12 8) a0 w0 (rs8fR m c2 h AV A2) (fun _ _ _ _ => True) 9 := by
    refine Reg.op_no2 (fun af => { dst := some 30, op := Op.move (Operand.tmp 0), type := 32, pos := "ref.go:154", after := af, guard := some (4, true) }) #[{ on := 4, ground := Ground.guard }] (by kernel_rfl) [4] (by kernel_rfl) fun af v W hb hd => ?_
    have d4 : v 4 = (Value.bool false) := hd 4 (by decide)
    have e25 := (Reg.gfr_eval (ops := (Reg.opsOf Try.f12 8)) (a0 := a0) (v := v) (L := [4]) 25 4 (by kernel_rfl) (by rw [hsz]; omega)).trans d4
    exact ⟨Reg.wanted_not rfl (by kernel_rfl) e25, rfl, fun _ _ _ _ => ⟨trivial, trivial⟩⟩
set_option maxHeartbeats 4000000 in
set_option maxRecDepth 20000 in
theorem rs8f_h10 :
    Reg.OpOK Try.prog (Reg.opsOf Try.f12 8) a0 w0 (rs8fR m c2 h AV A2) (fun _ _ _ _ => True) 10 := by
    refine Reg.op_no2 (fun af => { dst := some 31, op := Op.move (Operand.tmp 4), type := 3, pos := "ref.go:154", after := af, guard := some (4, true) }) #[{ on := 4, ground := Ground.guard }] (by kernel_rfl) [4] (by kernel_rfl) fun af v W hb hd => ?_
    have d4 : v 4 = (Value.bool false) := hd 4 (by decide)
    have e25 := (Reg.gfr_eval (ops := (Reg.opsOf Try.f12 8)) (a0 := a0) (v := v) (L := [4]) 25 4 (by kernel_rfl) (by rw [hsz]; omega)).trans d4
    exact ⟨Reg.wanted_not rfl (by kernel_rfl) e25, rfl, fun _ _ _ _ => ⟨trivial, trivial⟩⟩
set_option maxHeartbeats 4000000 in
set_option maxRecDepth 20000 in
theorem rs8f_h11 :
    Reg.OpOK Try.prog (Reg.opsOf Try.f12 8) a0 w0 (rs8fR m c2 h AV A2) (fun _ _ _ _ => True) 11 := by
    refine Reg.op_no2 (fun af => { dst := some 32, op := Op.indexAddr 32 (Operand.tmp 30) (Operand.tmp 31), type := 0, pos := "ref.go:154", after := af, guard := some (4, true) }) #[{ on := 9, ground := Ground.data }, { on := 10, ground := Ground.data }, { on := 4, ground := Ground.guard }] (by kernel_rfl) [9, 10, 4] (by kernel_rfl) fun af v W hb hd => ?_
    have d4 : v 4 = (Value.bool false) := hd 4 (by decide)
    have e25 := (Reg.gfr_eval (ops := (Reg.opsOf Try.f12 8)) (a0 := a0) (v := v) (L := [9, 10, 4]) 25 4 (by kernel_rfl) (by rw [hsz]; omega)).trans d4
    exact ⟨Reg.wanted_not rfl (by kernel_rfl) e25, rfl, fun _ _ _ _ => ⟨trivial, trivial⟩⟩
set_option maxHeartbeats 4000000 in
set_option maxRecDepth 20000 in
theorem rs8f_h12 :
    Reg.OpOK Try.prog (Reg.opsOf Try.f12 8) a0 w0 (rs8fR m c2 h AV A2) (fun _ _ _ _ => True) 12 := by
    refine Reg.op_no2 (fun af => { dst := some 33, op := Op.load 23 (Operand.tmp 32), type := 23, pos := "ref.go:154", after := af, guard := some (4, true) }) #[{ on := 11, ground := Ground.data }, { on := 4, ground := Ground.guard }] (by kernel_rfl) [11, 4] (by kernel_rfl) fun af v W hb hd => ?_
    have d4 : v 4 = (Value.bool false) := hd 4 (by decide)
    have e25 := (Reg.gfr_eval (ops := (Reg.opsOf Try.f12 8)) (a0 := a0) (v := v) (L := [11, 4]) 25 4 (by kernel_rfl) (by rw [hsz]; omega)).trans d4
    exact ⟨Reg.wanted_not rfl (by kernel_rfl) e25, rfl, fun _ _ _ _ => ⟨trivial, trivial⟩⟩
set_option maxHeartbeats 4000000 in
set_option maxRecDepth 20000 in
theorem rs8f_h13 :
    Reg.OpOK Try.prog (Reg.opsOf Try.f12 8) a0 w0 (rs8fR m c2 h AV A2) (fun _ _ _ _ => True) 13 := by
    refine Reg.op_no2 (fun af => { dst := some 34, op := Op.call { callee := Callee.value (Operand.func 10), args := #[Operand.tmp 29, Operand.tmp 33], argTypes := #[23, 23] }, type := 3, pos := "ref.go:154", after := af, guard := some (4, true) }) #[{ on := 8, ground := Ground.data }, { on := 12, ground := Ground.data }, { on := 4, ground := Ground.chain }, { on := 4, ground := Ground.guard }] (by kernel_rfl) [8, 12, 4, 4] (by kernel_rfl) fun af v W hb hd => ?_
    have d4 : v 4 = (Value.bool false) := hd 4 (by decide)
    have e25 := (Reg.gfr_eval (ops := (Reg.opsOf Try.f12 8)) (a0 := a0) (v := v) (L := [8, 12, 4, 4]) 25 4 (by kernel_rfl) (by rw [hsz]; omega)).trans d4
    exact ⟨Reg.wanted_not rfl (by kernel_rfl) e25, rfl, fun _ _ _ _ => ⟨trivial, trivial⟩⟩
set_option maxHeartbeats 4000000 in
set_option maxRecDepth 20000 in
theorem rs8f_h14 :
    Reg.OpOK Try.prog (Reg.opsOf Try.f12 8) a0 w0 (rs8fR m c2 h AV A2) (fun _ _ _ _ => True) 14 := by
    refine Reg.op_no2 (fun af => { dst := some 35, op := Op.binOp BinOp.lss 3 (Operand.tmp 34) (Operand.const (Value.int IntKind.i64 0)) 3, type := 4, pos := "ref.go:154", after := af, guard := some (4, true) }) #[{ on := 13, ground := Ground.data }, { on := 4, ground := Ground.guard }] (by kernel_rfl) [13, 4] (by kernel_rfl) fun af v W hb hd => ?_
    have d4 : v 4 = (Value.bool false) := hd 4 (by decide)
    have e25 := (Reg.gfr_eval (ops := (Reg.opsOf Try.f12 8)) (a0 := a0) (v := v) (L := [13, 4]) 25 4 (by kernel_rfl) (by rw [hsz]; omega)).trans d4
    exact ⟨Reg.wanted_not rfl (by kernel_rfl) e25, rfl, fun _ _ _ _ => ⟨trivial, trivial⟩⟩
set_option maxHeartbeats 4000000 in
set_option maxRecDepth 20000 in
theorem rs8f_h15 :
    Reg.OpOK Try.prog (Reg.opsOf Try.f12 8) a0 w0 (rs8fR m c2 h AV A2) (fun _ _ _ _ => True) 15 := by
    refine Reg.op_ok2 (fun af => { dst := some 36, op := Op.pick (Operand.tmp 25) (Operand.tmp 35) (Operand.const (Value.bool false)), type := 4, pos := "ref.go:154", after := af, guard := none }) #[{ on := 4, ground := Ground.data }, { on := 14, ground := Ground.data }] (by kernel_rfl) [4, 14] (by kernel_rfl) fun af v W hb hd => ?_
    have d4 : v 4 = (Value.bool false) := hd 4 (by decide)
    have d14 : v 14 = undef := hd 14 (by decide)
    have e25 := (Reg.gfr_eval (ops := (Reg.opsOf Try.f12 8)) (a0 := a0) (v := v) (L := [4, 14]) 25 4 (by kernel_rfl) (by rw [hsz]; omega)).trans d4
    have e35 := (Reg.gfr_eval (ops := (Reg.opsOf Try.f12 8)) (a0 := a0) (v := v) (L := [4, 14]) 35 14 (by kernel_rfl) (by rw [hsz]; omega)).trans d14
    refine ⟨Reg.wanted_none rfl, ?_⟩
    have eC : ∀ x, (Reg.gfr (Reg.opsOf Try.f12 8) a0 v [4, 14]).eval (.const x) = x := fun _ => rfl
    generalize Reg.gfr (Reg.opsOf Try.f12 8) a0 v [4, 14] = G at e25 e35 eC ⊢
    generalize hρ : G.eval = ρ at e25 e35 eC
    have hρ' : G.eval = ρ := hρ
    refine Reg.go_run (Value.bool false) W ?_ ?_
    · rw [hρ']; simp [execOp, go_sem, e25, e35, eC]
    · exact ⟨Below.refl _ _, rfl⟩
end
set_option maxHeartbeats 4000000 in
set_option maxRecDepth 20000 in
theorem rs8f (m c2 h : Nat) (AV : Value) (A2 : Option Addr) (w0 : World) {s1 s2 s5 s7 s8 s9 s10 s11 s12 s13 s14 s15 s16 s17 s18 s19 s20 s21 s22 s23 s24 s25 s26 s27 s28 s29 s30 s31 s32 s33 s34 s35 s36 s37 s38 s39 s40 s41 s42 s43 s44 s45 s46 s47 s48 s49 s50 s51 s52 s53 s54 s55 : Value}
    {Q : Exit → Act → World → Prop}
    (hend : ∀ (w : World), Below w0.heap.size w0 w → Q .normal { tmps := #[AV, s1, s2, (Value.slice A2 m c2), (Value.int IntKind.i64 (h : Int)), s5, (Value.int IntKind.i64 (m : Int)), s7, s8, s9, s10, s11, s12, s13, s14, s15, s16, s17, s18, s19, s20, (Value.int IntKind.i64 (m : Int)), (Value.slice A2 m c2), (Value.int IntKind.i64 (m : Int)), (Value.bool false), (Value.bool false), undef, undef, undef, undef, undef, undef, undef, undef, undef, undef, (Value.bool false), s37, s38, s39, s40, s41, s42, s43, s44, s45, s46, s47, s48, s49, s50, s51, s52, s53, s54, s55], defers := [] } w) :
    (Code.region 8 (Reg.opsOf Try.f12 8) true).wp Try.prog Q { tmps := #[AV, s1, s2, (Value.slice A2 m c2), (Value.int IntKind.i64 (h : Int)), s5, (Value.int IntKind.i64 (m : Int)), s7, s8, s9, s10, s11, s12, s13, s14, s15, s16, s17, s18, s19, s20, s21, s22, s23, s24, s25, s26, s27, s28, s29, s30, s31, s32, s33, s34, s35, s36, s37, s38, s39, s40, s41, s42, s43, s44, s45, s46, s47, s48, s49, s50, s51, s52, s53, s54, s55], defers := [] } w0 := by
  obtain ⟨a0, ha0⟩ : ∃ a0 : Act, a0 = { tmps := #[AV, s1, s2, (Value.slice A2 m c2), (Value.int IntKind.i64 (h : Int)), s5, (Value.int IntKind.i64 (m : Int)), s7, s8, s9, s10, s11, s12, s13, s14, s15, s16, s17, s18, s19, s20, s21, s22, s23, s24, s25, s26, s27, s28, s29, s30, s31, s32, s33, s34, s35, s36, s37, s38, s39, s40, s41, s42, s43, s44, s45, s46, s47, s48, s49, s50, s51, s52, s53, s54, s55], defers := [] } := ⟨_, rfl⟩
  have hfin : ∀ v : Nat → Value, Reg.gfr (Reg.opsOf Try.f12 8) a0 v (List.range 16) = { tmps := #[AV, s1, s2, (Value.slice A2 m c2), (Value.int IntKind.i64 (h : Int)), s5, (Value.int IntKind.i64 (m : Int)), s7, s8, s9, s10, s11, s12, s13, s14, s15, s16, s17, s18, s19, s20, v 0, v 1, v 2, v 3, v 4, v 5, v 6, v 7, v 8, v 9, v 10, v 11, v 12, v 13, v 14, v 15, s37, s38, s39, s40, s41, s42, s43, s44, s45, s46, s47, s48, s49, s50, s51, s52, s53, s54, s55], defers := [] } := fun v => by rw [ha0]; kernel_rfl
  rw [← ha0]
  have i0 : a0.eval (.tmp 0) = AV := by rw [ha0]; rfl
  have i3 : a0.eval (.tmp 3) = (Value.slice A2 m c2) := by rw [ha0]; rfl
  have i4 : a0.eval (.tmp 4) = (Value.int IntKind.i64 (h : Int)) := by rw [ha0]; rfl
  have i6 : a0.eval (.tmp 6) = (Value.int IntKind.i64 (m : Int)) := by rw [ha0]; rfl
  have hsz : a0.tmps.size = 56 := by rw [ha0]; rfl
  clear ha0
  have hn : (Reg.opsOf Try.f12 8).size = 16 := by kernel_rfl
  have h0 := rs8f_h0 m c2 h AV A2 w0 a0 i0 i3 i4 i6 hsz
  have h1 := rs8f_h1 m c2 h AV A2 w0 a0 i0 i3 i4 i6 hsz
  have h2 := rs8f_h2 m c2 h AV A2 w0 a0 i0 i3 i4 i6 hsz
  have h3 := rs8f_h3 m c2 h AV A2 w0 a0 i0 i3 i4 i6 hsz
  have h4 := rs8f_h4 m c2 h AV A2 w0 a0 i0 i3 i4 i6 hsz
  have h5 := rs8f_h5 m c2 h AV A2 w0 a0 i0 i3 i4 i6 hsz
  have h6 := rs8f_h6 m c2 h AV A2 w0 a0 i0 i3 i4 i6 hsz
  have h7 := rs8f_h7 m c2 h AV A2 w0 a0 i0 i3 i4 i6 hsz
  have h8 := rs8f_h8 m c2 h AV A2 w0 a0 i0 i3 i4 i6 hsz
  have h9 := rs8f_h9 m c2 h AV A2 w0 a0 i0 i3 i4 i6 hsz
  have h10 := rs8f_h10 m c2 h AV A2 w0 a0 i0 i3 i4 i6 hsz
  have h11 := rs8f_h11 m c2 h AV A2 w0 a0 i0 i3 i4 i6 hsz
  have h12 := rs8f_h12 m c2 h AV A2 w0 a0 i0 i3 i4 i6 hsz
  have h13 := rs8f_h13 m c2 h AV A2 w0 a0 i0 i3 i4 i6 hsz
  have h14 := rs8f_h14 m c2 h AV A2 w0 a0 i0 i3 i4 i6 hsz
  have h15 := rs8f_h15 m c2 h AV A2 w0 a0 i0 i3 i4 i6 hsz
  refine Reg.region_all (by kernel_rfl) (rs8fR m c2 h AV A2) (by rw [hn, hsz]; kernel_rfl) (rs8f_stable m c2 h AV A2) (fun i hi => ?_) (fun v w hb hR => ?_)
  · rw [hn] at hi
    match i, List.mem_range.1 hi with
    | 0, _ => exact h0
    | 1, _ => exact h1
    | 2, _ => exact h2
    | 3, _ => exact h3
    | 4, _ => exact h4
    | 5, _ => exact h5
    | 6, _ => exact h6
    | 7, _ => exact h7
    | 8, _ => exact h8
    | 9, _ => exact h9
    | 10, _ => exact h10
    | 11, _ => exact h11
    | 12, _ => exact h12
    | 13, _ => exact h13
    | 14, _ => exact h14
    | 15, _ => exact h15
    | (_ + 16), h => omega
  · rw [hn] at hR ⊢
    have v0 : v 0 = (Value.int IntKind.i64 (m : Int)) := hR 0 (by decide)
    have v1 : v 1 = (Value.slice A2 m c2) := hR 1 (by decide)
    have v2 : v 2 = (Value.int IntKind.i64 (m : Int)) := hR 2 (by decide)
    have v3 : v 3 = (Value.bool false) := hR 3 (by decide)
    have v4 : v 4 = (Value.bool false) := hR 4 (by decide)
    have v5 : v 5 = undef := hR 5 (by decide)
    have v6 : v 6 = undef := hR 6 (by decide)
    have v7 : v 7 = undef := hR 7 (by decide)
    have v8 : v 8 = undef := hR 8 (by decide)
    have v9 : v 9 = undef := hR 9 (by decide)
    have v10 : v 10 = undef := hR 10 (by decide)
    have v11 : v 11 = undef := hR 11 (by decide)
    have v12 : v 12 = undef := hR 12 (by decide)
    have v13 : v 13 = undef := hR 13 (by decide)
    have v14 : v 14 = undef := hR 14 (by decide)
    have v15 : v 15 = (Value.bool false) := hR 15 (by decide)
    rw [hfin v, v0, v1, v2, v3, v4, v5, v6, v7, v8, v9, v10, v11, v12, v13, v14, v15]
    exact hend w  hb 
def rs11R (g o n c h m c2 k B0 : Nat) (A2 : Option Addr) (lx : List UInt8) (xs : List Value) : Nat → Value → World → Prop
  | 0 => fun x_ _ => x_ = (Value.slice none 0 0)
  | 1 => fun x_ _ => x_ = (Value.slice A2 m c2)
  | 2 => fun x_ _ => x_ = (Value.int IntKind.i64 (k : Int))
  | 3 => fun x_ _ => x_ = (Value.slice A2 k c2)
  | 4 => (fun u_ w_ => w_.ownsRow B0 23 32 u_ (0 + k) ([] ++ xs))
  | 5 => fun x_ _ => x_ = (Value.slice (some ⟨g, o, none⟩) n c)
  | 6 => fun x_ _ => x_ = (Value.int IntKind.i64 (h : Int))
  | 7 => fun x_ _ => x_ = (Value.pointer (some ⟨g, o + h * 32, none⟩))
  | 8 => fun x_ _ => x_ = (Value.agg (u8v lx).toArray)
  | 9 => (fun u_ w_ => ∃ b_, u_ = Value.slice (some ⟨b_, 0, none⟩) 1 1 ∧ w_.heap[b_]? = some (.cells (u8v lx).toArray 23 (0, 0)))
  | 10 => (fun u_ w_ => w_.ownsRow B0 23 32 u_ (0 + k + 1) ([] ++ xs ++ u8v lx))
  | 11 => (fun u_ w_ => w_.ownsRow B0 23 32 u_ (0 + k + 1) ([] ++ xs ++ u8v lx))
  | _ => fun _ _ => True
theorem rs11_stable (g o n c h m c2 k B0 : Nat) (A2 : Option Addr) (lx : List UInt8) (xs : List Value) : ∀ i_ u_ w_ w_', (rs11R g o n c h m c2 k B0 A2 lx xs) i_ u_ w_ → Below w_.heap.size w_ w_' → (rs11R g o n c h m c2 k B0 A2 lx xs) i_ u_ w_' := fun i_ u_ w_ w_' h_ hb_ => by
  match i_, h_ with
  | 0, h_ => exact h_
  | 1, h_ => exact h_
  | 2, h_ => exact h_
  | 3, h_ => exact h_
  | 4, h_ => exact (own_below h_ hb_)
  | 5, h_ => exact h_
  | 6, h_ => exact h_
  | 7, h_ => exact h_
  | 8, h_ => exact h_
  | 9, h_ => exact ((by obtain ⟨b_, h1_, h2_⟩ := h_; exact ⟨b_, h1_, (hb_.block _ (blk_lt h2_)).trans h2_⟩))
  | 10, h_ => exact (own_below h_ hb_)
  | 11, h_ => exact (own_below h_ hb_)
  | (_ + 12), _ => trivial
section
variable (g o n c h m c2 k B0 : Nat) (A2 : Option Addr) (lx : List UInt8) (xs : List Value) (w0 : World) (a0 : Act)
variable (hB0 : B0 = w0.heap.size) (hhn : (h : Int) < (n : Int)) (hkk : k ≤ 1000) (hxl : xs.length = k * 32) (hl32 : lx.length = 32)
variable (hld : ∀ W, Below w0.heap.size w0 W → W.rangeAt g (o + h * 32) (u8v lx))
variable (hSi : (Try.prog.info? 23).map (·.size) = some (u8v lx).length)
variable (hx1 : ∀ u ∈ xs, u.oneCell' = true)
variable (hrow : ∀ W, Below w0.heap.size w0 W → RdC W A2 xs)
variable (hs3 : ∀ W : World, (Instr.slice 32 (.slice A2 m c2) none (some (.int .i64 (k : Int))) none).run Try.prog W = .ok (.slice A2 k c2) W)
variable (i0 : a0.eval (.tmp 0) = (Value.slice (some ⟨g, o, none⟩) n c)) (i3 : a0.eval (.tmp 3) = (Value.slice A2 m c2)) (i4 : a0.eval (.tmp 4) = (Value.int IntKind.i64 (h : Int))) (i6 : a0.eval (.tmp 6) = (Value.int IntKind.i64 (k : Int))) (i7 : a0.eval (.tmp 7) = (Value.slice none 0 0)) (hsz : a0.tmps.size = 56)
include g o n c h m c2 k B0 A2 lx xs w0 a0 hB0 hhn hkk hxl hl32 hld hSi hx1 hrow hs3 i0 i3 i4 i6 i7 hsz
set_option maxHeartbeats 4000000 in
set_option maxRecDepth 20000 in
theorem rs11_h0 :
    Reg.OpOK Try.prog (Reg.opsOf Try.f12 11) a0 w0 (rs11R g o n c h m c2 k B0 A2 lx xs) (fun _ _ _ _ => True) 0 := by
    refine Reg.op_ok2 (fun af => { dst := some 39, op := Op.move (Operand.tmp 7), type := 32, pos := "ref.go:158", after := af, guard := none }) #[] (by kernel_rfl) [] (by kernel_rfl) fun af v W hb hd => ?_
    have e7 := (Reg.gfr_eval0 (ops := (Reg.opsOf Try.f12 11)) (a0 := a0) (v := v) (L := []) 7 (by kernel_rfl)).trans i7
    refine ⟨Reg.wanted_none rfl, ?_⟩
    generalize Reg.gfr (Reg.opsOf Try.f12 11) a0 v [] = G at e7 ⊢
    generalize hρ : G.eval = ρ at e7
    have hρ' : G.eval = ρ := hρ
    refine Reg.go_run (Value.slice none 0 0) W ?_ ?_
    · rw [hρ']; simp [execOp, go_sem, e7]
    · exact ⟨Below.refl _ _, rfl⟩
set_option maxHeartbeats 4000000 in
set_option maxRecDepth 20000 in
theorem rs11_h1 :
    Reg.OpOK Try.prog (Reg.opsOf Try.f12 11) a0 w0 (rs11R g o n c h m c2 k B0 A2 lx xs) (fun _ _ _ _ => True) 1 := by
    refine Reg.op_ok2 (fun af => { dst := some 40, op := Op.move (Operand.tmp 3), type := 32, pos := "ref.go:158", after := af, guard := none }) #[] (by kernel_rfl) [] (by kernel_rfl) fun af v W hb hd => ?_
    have e3 := (Reg.gfr_eval0 (ops := (Reg.opsOf Try.f12 11)) (a0 := a0) (v := v) (L := []) 3 (by kernel_rfl)).trans i3
    refine ⟨Reg.wanted_none rfl, ?_⟩
    generalize Reg.gfr (Reg.opsOf Try.f12 11) a0 v [] = G at e3 ⊢
    generalize hρ : G.eval = ρ at e3
    have hρ' : G.eval = ρ := hρ
    refine Reg.go_run (Value.slice A2 m c2) W ?_ ?_
    · rw [hρ']; simp [execOp, go_sem, e3]
    · exact ⟨Below.refl _ _, rfl⟩
set_option maxHeartbeats 4000000 in
set_option maxRecDepth 20000 in
theorem rs11_h2 :
    Reg.OpOK Try.prog (Reg.opsOf Try.f12 11) a0 w0 (rs11R g o n c h m c2 k B0 A2 lx xs) (fun _ _ _ _ => True) 2 := by
    refine Reg.op_ok2 (fun af => { dst := some 41, op := Op.move (Operand.tmp 6), type := 3, pos := "ref.go:158", after := af, guard := none }) #[] (by kernel_rfl) [] (by kernel_rfl) fun af v W hb hd => ?_
    have e6 := (Reg.gfr_eval0 (ops := (Reg.opsOf Try.f12 11)) (a0 := a0) (v := v) (L := []) 6 (by kernel_rfl)).trans i6
    refine ⟨Reg.wanted_none rfl, ?_⟩
    generalize Reg.gfr (Reg.opsOf Try.f12 11) a0 v [] = G at e6 ⊢
    generalize hρ : G.eval = ρ at e6
    have hρ' : G.eval = ρ := hρ
    refine Reg.go_run (Value.int IntKind.i64 (k : Int)) W ?_ ?_
    · rw [hρ']; simp [execOp, go_sem, e6]
    · exact ⟨Below.refl _ _, rfl⟩
set_option maxHeartbeats 4000000 in
set_option maxRecDepth 20000 in
theorem rs11_h3 :
    Reg.OpOK Try.prog (Reg.opsOf Try.f12 11) a0 w0 (rs11R g o n c h m c2 k B0 A2 lx xs) (fun _ _ _ _ => True) 3 := by
    refine Reg.op_ok2 (fun af => { dst := some 42, op := Op.slice 32 (Operand.tmp 40) none (some (Operand.tmp 41)) none, type := 32, pos := "ref.go:158", after := af, guard := none }) #[{ on := 1, ground := Ground.data }, { on := 2, ground := Ground.data }] (by kernel_rfl) [1, 2] (by kernel_rfl) fun af v W hb hd => ?_
    have d1 : v 1 = (Value.slice A2 m c2) := hd 1 (by decide)
    have d2 : v 2 = (Value.int IntKind.i64 (k : Int)) := hd 2 (by decide)
    have e40 := (Reg.gfr_eval (ops := (Reg.opsOf Try.f12 11)) (a0 := a0) (v := v) (L := [1, 2]) 40 1 (by kernel_rfl) (by rw [hsz]; omega)).trans d1
    have e41 := (Reg.gfr_eval (ops := (Reg.opsOf Try.f12 11)) (a0 := a0) (v := v) (L := [1, 2]) 41 2 (by kernel_rfl) (by rw [hsz]; omega)).trans d2
    refine ⟨Reg.wanted_none rfl, ?_⟩
    generalize Reg.gfr (Reg.opsOf Try.f12 11) a0 v [1, 2] = G at e40 e41 ⊢
    generalize hρ : G.eval = ρ at e40 e41
    have hρ' : G.eval = ρ := hρ
    refine Reg.go_run (Value.slice A2 k c2) W ?_ ?_
    · rw [hρ']; simp [execOp, go_sem, e40, e41, hs3]
    · exact ⟨Below.refl _ _, rfl⟩
set_option maxHeartbeats 4000000 in
set_option maxRecDepth 20000 in
theorem rs11_h4 :
    RegC.OpOK Try.prog (Reg.opsOf Try.f12 11) a0 w0 (fun i_ => if i_ = 4 then some 10 else if i_ = 9 then some 10 else none) (rs11R g o n c h m c2 k B0 A2 lx xs) (fun i_ j_ u_ x_ => (i_ = 9 ∧ j_ ∈ [4] ∨ j_ = 9 ∧ i_ ∈ [4]) → u_.ownBlock ≠ x_.ownBlock) 4 := by
    refine RegC.op_ok2 (fun af => { dst := some 43, op := Op.call { callee := Callee.builtin Builtin.append, args := #[Operand.tmp 39, Operand.tmp 42], argTypes := #[32, 32] }, type := 32, pos := "ref.go:158", after := af, guard := none }) #[{ on := 0, ground := Ground.data }, { on := 3, ground := Ground.data }] (by kernel_rfl) [0, 3] (by kernel_rfl) fun af v W hb hd => ?_
    have d0 : v 0 = (Value.slice none 0 0) := hd 0 (by decide) (by decide)
    have d3 : v 3 = (Value.slice A2 k c2) := hd 3 (by decide) (by decide)
    have e39 := (Reg.gfr_eval (ops := (Reg.opsOf Try.f12 11)) (a0 := a0) (v := v) (L := [0, 3]) 39 0 (by kernel_rfl) (by rw [hsz]; omega)).trans d0
    have e42 := (Reg.gfr_eval (ops := (Reg.opsOf Try.f12 11)) (a0 := a0) (v := v) (L := [0, 3]) 42 3 (by kernel_rfl) (by rw [hsz]; omega)).trans d3
    refine ⟨Reg.wanted_none rfl, ?_⟩
    generalize Reg.gfr (Reg.opsOf Try.f12 11) a0 v [0, 3] = G at e39 e42 ⊢
    generalize hρ : G.eval = ρ at e39 e42
    have hρ' : G.eval = ρ := hρ
    obtain ⟨v_, w_, hrun_, ho2_, hg2_, hk2_⟩ := run_appW (P := Try.prog) elt_id 32 W B0 (Value.slice none 0 0) 0 [] (World.ownsRow_nil W B0 23 32) A2 k c2 xs hxl (hrow W hb) hx1 (by unfold maxLen; omega) (by omega) (by rw [hB0]; exact hb.size)
    rw [appK_hide] at hrun_
    have hbk_ := World.ownsRow.lt (World.ownsRow_nil W B0 23 32)
    have hbb_ := hb.grown hg2_ hb.size (fun k_ hk_ => by have := (hbk_ k_ hk_).1; omega)
    refine Reg.go_run v_ w_ (by rw [hρ']; simp [execOp, go_sem, e39, e42, ↓appK_hide, hrun_]) ⟨hbb_, ho2_, ?_⟩
    refine fun j_ x_ hj_ hg_ hx_ hd_ => ?_
    match j_, hj_, hg_, hx_, hd_ with
    | 0, _, _, hx_, _ => exact ⟨hx_, fun h => absurd h (by simp), fun h => absurd h (by simp)⟩
    | 1, _, _, hx_, _ => exact ⟨hx_, fun h => absurd h (by simp), fun h => absurd h (by simp)⟩
    | 2, _, _, hx_, _ => exact ⟨hx_, fun h => absurd h (by simp), fun h => absurd h (by simp)⟩
    | 3, _, _, hx_, _ => exact ⟨hx_, fun h => absurd h (by simp), fun h => absurd h (by simp)⟩
    | 4, hj_, _, _, _ => exact absurd rfl hj_
    | 5, _, _, hx_, _ => exact ⟨hx_, fun h => absurd h (by simp), fun h => absurd h (by simp)⟩
    | 6, _, _, hx_, _ => exact ⟨hx_, fun h => absurd h (by simp), fun h => absurd h (by simp)⟩
    | 7, _, _, hx_, _ => exact ⟨hx_, fun h => absurd h (by simp), fun h => absurd h (by simp)⟩
    | 8, _, _, hx_, _ => exact ⟨hx_, fun h => absurd h (by simp), fun h => absurd h (by simp)⟩
    | 9, _, _, hx_, hd_ => exact (by
          obtain ⟨b_, rfl, hc_⟩ := hx_
          have hlt_ := blk_lt hc_
          have hnn_ : v_.ownBlock ≠ some b_ := fun e_ => by
            rcases hk2_ b_ e_ with h_ | h_
            · exact absurd h_ (by simp [Value.ownBlock])
            · omega
          exact ⟨⟨b_, rfl, (hg2_.block b_ hlt_ (by simp [Value.ownBlock])).trans hc_⟩, fun _ => hnn_, fun _ => Ne.symm hnn_⟩)
    | 10, _, hg_, _, _ => exact absurd hg_ (by rw [show RegC.gone (Reg.opsOf Try.f12 11) (fun i_ => if i_ = 4 then some 10 else if i_ = 9 then some 10 else none) 4 10 = true by kernel_rfl]; decide)
    | 11, _, hg_, _, _ => exact absurd hg_ (by rw [show RegC.gone (Reg.opsOf Try.f12 11) (fun i_ => if i_ = 4 then some 10 else if i_ = 9 then some 10 else none) 4 11 = true by kernel_rfl]; decide)
    | (j_ + 12), _, _, _, _ => exact ⟨trivial, fun h => absurd h (by simp), fun h => absurd h (by simp)⟩
set_option maxHeartbeats 4000000 in
set_option maxRecDepth 20000 in
theorem rs11_h5 :
    Reg.OpOK Try.prog (Reg.opsOf Try.f12 11) a0 w0 (rs11R g o n c h m c2 k B0 A2 lx xs) (fun _ _ _ _ => True) 5 := by
    refine Reg.op_ok2 (fun af => { dst := some 44, op := Op.move (Operand.tmp 0), type := 32, pos := "ref.go:158", after := af, guard := none }) #[] (by kernel_rfl) [] (by kernel_rfl) fun af v W hb hd => ?_
    have e0 := (Reg.gfr_eval0 (ops := (Reg.opsOf Try.f12 11)) (a0 := a0) (v := v) (L := []) 0 (by kernel_rfl)).trans i0
    refine ⟨Reg.wanted_none rfl, ?_⟩
    generalize Reg.gfr (Reg.opsOf Try.f12 11) a0 v [] = G at e0 ⊢
    generalize hρ : G.eval = ρ at e0
    have hρ' : G.eval = ρ := hρ
    refine Reg.go_run (Value.slice (some ⟨g, o, none⟩) n c) W ?_ ?_
    · rw [hρ']; simp [execOp, go_sem, e0]
    · exact ⟨Below.refl _ _, rfl⟩
set_option maxHeartbeats 4000000 in
set_option maxRecDepth 20000 in
theorem rs11_h6 :
    Reg.OpOK Try.prog (Reg.opsOf Try.f12 11) a0 w0 (rs11R g o n c h m c2 k B0 A2 lx xs) (fun _ _ _ _ => True) 6 := by
    refine Reg.op_ok2 (fun af => { dst := some 45, op := Op.move (Operand.tmp 4), type := 3, pos := "ref.go:158", after := af, guard := none }) #[] (by kernel_rfl) [] (by kernel_rfl) fun af v W hb hd => ?_
    have e4 := (Reg.gfr_eval0 (ops := (Reg.opsOf Try.f12 11)) (a0 := a0) (v := v) (L := []) 4 (by kernel_rfl)).trans i4
    refine ⟨Reg.wanted_none rfl, ?_⟩
    generalize Reg.gfr (Reg.opsOf Try.f12 11) a0 v [] = G at e4 ⊢
    generalize hρ : G.eval = ρ at e4
    have hρ' : G.eval = ρ := hρ
    refine Reg.go_run (Value.int IntKind.i64 (h : Int)) W ?_ ?_
    · rw [hρ']; simp [execOp, go_sem, e4]
    · exact ⟨Below.refl _ _, rfl⟩
set_option maxHeartbeats 4000000 in
set_option maxRecDepth 20000 in
theorem rs11_h7 :
    Reg.OpOK Try.prog (Reg.opsOf Try.f12 11) a0 w0 (rs11R g o n c h m c2 k B0 A2 lx xs) (fun _ _ _ _ => True) 7 := by
    refine Reg.op_ok2 (fun af => { dst := some 46, op := Op.indexAddr 32 (Operand.tmp 44) (Operand.tmp 45), type := 0, pos := "ref.go:158", after := af, guard := none }) #[{ on := 5, ground := Ground.data }, { on := 6, ground := Ground.data }] (by kernel_rfl) [5, 6] (by kernel_rfl) fun af v W hb hd => ?_
    have d5 : v 5 = (Value.slice (some ⟨g, o, none⟩) n c) := hd 5 (by decide)
    have d6 : v 6 = (Value.int IntKind.i64 (h : Int)) := hd 6 (by decide)
    have e44 := (Reg.gfr_eval (ops := (Reg.opsOf Try.f12 11)) (a0 := a0) (v := v) (L := [5, 6]) 44 5 (by kernel_rfl) (by rw [hsz]; omega)).trans d5
    have e45 := (Reg.gfr_eval (ops := (Reg.opsOf Try.f12 11)) (a0 := a0) (v := v) (L := [5, 6]) 45 6 (by kernel_rfl) (by rw [hsz]; omega)).trans d6
    refine ⟨Reg.wanted_none rfl, ?_⟩
    generalize Reg.gfr (Reg.opsOf Try.f12 11) a0 v [5, 6] = G at e44 e45 ⊢
    generalize hρ : G.eval = ρ at e44 e45
    have hρ' : G.eval = ρ := hρ
    refine Reg.go_run (Value.pointer (some ⟨g, o + h * 32, none⟩)) W ?_ ?_
    · rw [hρ']; simp [execOp, go_sem, e44, e45, hhn, Try.underlying32, Try.sizeOf23]
    · exact ⟨Below.refl _ _, rfl⟩
set_option maxHeartbeats 4000000 in
set_option maxRecDepth 20000 in
theorem rs11_h8 :
    Reg.OpOK Try.prog (Reg.opsOf Try.f12 11) a0 w0 (rs11R g o n c h m c2 k B0 A2 lx xs) (fun _ _ _ _ => True) 8 := by
    refine Reg.op_ok2 (fun af => { dst := some 47, op := Op.load 23 (Operand.tmp 46), type := 23, pos := "ref.go:158", after := af, guard := none }) #[{ on := 7, ground := Ground.data }] (by kernel_rfl) [7] (by kernel_rfl) fun af v W hb hd => ?_
    have d7 : v 7 = (Value.pointer (some ⟨g, o + h * 32, none⟩)) := hd 7 (by decide)
    have e46 := (Reg.gfr_eval (ops := (Reg.opsOf Try.f12 11)) (a0 := a0) (v := v) (L := [7]) 46 7 (by kernel_rfl) (by rw [hsz]; omega)).trans d7
    refine ⟨Reg.wanted_none rfl, ?_⟩
    generalize Reg.gfr (Reg.opsOf Try.f12 11) a0 v [7] = G at e46 ⊢
    generalize hρ : G.eval = ρ at e46
    have hρ' : G.eval = ρ := hρ
    exact fun K hK => wp_load_mid 23 (.tmp 46) rfl g (o + h * 32) (by rw [hρ']; exact e46) (u8v lx) _ (hld W hb) Try.underlying23 rfl hSi (hK _ _ ⟨Below.refl _ _, rfl⟩)
set_option maxHeartbeats 4000000 in
set_option maxRecDepth 20000 in
theorem rs11_h9 :
    RegC.OpOK Try.prog (Reg.opsOf Try.f12 11) a0 w0 (fun i_ => if i_ = 4 then some 10 else if i_ = 9 then some 10 else none) (rs11R g o n c h m c2 k B0 A2 lx xs) (fun i_ j_ u_ x_ => (i_ = 9 ∧ j_ ∈ [4] ∨ j_ = 9 ∧ i_ ∈ [4]) → u_.ownBlock ≠ x_.ownBlock) 9 := by
    refine RegC.op_ok2 (fun af => { dst := some 48, op := Op.buildSlice 32 1 #[(0, Operand.tmp 47)], type := 32, pos := "ref.go:158", after := af, guard := none }) #[{ on := 8, ground := Ground.data }] (by kernel_rfl) [8] (by kernel_rfl) fun af v W hb hd => ?_
    have d8 : v 8 = (Value.agg (u8v lx).toArray) := hd 8 (by decide) (by decide)
    have e47 := (Reg.gfr_eval (ops := (Reg.opsOf Try.f12 11)) (a0 := a0) (v := v) (L := [8]) 47 8 (by kernel_rfl) (by rw [hsz]; omega)).trans d8
    refine ⟨Reg.wanted_none rfl, ?_⟩
    generalize Reg.gfr (Reg.opsOf Try.f12 11) a0 v [8] = G at e47 ⊢
    generalize hρ : G.eval = ρ at e47
    have hρ' : G.eval = ρ := hρ
    have hbn_ : Below W.heap.size W (W.alloc (.cells (u8v lx).toArray 23)) := (Below.refl _ _).alloc (Nat.le_refl _) _
    refine fun K hK => wp_id1 (.tmp 47) rfl lx hl32 (by rw [hρ']; exact e47) (hK (.slice (some ⟨W.heap.size, 0, none⟩) 1 1) (W.alloc (.cells (u8v lx).toArray 23)) ⟨below_then hb hbn_ (Nat.le_refl _), ⟨_, rfl, heap_alloc_new _ _⟩, ?_⟩)
    refine fun j_ x_ hj_ hg_ hx_ hd_ => ?_
    match j_, hj_, hg_, hx_, hd_ with
    | 0, _, _, hx_, _ => exact ⟨hx_, fun h => absurd h (by simp), fun h => absurd h (by simp)⟩
    | 1, _, _, hx_, _ => exact ⟨hx_, fun h => absurd h (by simp), fun h => absurd h (by simp)⟩
    | 2, _, _, hx_, _ => exact ⟨hx_, fun h => absurd h (by simp), fun h => absurd h (by simp)⟩
    | 3, _, _, hx_, _ => exact ⟨hx_, fun h => absurd h (by simp), fun h => absurd h (by simp)⟩
    | 4, _, _, hx_, hd_ => exact (by
          have hnn_ : (Value.slice (some ⟨W.heap.size, 0, none⟩) 1 1).ownBlock ≠ x_.ownBlock := fun e_ => by
            have := ((World.ownsRow.lt hx_) W.heap.size e_.symm).2
            omega
          exact ⟨own_below hx_ hbn_, fun _ => hnn_, fun _ => Ne.symm hnn_⟩)
    | 5, _, _, hx_, _ => exact ⟨hx_, fun h => absurd h (by simp), fun h => absurd h (by simp)⟩
    | 6, _, _, hx_, _ => exact ⟨hx_, fun h => absurd h (by simp), fun h => absurd h (by simp)⟩
    | 7, _, _, hx_, _ => exact ⟨hx_, fun h => absurd h (by simp), fun h => absurd h (by simp)⟩
    | 8, _, _, hx_, _ => exact ⟨hx_, fun h => absurd h (by simp), fun h => absurd h (by simp)⟩
    | 9, hj_, _, _, _ => exact absurd rfl hj_
    | 10, _, hg_, _, _ => exact absurd hg_ (by rw [show RegC.gone (Reg.opsOf Try.f12 11) (fun i_ => if i_ = 4 then some 10 else if i_ = 9 then some 10 else none) 9 10 = true by kernel_rfl]; decide)
    | 11, _, hg_, _, _ => exact absurd hg_ (by rw [show RegC.gone (Reg.opsOf Try.f12 11) (fun i_ => if i_ = 4 then some 10 else if i_ = 9 then some 10 else none) 9 11 = true by kernel_rfl]; decide)
    | (j_ + 12), _, _, _, _ => exact ⟨trivial, fun h => absurd h (by simp), fun h => absurd h (by simp)⟩
set_option maxHeartbeats 4000000 in
set_option maxRecDepth 20000 in
theorem rs11_h10 :
    RegC.OpOK Try.prog (Reg.opsOf Try.f12 11) a0 w0 (fun i_ => if i_ = 4 then some 10 else if i_ = 9 then some 10 else none) (rs11R g o n c h m c2 k B0 A2 lx xs) (fun i_ j_ u_ x_ => (i_ = 9 ∧ j_ ∈ [4] ∨ j_ = 9 ∧ i_ ∈ [4]) → u_.ownBlock ≠ x_.ownBlock) 10 := by
    refine RegC.op_ok2 (fun af => { dst := some 49, op := Op.call { callee := Callee.builtin Builtin.append, args := #[Operand.tmp 43, Operand.tmp 48], argTypes := #[32, 32] }, type := 32, pos := "ref.go:158", after := af, guard := none }) #[{ on := 4, ground := Ground.data }, { on := 9, ground := Ground.data }, { on := 4, ground := Ground.chain }] (by kernel_rfl) [4, 9, 4] (by kernel_rfl) fun af v W hb hd => ?_
    have d4 : ((fun u_ w_ => w_.ownsRow B0 23 32 u_ (0 + k) ([] ++ xs))) (v 4) W := hd 4 (by decide) (by decide)
    have d9 : ((fun u_ w_ => ∃ b_, u_ = Value.slice (some ⟨b_, 0, none⟩) 1 1 ∧ w_.heap[b_]? = some (.cells (u8v lx).toArray 23 (0, 0)))) (v 9) W := hd 9 (by decide) (by decide)
    have e43 := Reg.gfr_eval (ops := (Reg.opsOf Try.f12 11)) (a0 := a0) (v := v) (L := [4, 9, 4]) 43 4 (by kernel_rfl) (by rw [hsz]; omega)
    have e48 := Reg.gfr_eval (ops := (Reg.opsOf Try.f12 11)) (a0 := a0) (v := v) (L := [4, 9, 4]) 48 9 (by kernel_rfl) (by rw [hsz]; omega)
    refine ⟨Reg.wanted_none rfl, ?_⟩
    generalize Reg.gfr (Reg.opsOf Try.f12 11) a0 v [4, 9, 4] = G at e43 e48 ⊢
    generalize hρ : G.eval = ρ at e43 e48
    have hρ' : G.eval = ρ := hρ
    obtain ⟨bn_, hv9_, hc9_⟩ := d9
    rw [hv9_] at e48
    obtain ⟨v_, w_, hrun_, ho2_, hg2_, hk2_⟩ := run_appW (P := Try.prog) elt_id 32 W B0 (v 4) (0 + k) ([] ++ xs) d4 (some ⟨bn_, 0, none⟩) 1 1 (u8v lx) (by rw [u8v_length, hl32]) (rd_litsW hc9_) (u8v_one lx) (by unfold maxLen; omega) (by omega) (by rw [hB0]; exact hb.size)
    rw [appK_hide] at hrun_
    have hbk_ := World.ownsRow.lt d4
    have hbb_ := hb.grown hg2_ hb.size (fun k_ hk_ => by have := (hbk_ k_ hk_).1; omega)
    refine Reg.go_run v_ w_ (by rw [hρ']; simp [execOp, go_sem, e43, e48, ↓appK_hide, hrun_]) ⟨hbb_, ho2_, ?_⟩
    refine fun j_ x_ hj_ hg_ hx_ hd_ => ?_
    match j_, hj_, hg_, hx_, hd_ with
    | 0, _, _, hx_, _ => exact ⟨hx_, fun h => absurd h (by simp), fun h => absurd h (by simp)⟩
    | 1, _, _, hx_, _ => exact ⟨hx_, fun h => absurd h (by simp), fun h => absurd h (by simp)⟩
    | 2, _, _, hx_, _ => exact ⟨hx_, fun h => absurd h (by simp), fun h => absurd h (by simp)⟩
    | 3, _, _, hx_, _ => exact ⟨hx_, fun h => absurd h (by simp), fun h => absurd h (by simp)⟩
    | 4, _, hg_, _, _ => exact absurd hg_ (by rw [show RegC.gone (Reg.opsOf Try.f12 11) (fun i_ => if i_ = 4 then some 10 else if i_ = 9 then some 10 else none) 10 4 = true by kernel_rfl]; decide)
    | 5, _, _, hx_, _ => exact ⟨hx_, fun h => absurd h (by simp), fun h => absurd h (by simp)⟩
    | 6, _, _, hx_, _ => exact ⟨hx_, fun h => absurd h (by simp), fun h => absurd h (by simp)⟩
    | 7, _, _, hx_, _ => exact ⟨hx_, fun h => absurd h (by simp), fun h => absurd h (by simp)⟩
    | 8, _, _, hx_, _ => exact ⟨hx_, fun h => absurd h (by simp), fun h => absurd h (by simp)⟩
    | 9, _, hg_, _, _ => exact absurd hg_ (by rw [show RegC.gone (Reg.opsOf Try.f12 11) (fun i_ => if i_ = 4 then some 10 else if i_ = 9 then some 10 else none) 10 9 = true by kernel_rfl]; decide)
    | 10, hj_, _, _, _ => exact absurd rfl hj_
    | 11, _, hg_, _, _ => exact absurd hg_ (by rw [show RegC.gone (Reg.opsOf Try.f12 11) (fun i_ => if i_ = 4 then some 10 else if i_ = 9 then some 10 else none) 10 11 = true by kernel_rfl]; decide)
    | (j_ + 12), _, _, _, _ => exact ⟨trivial, fun h => absurd h (by simp), fun h => absurd h (by simp)⟩
set_option maxHeartbeats 4000000 in
set_option maxRecDepth 20000 in
theorem rs11_h11 :
    RegC.OpOK Try.prog (Reg.opsOf Try.f12 11) a0 w0 (fun i_ => if i_ = 4 then some 10 else if i_ = 9 then some 10 else none) (rs11R g o n c h m c2 k B0 A2 lx xs) (fun i_ j_ u_ x_ => (i_ = 9 ∧ j_ ∈ [4] ∨ j_ = 9 ∧ i_ ∈ [4]) → u_.ownBlock ≠ x_.ownBlock) 11 := by
    refine RegC.op_ok2 (fun af => { dst := some 7, op := Op.assign (Operand.tmp 49), type := 32, pos := "ref.go:158", after := af, guard := none }) #[{ on := 10, ground := Ground.data }, { on := 10, ground := Ground.chain }, { on := 0, ground := Ground.phase }, { on := 1, ground := Ground.phase }, { on := 2, ground := Ground.phase }, { on := 3, ground := Ground.phase }, { on := 4, ground := Ground.phase }, { on := 5, ground := Ground.phase }, { on := 6, ground := Ground.phase }, { on := 7, ground := Ground.phase }, { on := 8, ground := Ground.phase }, { on := 9, ground := Ground.phase }, { on := 10, ground := Ground.phase }] (by kernel_rfl) [10, 10, 0, 1, 2, 3, 4, 5, 6, 7, 8, 9, 10] (by kernel_rfl) fun af v W hb hd => ?_
    have d10 : ((fun u_ w_ => w_.ownsRow B0 23 32 u_ (0 + k + 1) ([] ++ xs ++ u8v lx))) (v 10) W := hd 10 (by decide) (by decide)
    have e49 := Reg.gfr_eval (ops := (Reg.opsOf Try.f12 11)) (a0 := a0) (v := v) (L := [10, 10, 0, 1, 2, 3, 4, 5, 6, 7, 8, 9, 10]) 49 10 (by kernel_rfl) (by rw [hsz]; omega)
    refine ⟨Reg.wanted_none rfl, ?_⟩
    generalize Reg.gfr (Reg.opsOf Try.f12 11) a0 v [10, 10, 0, 1, 2, 3, 4, 5, 6, 7, 8, 9, 10] = G at e49 ⊢
    generalize hρ : G.eval = ρ at e49
    have hρ' : G.eval = ρ := hρ
    refine Reg.go_run _ W (by rw [hρ']; simp [execOp, go_sem, e49]) ⟨hb, d10, ?_⟩
    refine fun j_ x_ hj_ hg_ hx_ hd_ => ?_
    match j_, hj_, hg_, hx_, hd_ with
    | 0, _, _, hx_, _ => exact ⟨hx_, fun h => absurd h (by simp), fun h => absurd h (by simp)⟩
    | 1, _, _, hx_, _ => exact ⟨hx_, fun h => absurd h (by simp), fun h => absurd h (by simp)⟩
    | 2, _, _, hx_, _ => exact ⟨hx_, fun h => absurd h (by simp), fun h => absurd h (by simp)⟩
    | 3, _, _, hx_, _ => exact ⟨hx_, fun h => absurd h (by simp), fun h => absurd h (by simp)⟩
    | 4, _, hg_, _, _ => exact absurd hg_ (by rw [show RegC.gone (Reg.opsOf Try.f12 11) (fun i_ => if i_ = 4 then some 10 else if i_ = 9 then some 10 else none) 11 4 = true by kernel_rfl]; decide)
    | 5, _, _, hx_, _ => exact ⟨hx_, fun h => absurd h (by simp), fun h => absurd h (by simp)⟩
    | 6, _, _, hx_, _ => exact ⟨hx_, fun h => absurd h (by simp), fun h => absurd h (by simp)⟩
    | 7, _, _, hx_, _ => exact ⟨hx_, fun h => absurd h (by simp), fun h => absurd h (by simp)⟩
    | 8, _, _, hx_, _ => exact ⟨hx_, fun h => absurd h (by simp), fun h => absurd h (by simp)⟩
    | 9, _, hg_, _, _ => exact absurd hg_ (by rw [show RegC.gone (Reg.opsOf Try.f12 11) (fun i_ => if i_ = 4 then some 10 else if i_ = 9 then some 10 else none) 11 9 = true by kernel_rfl]; decide)
    | 10, _, _, hx_, _ => exact ⟨hx_, fun h => absurd h (by simp), fun h => absurd h (by simp)⟩
    | 11, hj_, _, _, _ => exact absurd rfl hj_
    | (j_ + 12), _, _, _, _ => exact ⟨trivial, fun h => absurd h (by simp), fun h => absurd h (by simp)⟩
end
set_option maxHeartbeats 4000000 in
set_option maxRecDepth 20000 in
theorem rs11 (g o n c h m c2 k B0 : Nat) (A2 : Option Addr) (lx : List UInt8) (xs : List Value) (w0 : World) {s1 s2 s5 s8 s9 s10 s11 s12 s13 s14 s15 s16 s17 s18 s19 s20 s21 s22 s23 s24 s25 s26 s27 s28 s29 s30 s31 s32 s33 s34 s35 s36 s37 s38 s39 s40 s41 s42 s43 s44 s45 s46 s47 s48 s49 s50 s51 s52 s53 s54 s55 : Value}
    (hB0 : B0 = w0.heap.size) (hhn : (h : Int) < (n : Int)) (hkk : k ≤ 1000) (hxl : xs.length = k * 32) (hl32 : lx.length = 32)
    (hld : ∀ W, Below w0.heap.size w0 W → W.rangeAt g (o + h * 32) (u8v lx))
    (hSi : (Try.prog.info? 23).map (·.size) = some (u8v lx).length)
    (hx1 : ∀ u ∈ xs, u.oneCell' = true)
    (hrow : ∀ W, Below w0.heap.size w0 W → RdC W A2 xs)
    (hs3 : ∀ W : World, (Instr.slice 32 (.slice A2 m c2) none (some (.int .i64 (k : Int))) none).run Try.prog W = .ok (.slice A2 k c2) W)
    {Q : Exit → Act → World → Prop}
    (hend : ∀ (w : World) (r7 r43 r48 r49 : Value), Below w0.heap.size w0 w → ((fun u_ w_ => w_.ownsRow B0 23 32 u_ (0 + k + 1) ([] ++ xs ++ u8v lx))) r7 w → Q .normal { tmps := #[(Value.slice (some ⟨g, o, none⟩) n c), s1, s2, (Value.slice A2 m c2), (Value.int IntKind.i64 (h : Int)), s5, (Value.int IntKind.i64 (k : Int)), r7, s8, s9, s10, s11, s12, s13, s14, s15, s16, s17, s18, s19, s20, s21, s22, s23, s24, s25, s26, s27, s28, s29, s30, s31, s32, s33, s34, s35, s36, s37, s38, (Value.slice none 0 0), (Value.slice A2 m c2), (Value.int IntKind.i64 (k : Int)), (Value.slice A2 k c2), r43, (Value.slice (some ⟨g, o, none⟩) n c), (Value.int IntKind.i64 (h : Int)), (Value.pointer (some ⟨g, o + h * 32, none⟩)), (Value.agg (u8v lx).toArray), r48, r49, s50, s51, s52, s53, s54, s55], defers := [] } w) :
    (Code.region 11 (Reg.opsOf Try.f12 11) true).wp Try.prog Q { tmps := #[(Value.slice (some ⟨g, o, none⟩) n c), s1, s2, (Value.slice A2 m c2), (Value.int IntKind.i64 (h : Int)), s5, (Value.int IntKind.i64 (k : Int)), (Value.slice none 0 0), s8, s9, s10, s11, s12, s13, s14, s15, s16, s17, s18, s19, s20, s21, s22, s23, s24, s25, s26, s27, s28, s29, s30, s31, s32, s33, s34, s35, s36, s37, s38, s39, s40, s41, s42, s43, s44, s45, s46, s47, s48, s49, s50, s51, s52, s53, s54, s55], defers := [] } w0 := by
  obtain ⟨a0, ha0⟩ : ∃ a0 : Act, a0 = { tmps := #[(Value.slice (some ⟨g, o, none⟩) n c), s1, s2, (Value.slice A2 m c2), (Value.int IntKind.i64 (h : Int)), s5, (Value.int IntKind.i64 (k : Int)), (Value.slice none 0 0), s8, s9, s10, s11, s12, s13, s14, s15, s16, s17, s18, s19, s20, s21, s22, s23, s24, s25, s26, s27, s28, s29, s30, s31, s32, s33, s34, s35, s36, s37, s38, s39, s40, s41, s42, s43, s44, s45, s46, s47, s48, s49, s50, s51, s52, s53, s54, s55], defers := [] } := ⟨_, rfl⟩
  have hfin : ∀ v : Nat → Value, Reg.gfr (Reg.opsOf Try.f12 11) a0 v (List.range 12) = { tmps := #[(Value.slice (some ⟨g, o, none⟩) n c), s1, s2, (Value.slice A2 m c2), (Value.int IntKind.i64 (h : Int)), s5, (Value.int IntKind.i64 (k : Int)), v 11, s8, s9, s10, s11, s12, s13, s14, s15, s16, s17, s18, s19, s20, s21, s22, s23, s24, s25, s26, s27, s28, s29, s30, s31, s32, s33, s34, s35, s36, s37, s38, v 0, v 1, v 2, v 3, v 4, v 5, v 6, v 7, v 8, v 9, v 10, s50, s51, s52, s53, s54, s55], defers := [] } := fun v => by rw [ha0]; kernel_rfl
  rw [← ha0]
  have i0 : a0.eval (.tmp 0) = (Value.slice (some ⟨g, o, none⟩) n c) := by rw [ha0]; rfl
  have i3 : a0.eval (.tmp 3) = (Value.slice A2 m c2) := by rw [ha0]; rfl
  have i4 : a0.eval (.tmp 4) = (Value.int IntKind.i64 (h : Int)) := by rw [ha0]; rfl
  have i6 : a0.eval (.tmp 6) = (Value.int IntKind.i64 (k : Int)) := by rw [ha0]; rfl
  have i7 : a0.eval (.tmp 7) = (Value.slice none 0 0) := by rw [ha0]; rfl
  have hsz : a0.tmps.size = 56 := by rw [ha0]; rfl
  clear ha0
  have hn : (Reg.opsOf Try.f12 11).size = 12 := by kernel_rfl
  have h0 := rs11_h0 g o n c h m c2 k B0 A2 lx xs w0 a0 hB0 hhn hkk hxl hl32 hld hSi hx1 hrow hs3 i0 i3 i4 i6 i7 hsz
  have h1 := rs11_h1 g o n c h m c2 k B0 A2 lx xs w0 a0 hB0 hhn hkk hxl hl32 hld hSi hx1 hrow hs3 i0 i3 i4 i6 i7 hsz
  have h2 := rs11_h2 g o n c h m c2 k B0 A2 lx xs w0 a0 hB0 hhn hkk hxl hl32 hld hSi hx1 hrow hs3 i0 i3 i4 i6 i7 hsz
  have h3 := rs11_h3 g o n c h m c2 k B0 A2 lx xs w0 a0 hB0 hhn hkk hxl hl32 hld hSi hx1 hrow hs3 i0 i3 i4 i6 i7 hsz
  have h4 := rs11_h4 g o n c h m c2 k B0 A2 lx xs w0 a0 hB0 hhn hkk hxl hl32 hld hSi hx1 hrow hs3 i0 i3 i4 i6 i7 hsz
  have h5 := rs11_h5 g o n c h m c2 k B0 A2 lx xs w0 a0 hB0 hhn hkk hxl hl32 hld hSi hx1 hrow hs3 i0 i3 i4 i6 i7 hsz
  have h6 := rs11_h6 g o n c h m c2 k B0 A2 lx xs w0 a0 hB0 hhn hkk hxl hl32 hld hSi hx1 hrow hs3 i0 i3 i4 i6 i7 hsz
  have h7 := rs11_h7 g o n c h m c2 k B0 A2 lx xs w0 a0 hB0 hhn hkk hxl hl32 hld hSi hx1 hrow hs3 i0 i3 i4 i6 i7 hsz
  have h8 := rs11_h8 g o n c h m c2 k B0 A2 lx xs w0 a0 hB0 hhn hkk hxl hl32 hld hSi hx1 hrow hs3 i0 i3 i4 i6 i7 hsz
  have h9 := rs11_h9 g o n c h m c2 k B0 A2 lx xs w0 a0 hB0 hhn hkk hxl hl32 hld hSi hx1 hrow hs3 i0 i3 i4 i6 i7 hsz
  have h10 := rs11_h10 g o n c h m c2 k B0 A2 lx xs w0 a0 hB0 hhn hkk hxl hl32 hld hSi hx1 hrow hs3 i0 i3 i4 i6 i7 hsz
  have h11 := rs11_h11 g o n c h m c2 k B0 A2 lx xs w0 a0 hB0 hhn hkk hxl hl32 hld hSi hx1 hrow hs3 i0 i3 i4 i6 i7 hsz
  refine RegC.region_all (by kernel_rfl) (fun i_ => if i_ = 4 then some 10 else if i_ = 9 then some 10 else none) (rs11R g o n c h m c2 k B0 A2 lx xs) (fun i_ j_ u_ x_ => (i_ = 9 ∧ j_ ∈ [4] ∨ j_ = 9 ∧ i_ ∈ [4]) → u_.ownBlock ≠ x_.ownBlock) (by rw [hn, hsz]; kernel_rfl) (fun i hi => ?_) (fun v w hb hR => ?_)
  · rw [hn] at hi
    match i, List.mem_range.1 hi with
    | 0, _ => exact RegC.of_old (by kernel_rfl) (rs11_stable g o n c h m c2 k B0 A2 lx xs) (fun j u x => ⟨fun h => absurd h (by simp), fun h => absurd h (by simp)⟩) h0
    | 1, _ => exact RegC.of_old (by kernel_rfl) (rs11_stable g o n c h m c2 k B0 A2 lx xs) (fun j u x => ⟨fun h => absurd h (by simp), fun h => absurd h (by simp)⟩) h1
    | 2, _ => exact RegC.of_old (by kernel_rfl) (rs11_stable g o n c h m c2 k B0 A2 lx xs) (fun j u x => ⟨fun h => absurd h (by simp), fun h => absurd h (by simp)⟩) h2
    | 3, _ => exact RegC.of_old (by kernel_rfl) (rs11_stable g o n c h m c2 k B0 A2 lx xs) (fun j u x => ⟨fun h => absurd h (by simp), fun h => absurd h (by simp)⟩) h3
    | 4, _ => exact h4
    | 5, _ => exact RegC.of_old (by kernel_rfl) (rs11_stable g o n c h m c2 k B0 A2 lx xs) (fun j u x => ⟨fun h => absurd h (by simp), fun h => absurd h (by simp)⟩) h5
    | 6, _ => exact RegC.of_old (by kernel_rfl) (rs11_stable g o n c h m c2 k B0 A2 lx xs) (fun j u x => ⟨fun h => absurd h (by simp), fun h => absurd h (by simp)⟩) h6
    | 7, _ => exact RegC.of_old (by kernel_rfl) (rs11_stable g o n c h m c2 k B0 A2 lx xs) (fun j u x => ⟨fun h => absurd h (by simp), fun h => absurd h (by simp)⟩) h7
    | 8, _ => exact RegC.of_old (by kernel_rfl) (rs11_stable g o n c h m c2 k B0 A2 lx xs) (fun j u x => ⟨fun h => absurd h (by simp), fun h => absurd h (by simp)⟩) h8
    | 9, _ => exact h9
    | 10, _ => exact h10
    | 11, _ => exact h11
    | (_ + 12), h => omega
  · rw [hn] at hR ⊢
    have v0 : v 0 = (Value.slice none 0 0) := hR 0 (by decide) rfl
    have v1 : v 1 = (Value.slice A2 m c2) := hR 1 (by decide) rfl
    have v2 : v 2 = (Value.int IntKind.i64 (k : Int)) := hR 2 (by decide) rfl
    have v3 : v 3 = (Value.slice A2 k c2) := hR 3 (by decide) rfl
    have v5 : v 5 = (Value.slice (some ⟨g, o, none⟩) n c) := hR 5 (by decide) rfl
    have v6 : v 6 = (Value.int IntKind.i64 (h : Int)) := hR 6 (by decide) rfl
    have v7 : v 7 = (Value.pointer (some ⟨g, o + h * 32, none⟩)) := hR 7 (by decide) rfl
    have v8 : v 8 = (Value.agg (u8v lx).toArray) := hR 8 (by decide) rfl
    have k7 : ((fun u_ w_ => w_.ownsRow B0 23 32 u_ (0 + k + 1) ([] ++ xs ++ u8v lx))) (v 11) w := hR 11 (by decide) rfl
    rw [hfin v, v0, v1, v2, v3, v5, v6, v7, v8]
    exact hend w (v 11) (v 4) (v 9) (v 10) hb k7
end Go.Proofs.Ytcdnbidenaljlaa
