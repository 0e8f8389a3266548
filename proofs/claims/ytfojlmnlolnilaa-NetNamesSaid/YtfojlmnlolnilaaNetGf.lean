/- Regions that draw their order: their obligations (printed by regen2.py). -/
import Derived.Test.YtfojlmnlolnilaaNetV
import Derived.Test.YtfojlmnlolnilaaApp
import Derived.Test.YtfojlmnlolnilaaStoAt
import Derived.Test.YtfojlmnlolnilaaNetOp
import Derived.Test.YtfojlmnlolnilaaRegT
namespace Go.Proofs.Ytfojlmnlolnilaa
open Go.RowKit
set_option linter.unusedVariables false
set_option linter.unusedSimpArgs false
set_option linter.unusedSectionVars false
def nspoil6R (gg ss rb ii nn cc fn fc B0 kk mm : Nat) (cut : Bool) (sx : Int) (fA : Option Addr) (cur : Array Value) (L : List UInt8) (ff tt : Int) : Nat → Value → World → Prop
  | 0 => fun x_ _ => x_ = (Value.pointer (some ⟨gg, 0, none⟩))
  | 1 => fun x_ _ => x_ = (Value.pointer (some ⟨gg, 0, none⟩))
  | 2 => fun x_ _ => x_ = (Value.pointer (some ⟨gg, 1, none⟩))
  | 3 => fun x_ _ => x_ = (Value.slice (some ⟨rb, 0, none⟩) nn cc)
  | 4 => fun x_ _ => x_ = (Value.int IntKind.i64 (ii : Int))
  | 5 => fun x_ _ => x_ = (Value.pointer (some ⟨gg, 0, none⟩))
  | 6 => fun x_ _ => x_ = (Value.pointer (some ⟨gg, 0, none⟩))
  | 7 => fun x_ _ => x_ = (Value.pointer (some ⟨gg, 1, none⟩))
  | 8 => fun x_ _ => x_ = (Value.slice (some ⟨rb, 0, none⟩) nn cc)
  | 9 => fun x_ _ => x_ = (Value.int IntKind.i64 (ii : Int))
  | 10 => fun x_ _ => x_ = (Value.pointer (some ⟨rb, ii * 4, none⟩))
  | 11 => fun x_ _ => x_ = (Value.pointer (some ⟨rb, ii * 4, none⟩))
  | 12 => fun x_ _ => x_ = (Value.pointer (some ⟨rb, ii * 4, none⟩))
  | 13 => fun x_ _ => x_ = (Value.int IntKind.i64 ff)
  | 14 => fun x_ _ => x_ = (Value.pointer (some ⟨gg, 0, none⟩))
  | 15 => fun x_ _ => x_ = (Value.pointer (some ⟨gg, 0, none⟩))
  | 16 => fun x_ _ => x_ = (Value.pointer (some ⟨gg, 1, none⟩))
  | 17 => fun x_ _ => x_ = (Value.slice (some ⟨rb, 0, none⟩) nn cc)
  | 18 => fun x_ _ => x_ = (Value.int IntKind.i64 (ii : Int))
  | 19 => fun x_ _ => x_ = (Value.pointer (some ⟨rb, ii * 4, none⟩))
  | 20 => fun x_ _ => x_ = (Value.pointer (some ⟨rb, ii * 4, none⟩))
  | 21 => fun x_ _ => x_ = (Value.pointer (some ⟨rb, ii * 4 + 1, none⟩))
  | 22 => fun x_ _ => x_ = (Value.int IntKind.i64 tt)
  | 23 => fun x_ _ => x_ = (Value.pointer (some ⟨gg, 0, none⟩))
  | 24 => fun x_ _ => x_ = (Value.pointer (some ⟨gg, 0, none⟩))
  | 25 => fun x_ _ => x_ = (Value.pointer (some ⟨gg, 1, none⟩))
  | 26 => fun x_ _ => x_ = (Value.slice (some ⟨rb, 0, none⟩) nn cc)
  | 27 => fun x_ _ => x_ = (Value.int IntKind.i64 (ii : Int))
  | 28 => fun x_ _ => x_ = (Value.pointer (some ⟨rb, ii * 4, none⟩))
  | 29 => fun x_ _ => x_ = (Value.pointer (some ⟨rb, ii * 4, none⟩))
  | 30 => fun x_ _ => x_ = (Value.pointer (some ⟨rb, ii * 4 + 2, none⟩))
  | 31 => fun x_ _ => x_ = (Value.slice fA fn fc)
  | 32 => fun x_ _ => x_ = (Value.agg #[Value.bool cut, Value.int IntKind.i64 sx, Value.int IntKind.u32 (mm : Int)])
  | 33 => (fun u_ w_ => ∃ A_ c_, u_ = Value.slice A_ kk c_ ∧ w_.ownsRow B0 5 1 (Value.slice A_ kk c_) kk (u8v L))
  | 34 => (fun u_ w_ => ∃ A_ c_, u_ = Value.agg #[Value.int IntKind.i64 ff, Value.int IntKind.i64 tt, Value.slice A_ kk c_] ∧ w_.ownsRow B0 5 1 (Value.slice A_ kk c_) kk (u8v L))
  | 35 => (fun u_ w_ => ∃ A_ c_, u_ = Value.agg #[Value.int IntKind.i64 ff, Value.int IntKind.i64 tt, Value.slice A_ kk c_, Value.bool true] ∧ w_.ownsRow B0 5 1 (Value.slice A_ kk c_) kk (u8v L))
  | 36 => fun x_ _ => x_ = (Value.pointer (some ⟨rb, ii * 4, none⟩))
  | _ => fun _ _ => True
theorem nspoil6_stable (gg ss rb ii nn cc fn fc B0 kk mm : Nat) (cut : Bool) (sx : Int) (fA : Option Addr) (cur : Array Value) (L : List UInt8) (ff tt : Int) : ∀ i_ u_ w_ w_', (nspoil6R gg ss rb ii nn cc fn fc B0 kk mm cut sx fA cur L ff tt) i_ u_ w_ → Below w_.heap.size w_ w_' → (nspoil6R gg ss rb ii nn cc fn fc B0 kk mm cut sx fA cur L ff tt) i_ u_ w_' := fun i_ u_ w_ w_' h_ hb_ => by
  match i_, h_ with
  | 0, h_ => exact h_
  | 1, h_ => exact h_
  | 2, h_ => exact h_
  | 3, h_ => exact h_
  | 4, h_ => exact h_
  | 5, h_ => exact h_
  | 6, h_ => exact h_
  | 7, h_ => exact h_
  | 8, h_ => exact h_
  | 9, h_ => exact h_
  | 10, h_ => exact h_
  | 11, h_ => exact h_
  | 12, h_ => exact h_
  | 13, h_ => exact h_
  | 14, h_ => exact h_
  | 15, h_ => exact h_
  | 16, h_ => exact h_
  | 17, h_ => exact h_
  | 18, h_ => exact h_
  | 19, h_ => exact h_
  | 20, h_ => exact h_
  | 21, h_ => exact h_
  | 22, h_ => exact h_
  | 23, h_ => exact h_
  | 24, h_ => exact h_
  | 25, h_ => exact h_
  | 26, h_ => exact h_
  | 27, h_ => exact h_
  | 28, h_ => exact h_
  | 29, h_ => exact h_
  | 30, h_ => exact h_
  | 31, h_ => exact h_
  | 32, h_ => exact h_
  | 33, h_ => exact ((by obtain ⟨A_, c_, h1_, h2_⟩ := h_; exact ⟨A_, c_, h1_, own_below h2_ hb_⟩))
  | 34, h_ => exact ((by obtain ⟨A_, c_, h1_, h2_⟩ := h_; exact ⟨A_, c_, h1_, own_below h2_ hb_⟩))
  | 35, h_ => exact ((by obtain ⟨A_, c_, h1_, h2_⟩ := h_; exact ⟨A_, c_, h1_, own_below h2_ hb_⟩))
  | 36, h_ => exact h_
  | 37, h_ => exact h_
  | (_ + 38), _ => trivial
section
variable (gg ss rb ii nn cc fn fc B0 kk mm : Nat) (cut : Bool) (sx : Int) (fA : Option Addr) (cur : Array Value) (L : List UInt8) (ff tt : Int) (w0 : World) (a0 : Act)
variable (hB0 : B0 ≤ w0.heap.size)
variable (hni : ¬ nn ≤ ii)
variable (hsp : ∀ W, Below w0.heap.size w0 W → Calls Try.prog 10 #[.slice fA fn fc, .agg #[.bool cut, .int .i64 sx, .int .u32 (mm : Int)]] W fun e w' => ∃ A2 c2, e = .returned (.slice A2 kk c2) ∧ w'.ownsRow W.heap.size 5 1 (.slice A2 kk c2) kk (u8v L) ∧ Below W.heap.size W w')
variable (hfit : ii * 4 + 4 ≤ cur.size)
variable (M_ss : ∀ W, Below w0.heap.size w0 W → W.heap[ss]? = some (.cells #[Value.bool cut, Value.int IntKind.i64 sx, Value.int IntKind.u32 (mm : Int)] 25 (0, 0)))
variable (M_rb : ∀ W, Below w0.heap.size w0 W → W.heap[rb]? = some (.cells cur 74 (0, 0)))
variable (CN : ∀ W, Below w0.heap.size w0 W → W.cell? ⟨gg, 1, none⟩ = some (Value.slice (some ⟨rb, 0, none⟩) nn cc))
variable (C0 : ∀ W, Below w0.heap.size w0 W → W.cell? ⟨rb, ii * 4, none⟩ = some (Value.int IntKind.i64 ff))
variable (C1 : ∀ W, Below w0.heap.size w0 W → W.cell? ⟨rb, ii * 4 + 1, none⟩ = some (Value.int IntKind.i64 tt))
variable (C2 : ∀ W, Below w0.heap.size w0 W → W.cell? ⟨rb, ii * 4 + 2, none⟩ = some (Value.slice fA fn fc))
variable (i0 : a0.eval (.tmp 0) = (Value.pointer (some ⟨gg, 0, none⟩))) (i1 : a0.eval (.tmp 1) = (Value.int IntKind.i64 (ii : Int))) (i5 : a0.eval (.tmp 5) = (Value.pointer (some ⟨ss, 0, none⟩))) (hsz : a0.tmps.size = 59)
include gg ss rb ii nn cc fn fc B0 kk mm cut sx fA cur L ff tt w0 a0 hB0 hni hsp hfit M_ss M_rb CN C0 C1 C2 i0 i1 i5 hsz
set_option maxHeartbeats 4000000 in
set_option maxRecDepth 20000 in
theorem nspoil6_h0 :
    Reg.OpOK Try.prog (Reg.opsOf Try.f23 6) a0 w0 (nspoil6R gg ss rb ii nn cc fn fc B0 kk mm cut sx fA cur L ff tt) (fun _ _ _ _ => True) 0 := by
    refine Reg.op_ok2 (fun af => { dst := some 22, op := Op.move (Operand.tmp 0), type := 30, pos := "net.go:151", after := af, guard := none }) #[] (by kernel_rfl) [] (by kernel_rfl) fun af v W hb hd => ?_
    have e0 := (Reg.gfr_eval0 (ops := (Reg.opsOf Try.f23 6)) (a0 := a0) (v := v) (L := []) 0 (by kernel_rfl)).trans i0
    refine ⟨Reg.wanted_none rfl, ?_⟩
    generalize Reg.gfr (Reg.opsOf Try.f23 6) a0 v [] = G at e0 ⊢
    generalize hρ : G.eval = ρ at e0
    have hρ' : G.eval = ρ := hρ
    refine Reg.go_run (Value.pointer (some ⟨gg, 0, none⟩)) W ?_ ?_
    · rw [hρ']; simp [execOp, go_sem, e0]
    · exact ⟨Below.refl _ _, rfl⟩
set_option maxHeartbeats 4000000 in
set_option maxRecDepth 20000 in
theorem nspoil6_h1 :
    Reg.OpOK Try.prog (Reg.opsOf Try.f23 6) a0 w0 (nspoil6R gg ss rb ii nn cc fn fc B0 kk mm cut sx fA cur L ff tt) (fun _ _ _ _ => True) 1 := by
    refine Reg.op_ok2 (fun af => { dst := some 23, op := Op.nilCheck (Operand.tmp 22), type := 0, pos := "net.go:151", after := af, guard := none }) #[{ on := 0, ground := Ground.data }] (by kernel_rfl) [0] (by kernel_rfl) fun af v W hb hd => ?_
    have d0 : v 0 = (Value.pointer (some ⟨gg, 0, none⟩)) := hd 0 (by decide)
    have e22 := (Reg.gfr_eval (ops := (Reg.opsOf Try.f23 6)) (a0 := a0) (v := v) (L := [0]) 22 0 (by kernel_rfl) (by rw [hsz]; omega)).trans d0
    refine ⟨Reg.wanted_none rfl, ?_⟩
    generalize Reg.gfr (Reg.opsOf Try.f23 6) a0 v [0] = G at e22 ⊢
    generalize hρ : G.eval = ρ at e22
    have hρ' : G.eval = ρ := hρ
    refine Reg.go_run (Value.pointer (some ⟨gg, 0, none⟩)) W ?_ ?_
    · rw [hρ']; simp [execOp, go_sem, e22]
    · exact ⟨Below.refl _ _, rfl⟩
set_option maxHeartbeats 4000000 in
set_option maxRecDepth 20000 in
theorem nspoil6_h2 :
    Reg.OpOK Try.prog (Reg.opsOf Try.f23 6) a0 w0 (nspoil6R gg ss rb ii nn cc fn fc B0 kk mm cut sx fA cur L ff tt) (fun _ _ _ _ => True) 2 := by
    refine Reg.op_ok2 (fun af => { dst := some 24, op := Op.fieldAddr 70 (Operand.tmp 23) 1, type := 0, pos := "net.go:151", after := af, guard := none }) #[{ on := 1, ground := Ground.data }] (by kernel_rfl) [1] (by kernel_rfl) fun af v W hb hd => ?_
    have d1 : v 1 = (Value.pointer (some ⟨gg, 0, none⟩)) := hd 1 (by decide)
    have e23 := (Reg.gfr_eval (ops := (Reg.opsOf Try.f23 6)) (a0 := a0) (v := v) (L := [1]) 23 1 (by kernel_rfl) (by rw [hsz]; omega)).trans d1
    refine ⟨Reg.wanted_none rfl, ?_⟩
    generalize Reg.gfr (Reg.opsOf Try.f23 6) a0 v [1] = G at e23 ⊢
    generalize hρ : G.eval = ρ at e23
    have hρ' : G.eval = ρ := hρ
    refine Reg.go_run (Value.pointer (some ⟨gg, 1, none⟩)) W ?_ ?_
    · rw [hρ']; simp [execOp, go_sem, e23]
    · exact ⟨Below.refl _ _, rfl⟩
set_option maxHeartbeats 4000000 in
set_option maxRecDepth 20000 in
theorem nspoil6_h3 :
    Reg.OpOK Try.prog (Reg.opsOf Try.f23 6) a0 w0 (nspoil6R gg ss rb ii nn cc fn fc B0 kk mm cut sx fA cur L ff tt) (fun _ _ _ _ => True) 3 := by
    refine Reg.op_ok2 (fun af => { dst := some 25, op := Op.load 67 (Operand.tmp 24), type := 67, pos := "net.go:151", after := af, guard := none }) #[{ on := 2, ground := Ground.data }] (by kernel_rfl) [2] (by kernel_rfl) fun af v W hb hd => ?_
    have d2 : v 2 = (Value.pointer (some ⟨gg, 1, none⟩)) := hd 2 (by decide)
    have e24 := (Reg.gfr_eval (ops := (Reg.opsOf Try.f23 6)) (a0 := a0) (v := v) (L := [2]) 24 2 (by kernel_rfl) (by rw [hsz]; omega)).trans d2
    refine ⟨Reg.wanted_none rfl, ?_⟩
    generalize Reg.gfr (Reg.opsOf Try.f23 6) a0 v [2] = G at e24 ⊢
    generalize hρ : G.eval = ρ at e24
    have hρ' : G.eval = ρ := hρ
    refine Reg.go_run (Value.slice (some ⟨rb, 0, none⟩) nn cc) W ?_ ?_
    · rw [hρ']; simp [execOp, go_sem, e24, CN W hb]
    · exact ⟨Below.refl _ _, rfl⟩
set_option maxHeartbeats 4000000 in
set_option maxRecDepth 20000 in
theorem nspoil6_h4 :
    Reg.OpOK Try.prog (Reg.opsOf Try.f23 6) a0 w0 (nspoil6R gg ss rb ii nn cc fn fc B0 kk mm cut sx fA cur L ff tt) (fun _ _ _ _ => True) 4 := by
    refine Reg.op_ok2 (fun af => { dst := some 26, op := Op.move (Operand.tmp 1), type := 3, pos := "net.go:151", after := af, guard := none }) #[] (by kernel_rfl) [] (by kernel_rfl) fun af v W hb hd => ?_
    have e1 := (Reg.gfr_eval0 (ops := (Reg.opsOf Try.f23 6)) (a0 := a0) (v := v) (L := []) 1 (by kernel_rfl)).trans i1
    refine ⟨Reg.wanted_none rfl, ?_⟩
    generalize Reg.gfr (Reg.opsOf Try.f23 6) a0 v [] = G at e1 ⊢
    generalize hρ : G.eval = ρ at e1
    have hρ' : G.eval = ρ := hρ
    refine Reg.go_run (Value.int IntKind.i64 (ii : Int)) W ?_ ?_
    · rw [hρ']; simp [execOp, go_sem, e1]
    · exact ⟨Below.refl _ _, rfl⟩
set_option maxHeartbeats 4000000 in
set_option maxRecDepth 20000 in
theorem nspoil6_h5 :
    Reg.OpOK Try.prog (Reg.opsOf Try.f23 6) a0 w0 (nspoil6R gg ss rb ii nn cc fn fc B0 kk mm cut sx fA cur L ff tt) (fun _ _ _ _ => True) 5 := by
    refine Reg.op_ok2 (fun af => { dst := some 27, op := Op.move (Operand.tmp 0), type := 30, pos := "net.go:151", after := af, guard := none }) #[] (by kernel_rfl) [] (by kernel_rfl) fun af v W hb hd => ?_
    have e0 := (Reg.gfr_eval0 (ops := (Reg.opsOf Try.f23 6)) (a0 := a0) (v := v) (L := []) 0 (by kernel_rfl)).trans i0
    refine ⟨Reg.wanted_none rfl, ?_⟩
    generalize Reg.gfr (Reg.opsOf Try.f23 6) a0 v [] = G at e0 ⊢
    generalize hρ : G.eval = ρ at e0
    have hρ' : G.eval = ρ := hρ
    refine Reg.go_run (Value.pointer (some ⟨gg, 0, none⟩)) W ?_ ?_
    · rw [hρ']; simp [execOp, go_sem, e0]
    · exact ⟨Below.refl _ _, rfl⟩
set_option maxHeartbeats 4000000 in
set_option maxRecDepth 20000 in
theorem nspoil6_h6 :
    Reg.OpOK Try.prog (Reg.opsOf Try.f23 6) a0 w0 (nspoil6R gg ss rb ii nn cc fn fc B0 kk mm cut sx fA cur L ff tt) (fun _ _ _ _ => True) 6 := by
    refine Reg.op_ok2 (fun af => { dst := some 28, op := Op.nilCheck (Operand.tmp 27), type := 0, pos := "net.go:151", after := af, guard := none }) #[{ on := 5, ground := Ground.data }] (by kernel_rfl) [5] (by kernel_rfl) fun af v W hb hd => ?_
    have d5 : v 5 = (Value.pointer (some ⟨gg, 0, none⟩)) := hd 5 (by decide)
    have e27 := (Reg.gfr_eval (ops := (Reg.opsOf Try.f23 6)) (a0 := a0) (v := v) (L := [5]) 27 5 (by kernel_rfl) (by rw [hsz]; omega)).trans d5
    refine ⟨Reg.wanted_none rfl, ?_⟩
    generalize Reg.gfr (Reg.opsOf Try.f23 6) a0 v [5] = G at e27 ⊢
    generalize hρ : G.eval = ρ at e27
    have hρ' : G.eval = ρ := hρ
    refine Reg.go_run (Value.pointer (some ⟨gg, 0, none⟩)) W ?_ ?_
    · rw [hρ']; simp [execOp, go_sem, e27]
    · exact ⟨Below.refl _ _, rfl⟩
set_option maxHeartbeats 4000000 in
set_option maxRecDepth 20000 in
theorem nspoil6_h7 :
    Reg.OpOK Try.prog (Reg.opsOf Try.f23 6) a0 w0 (nspoil6R gg ss rb ii nn cc fn fc B0 kk mm cut sx fA cur L ff tt) (fun _ _ _ _ => True) 7 := by
    refine Reg.op_ok2 (fun af => { dst := some 29, op := Op.fieldAddr 70 (Operand.tmp 28) 1, type := 0, pos := "net.go:151", after := af, guard := none }) #[{ on := 6, ground := Ground.data }] (by kernel_rfl) [6] (by kernel_rfl) fun af v W hb hd => ?_
    have d6 : v 6 = (Value.pointer (some ⟨gg, 0, none⟩)) := hd 6 (by decide)
    have e28 := (Reg.gfr_eval (ops := (Reg.opsOf Try.f23 6)) (a0 := a0) (v := v) (L := [6]) 28 6 (by kernel_rfl) (by rw [hsz]; omega)).trans d6
    refine ⟨Reg.wanted_none rfl, ?_⟩
    generalize Reg.gfr (Reg.opsOf Try.f23 6) a0 v [6] = G at e28 ⊢
    generalize hρ : G.eval = ρ at e28
    have hρ' : G.eval = ρ := hρ
    refine Reg.go_run (Value.pointer (some ⟨gg, 1, none⟩)) W ?_ ?_
    · rw [hρ']; simp [execOp, go_sem, e28]
    · exact ⟨Below.refl _ _, rfl⟩
set_option maxHeartbeats 4000000 in
set_option maxRecDepth 20000 in
theorem nspoil6_h8 :
    Reg.OpOK Try.prog (Reg.opsOf Try.f23 6) a0 w0 (nspoil6R gg ss rb ii nn cc fn fc B0 kk mm cut sx fA cur L ff tt) (fun _ _ _ _ => True) 8 := by
    refine Reg.op_ok2 (fun af => { dst := some 30, op := Op.load 67 (Operand.tmp 29), type := 67, pos := "net.go:151", after := af, guard := none }) #[{ on := 7, ground := Ground.data }] (by kernel_rfl) [7] (by kernel_rfl) fun af v W hb hd => ?_
    have d7 : v 7 = (Value.pointer (some ⟨gg, 1, none⟩)) := hd 7 (by decide)
    have e29 := (Reg.gfr_eval (ops := (Reg.opsOf Try.f23 6)) (a0 := a0) (v := v) (L := [7]) 29 7 (by kernel_rfl) (by rw [hsz]; omega)).trans d7
    refine ⟨Reg.wanted_none rfl, ?_⟩
    generalize Reg.gfr (Reg.opsOf Try.f23 6) a0 v [7] = G at e29 ⊢
    generalize hρ : G.eval = ρ at e29
    have hρ' : G.eval = ρ := hρ
    refine Reg.go_run (Value.slice (some ⟨rb, 0, none⟩) nn cc) W ?_ ?_
    · rw [hρ']; simp [execOp, go_sem, e29, CN W hb]
    · exact ⟨Below.refl _ _, rfl⟩
set_option maxHeartbeats 4000000 in
set_option maxRecDepth 20000 in
theorem nspoil6_h9 :
    Reg.OpOK Try.prog (Reg.opsOf Try.f23 6) a0 w0 (nspoil6R gg ss rb ii nn cc fn fc B0 kk mm cut sx fA cur L ff tt) (fun _ _ _ _ => True) 9 := by
    refine Reg.op_ok2 (fun af => { dst := some 31, op := Op.move (Operand.tmp 1), type := 3, pos := "net.go:151", after := af, guard := none }) #[] (by kernel_rfl) [] (by kernel_rfl) fun af v W hb hd => ?_
    have e1 := (Reg.gfr_eval0 (ops := (Reg.opsOf Try.f23 6)) (a0 := a0) (v := v) (L := []) 1 (by kernel_rfl)).trans i1
    refine ⟨Reg.wanted_none rfl, ?_⟩
    generalize Reg.gfr (Reg.opsOf Try.f23 6) a0 v [] = G at e1 ⊢
    generalize hρ : G.eval = ρ at e1
    have hρ' : G.eval = ρ := hρ
    refine Reg.go_run (Value.int IntKind.i64 (ii : Int)) W ?_ ?_
    · rw [hρ']; simp [execOp, go_sem, e1]
    · exact ⟨Below.refl _ _, rfl⟩
set_option maxHeartbeats 4000000 in
set_option maxRecDepth 20000 in
theorem nspoil6_h10 :
    Reg.OpOK Try.prog (Reg.opsOf Try.f23 6) a0 w0 (nspoil6R gg ss rb ii nn cc fn fc B0 kk mm cut sx fA cur L ff tt) (fun _ _ _ _ => True) 10 := by
    refine Reg.op_ok2 (fun af => { dst := some 32, op := Op.indexAddr 67 (Operand.tmp 30) (Operand.tmp 31), type := 0, pos := "net.go:151", after := af, guard := none }) #[{ on := 8, ground := Ground.data }, { on := 9, ground := Ground.data }] (by kernel_rfl) [8, 9] (by kernel_rfl) fun af v W hb hd => ?_
    have d8 : v 8 = (Value.slice (some ⟨rb, 0, none⟩) nn cc) := hd 8 (by decide)
    have d9 : v 9 = (Value.int IntKind.i64 (ii : Int)) := hd 9 (by decide)
    have e30 := (Reg.gfr_eval (ops := (Reg.opsOf Try.f23 6)) (a0 := a0) (v := v) (L := [8, 9]) 30 8 (by kernel_rfl) (by rw [hsz]; omega)).trans d8
    have e31 := (Reg.gfr_eval (ops := (Reg.opsOf Try.f23 6)) (a0 := a0) (v := v) (L := [8, 9]) 31 9 (by kernel_rfl) (by rw [hsz]; omega)).trans d9
    refine ⟨Reg.wanted_none rfl, ?_⟩
    generalize Reg.gfr (Reg.opsOf Try.f23 6) a0 v [8, 9] = G at e30 e31 ⊢
    generalize hρ : G.eval = ρ at e30 e31
    have hρ' : G.eval = ρ := hρ
    refine Reg.go_run (Value.pointer (some ⟨rb, ii * 4, none⟩)) W ?_ ?_
    · rw [hρ']; simp [execOp, go_sem, e30, e31, hni]
    · exact ⟨Below.refl _ _, rfl⟩
set_option maxHeartbeats 4000000 in
set_option maxRecDepth 20000 in
theorem nspoil6_h11 :
    Reg.OpOK Try.prog (Reg.opsOf Try.f23 6) a0 w0 (nspoil6R gg ss rb ii nn cc fn fc B0 kk mm cut sx fA cur L ff tt) (fun _ _ _ _ => True) 11 := by
    refine Reg.op_ok2 (fun af => { dst := some 33, op := Op.fieldAddr 74 (Operand.tmp 32) 0, type := 0, pos := "net.go:151", after := af, guard := none }) #[{ on := 10, ground := Ground.data }] (by kernel_rfl) [10] (by kernel_rfl) fun af v W hb hd => ?_
    have d10 : v 10 = (Value.pointer (some ⟨rb, ii * 4, none⟩)) := hd 10 (by decide)
    have e32 := (Reg.gfr_eval (ops := (Reg.opsOf Try.f23 6)) (a0 := a0) (v := v) (L := [10]) 32 10 (by kernel_rfl) (by rw [hsz]; omega)).trans d10
    refine ⟨Reg.wanted_none rfl, ?_⟩
    generalize Reg.gfr (Reg.opsOf Try.f23 6) a0 v [10] = G at e32 ⊢
    generalize hρ : G.eval = ρ at e32
    have hρ' : G.eval = ρ := hρ
    refine Reg.go_run (Value.pointer (some ⟨rb, ii * 4, none⟩)) W ?_ ?_
    · rw [hρ']; simp [execOp, go_sem, e32]
    · exact ⟨Below.refl _ _, rfl⟩
set_option maxHeartbeats 4000000 in
set_option maxRecDepth 20000 in
theorem nspoil6_h12 :
    Reg.OpOK Try.prog (Reg.opsOf Try.f23 6) a0 w0 (nspoil6R gg ss rb ii nn cc fn fc B0 kk mm cut sx fA cur L ff tt) (fun _ _ _ _ => True) 12 := by
    refine Reg.op_ok2 (fun af => { dst := some 34, op := Op.fieldAddr 38 (Operand.tmp 33) 0, type := 0, pos := "net.go:151", after := af, guard := none }) #[{ on := 11, ground := Ground.data }] (by kernel_rfl) [11] (by kernel_rfl) fun af v W hb hd => ?_
    have d11 : v 11 = (Value.pointer (some ⟨rb, ii * 4, none⟩)) := hd 11 (by decide)
    have e33 := (Reg.gfr_eval (ops := (Reg.opsOf Try.f23 6)) (a0 := a0) (v := v) (L := [11]) 33 11 (by kernel_rfl) (by rw [hsz]; omega)).trans d11
    refine ⟨Reg.wanted_none rfl, ?_⟩
    generalize Reg.gfr (Reg.opsOf Try.f23 6) a0 v [11] = G at e33 ⊢
    generalize hρ : G.eval = ρ at e33
    have hρ' : G.eval = ρ := hρ
    refine Reg.go_run (Value.pointer (some ⟨rb, ii * 4, none⟩)) W ?_ ?_
    · rw [hρ']; simp [execOp, go_sem, e33]
    · exact ⟨Below.refl _ _, rfl⟩
set_option maxHeartbeats 4000000 in
set_option maxRecDepth 20000 in
theorem nspoil6_h13 :
    Reg.OpOK Try.prog (Reg.opsOf Try.f23 6) a0 w0 (nspoil6R gg ss rb ii nn cc fn fc B0 kk mm cut sx fA cur L ff tt) (fun _ _ _ _ => True) 13 := by
    refine Reg.op_ok2 (fun af => { dst := some 35, op := Op.load 3 (Operand.tmp 34), type := 3, pos := "net.go:151", after := af, guard := none }) #[{ on := 12, ground := Ground.data }] (by kernel_rfl) [12] (by kernel_rfl) fun af v W hb hd => ?_
    have d12 : v 12 = (Value.pointer (some ⟨rb, ii * 4, none⟩)) := hd 12 (by decide)
    have e34 := (Reg.gfr_eval (ops := (Reg.opsOf Try.f23 6)) (a0 := a0) (v := v) (L := [12]) 34 12 (by kernel_rfl) (by rw [hsz]; omega)).trans d12
    refine ⟨Reg.wanted_none rfl, ?_⟩
    generalize Reg.gfr (Reg.opsOf Try.f23 6) a0 v [12] = G at e34 ⊢
    generalize hρ : G.eval = ρ at e34
    have hρ' : G.eval = ρ := hρ
    refine Reg.go_run (Value.int IntKind.i64 ff) W ?_ ?_
    · rw [hρ']; simp [execOp, go_sem, e34, C0 W hb]
    · exact ⟨Below.refl _ _, rfl⟩
set_option maxHeartbeats 4000000 in
set_option maxRecDepth 20000 in
theorem nspoil6_h14 :
    Reg.OpOK Try.prog (Reg.opsOf Try.f23 6) a0 w0 (nspoil6R gg ss rb ii nn cc fn fc B0 kk mm cut sx fA cur L ff tt) (fun _ _ _ _ => True) 14 := by
    refine Reg.op_ok2 (fun af => { dst := some 36, op := Op.move (Operand.tmp 0), type := 30, pos := "net.go:151", after := af, guard := none }) #[] (by kernel_rfl) [] (by kernel_rfl) fun af v W hb hd => ?_
    have e0 := (Reg.gfr_eval0 (ops := (Reg.opsOf Try.f23 6)) (a0 := a0) (v := v) (L := []) 0 (by kernel_rfl)).trans i0
    refine ⟨Reg.wanted_none rfl, ?_⟩
    generalize Reg.gfr (Reg.opsOf Try.f23 6) a0 v [] = G at e0 ⊢
    generalize hρ : G.eval = ρ at e0
    have hρ' : G.eval = ρ := hρ
    refine Reg.go_run (Value.pointer (some ⟨gg, 0, none⟩)) W ?_ ?_
    · rw [hρ']; simp [execOp, go_sem, e0]
    · exact ⟨Below.refl _ _, rfl⟩
set_option maxHeartbeats 4000000 in
set_option maxRecDepth 20000 in
theorem nspoil6_h15 :
    Reg.OpOK Try.prog (Reg.opsOf Try.f23 6) a0 w0 (nspoil6R gg ss rb ii nn cc fn fc B0 kk mm cut sx fA cur L ff tt) (fun _ _ _ _ => True) 15 := by
    refine Reg.op_ok2 (fun af => { dst := some 37, op := Op.nilCheck (Operand.tmp 36), type := 0, pos := "net.go:151", after := af, guard := none }) #[{ on := 14, ground := Ground.data }] (by kernel_rfl) [14] (by kernel_rfl) fun af v W hb hd => ?_
    have d14 : v 14 = (Value.pointer (some ⟨gg, 0, none⟩)) := hd 14 (by decide)
    have e36 := (Reg.gfr_eval (ops := (Reg.opsOf Try.f23 6)) (a0 := a0) (v := v) (L := [14]) 36 14 (by kernel_rfl) (by rw [hsz]; omega)).trans d14
    refine ⟨Reg.wanted_none rfl, ?_⟩
    generalize Reg.gfr (Reg.opsOf Try.f23 6) a0 v [14] = G at e36 ⊢
    generalize hρ : G.eval = ρ at e36
    have hρ' : G.eval = ρ := hρ
    refine Reg.go_run (Value.pointer (some ⟨gg, 0, none⟩)) W ?_ ?_
    · rw [hρ']; simp [execOp, go_sem, e36]
    · exact ⟨Below.refl _ _, rfl⟩
set_option maxHeartbeats 4000000 in
set_option maxRecDepth 20000 in
theorem nspoil6_h16 :
    Reg.OpOK Try.prog (Reg.opsOf Try.f23 6) a0 w0 (nspoil6R gg ss rb ii nn cc fn fc B0 kk mm cut sx fA cur L ff tt) (fun _ _ _ _ => True) 16 := by
    refine Reg.op_ok2 (fun af => { dst := some 38, op := Op.fieldAddr 70 (Operand.tmp 37) 1, type := 0, pos := "net.go:151", after := af, guard := none }) #[{ on := 15, ground := Ground.data }] (by kernel_rfl) [15] (by kernel_rfl) fun af v W hb hd => ?_
    have d15 : v 15 = (Value.pointer (some ⟨gg, 0, none⟩)) := hd 15 (by decide)
    have e37 := (Reg.gfr_eval (ops := (Reg.opsOf Try.f23 6)) (a0 := a0) (v := v) (L := [15]) 37 15 (by kernel_rfl) (by rw [hsz]; omega)).trans d15
    refine ⟨Reg.wanted_none rfl, ?_⟩
    generalize Reg.gfr (Reg.opsOf Try.f23 6) a0 v [15] = G at e37 ⊢
    generalize hρ : G.eval = ρ at e37
    have hρ' : G.eval = ρ := hρ
    refine Reg.go_run (Value.pointer (some ⟨gg, 1, none⟩)) W ?_ ?_
    · rw [hρ']; simp [execOp, go_sem, e37]
    · exact ⟨Below.refl _ _, rfl⟩
set_option maxHeartbeats 4000000 in
set_option maxRecDepth 20000 in
theorem nspoil6_h17 :
    Reg.OpOK Try.prog (Reg.opsOf Try.f23 6) a0 w0 (nspoil6R gg ss rb ii nn cc fn fc B0 kk mm cut sx fA cur L ff tt) (fun _ _ _ _ => True) 17 := by
    refine Reg.op_ok2 (fun af => { dst := some 39, op := Op.load 67 (Operand.tmp 38), type := 67, pos := "net.go:151", after := af, guard := none }) #[{ on := 16, ground := Ground.data }] (by kernel_rfl) [16] (by kernel_rfl) fun af v W hb hd => ?_
    have d16 : v 16 = (Value.pointer (some ⟨gg, 1, none⟩)) := hd 16 (by decide)
    have e38 := (Reg.gfr_eval (ops := (Reg.opsOf Try.f23 6)) (a0 := a0) (v := v) (L := [16]) 38 16 (by kernel_rfl) (by rw [hsz]; omega)).trans d16
    refine ⟨Reg.wanted_none rfl, ?_⟩
    generalize Reg.gfr (Reg.opsOf Try.f23 6) a0 v [16] = G at e38 ⊢
    generalize hρ : G.eval = ρ at e38
    have hρ' : G.eval = ρ := hρ
    refine Reg.go_run (Value.slice (some ⟨rb, 0, none⟩) nn cc) W ?_ ?_
    · rw [hρ']; simp [execOp, go_sem, e38, CN W hb]
    · exact ⟨Below.refl _ _, rfl⟩
set_option maxHeartbeats 4000000 in
set_option maxRecDepth 20000 in
theorem nspoil6_h18 :
    Reg.OpOK Try.prog (Reg.opsOf Try.f23 6) a0 w0 (nspoil6R gg ss rb ii nn cc fn fc B0 kk mm cut sx fA cur L ff tt) (fun _ _ _ _ => True) 18 := by
    refine Reg.op_ok2 (fun af => { dst := some 40, op := Op.move (Operand.tmp 1), type := 3, pos := "net.go:151", after := af, guard := none }) #[] (by kernel_rfl) [] (by kernel_rfl) fun af v W hb hd => ?_
    have e1 := (Reg.gfr_eval0 (ops := (Reg.opsOf Try.f23 6)) (a0 := a0) (v := v) (L := []) 1 (by kernel_rfl)).trans i1
    refine ⟨Reg.wanted_none rfl, ?_⟩
    generalize Reg.gfr (Reg.opsOf Try.f23 6) a0 v [] = G at e1 ⊢
    generalize hρ : G.eval = ρ at e1
    have hρ' : G.eval = ρ := hρ
    refine Reg.go_run (Value.int IntKind.i64 (ii : Int)) W ?_ ?_
    · rw [hρ']; simp [execOp, go_sem, e1]
    · exact ⟨Below.refl _ _, rfl⟩
set_option maxHeartbeats 4000000 in
set_option maxRecDepth 20000 in
theorem nspoil6_h19 :
    Reg.OpOK Try.prog (Reg.opsOf Try.f23 6) a0 w0 (nspoil6R gg ss rb ii nn cc fn fc B0 kk mm cut sx fA cur L ff tt) (fun _ _ _ _ => True) 19 := by
    refine Reg.op_ok2 (fun af => { dst := some 41, op := Op.indexAddr 67 (Operand.tmp 39) (Operand.tmp 40), type := 0, pos := "net.go:151", after := af, guard := none }) #[{ on := 17, ground := Ground.data }, { on := 18, ground := Ground.data }] (by kernel_rfl) [17, 18] (by kernel_rfl) fun af v W hb hd => ?_
    have d17 : v 17 = (Value.slice (some ⟨rb, 0, none⟩) nn cc) := hd 17 (by decide)
    have d18 : v 18 = (Value.int IntKind.i64 (ii : Int)) := hd 18 (by decide)
    have e39 := (Reg.gfr_eval (ops := (Reg.opsOf Try.f23 6)) (a0 := a0) (v := v) (L := [17, 18]) 39 17 (by kernel_rfl) (by rw [hsz]; omega)).trans d17
    have e40 := (Reg.gfr_eval (ops := (Reg.opsOf Try.f23 6)) (a0 := a0) (v := v) (L := [17, 18]) 40 18 (by kernel_rfl) (by rw [hsz]; omega)).trans d18
    refine ⟨Reg.wanted_none rfl, ?_⟩
    generalize Reg.gfr (Reg.opsOf Try.f23 6) a0 v [17, 18] = G at e39 e40 ⊢
    generalize hρ : G.eval = ρ at e39 e40
    have hρ' : G.eval = ρ := hρ
    refine Reg.go_run (Value.pointer (some ⟨rb, ii * 4, none⟩)) W ?_ ?_
    · rw [hρ']; simp [execOp, go_sem, e39, e40, hni]
    · exact ⟨Below.refl _ _, rfl⟩
set_option maxHeartbeats 4000000 in
set_option maxRecDepth 20000 in
theorem nspoil6_h20 :
    Reg.OpOK Try.prog (Reg.opsOf Try.f23 6) a0 w0 (nspoil6R gg ss rb ii nn cc fn fc B0 kk mm cut sx fA cur L ff tt) (fun _ _ _ _ => True) 20 := by
    refine Reg.op_ok2 (fun af => { dst := some 42, op := Op.fieldAddr 74 (Operand.tmp 41) 0, type := 0, pos := "net.go:151", after := af, guard := none }) #[{ on := 19, ground := Ground.data }] (by kernel_rfl) [19] (by kernel_rfl) fun af v W hb hd => ?_
    have d19 : v 19 = (Value.pointer (some ⟨rb, ii * 4, none⟩)) := hd 19 (by decide)
    have e41 := (Reg.gfr_eval (ops := (Reg.opsOf Try.f23 6)) (a0 := a0) (v := v) (L := [19]) 41 19 (by kernel_rfl) (by rw [hsz]; omega)).trans d19
    refine ⟨Reg.wanted_none rfl, ?_⟩
    generalize Reg.gfr (Reg.opsOf Try.f23 6) a0 v [19] = G at e41 ⊢
    generalize hρ : G.eval = ρ at e41
    have hρ' : G.eval = ρ := hρ
    refine Reg.go_run (Value.pointer (some ⟨rb, ii * 4, none⟩)) W ?_ ?_
    · rw [hρ']; simp [execOp, go_sem, e41]
    · exact ⟨Below.refl _ _, rfl⟩
set_option maxHeartbeats 4000000 in
set_option maxRecDepth 20000 in
theorem nspoil6_h21 :
    Reg.OpOK Try.prog (Reg.opsOf Try.f23 6) a0 w0 (nspoil6R gg ss rb ii nn cc fn fc B0 kk mm cut sx fA cur L ff tt) (fun _ _ _ _ => True) 21 := by
    refine Reg.op_ok2 (fun af => { dst := some 43, op := Op.fieldAddr 38 (Operand.tmp 42) 1, type := 0, pos := "net.go:151", after := af, guard := none }) #[{ on := 20, ground := Ground.data }] (by kernel_rfl) [20] (by kernel_rfl) fun af v W hb hd => ?_
    have d20 : v 20 = (Value.pointer (some ⟨rb, ii * 4, none⟩)) := hd 20 (by decide)
    have e42 := (Reg.gfr_eval (ops := (Reg.opsOf Try.f23 6)) (a0 := a0) (v := v) (L := [20]) 42 20 (by kernel_rfl) (by rw [hsz]; omega)).trans d20
    refine ⟨Reg.wanted_none rfl, ?_⟩
    generalize Reg.gfr (Reg.opsOf Try.f23 6) a0 v [20] = G at e42 ⊢
    generalize hρ : G.eval = ρ at e42
    have hρ' : G.eval = ρ := hρ
    refine Reg.go_run (Value.pointer (some ⟨rb, ii * 4 + 1, none⟩)) W ?_ ?_
    · rw [hρ']; simp [execOp, go_sem, e42]
    · exact ⟨Below.refl _ _, rfl⟩
set_option maxHeartbeats 4000000 in
set_option maxRecDepth 20000 in
theorem nspoil6_h22 :
    Reg.OpOK Try.prog (Reg.opsOf Try.f23 6) a0 w0 (nspoil6R gg ss rb ii nn cc fn fc B0 kk mm cut sx fA cur L ff tt) (fun _ _ _ _ => True) 22 := by
    refine Reg.op_ok2 (fun af => { dst := some 44, op := Op.load 3 (Operand.tmp 43), type := 3, pos := "net.go:151", after := af, guard := none }) #[{ on := 21, ground := Ground.data }] (by kernel_rfl) [21] (by kernel_rfl) fun af v W hb hd => ?_
    have d21 : v 21 = (Value.pointer (some ⟨rb, ii * 4 + 1, none⟩)) := hd 21 (by decide)
    have e43 := (Reg.gfr_eval (ops := (Reg.opsOf Try.f23 6)) (a0 := a0) (v := v) (L := [21]) 43 21 (by kernel_rfl) (by rw [hsz]; omega)).trans d21
    refine ⟨Reg.wanted_none rfl, ?_⟩
    generalize Reg.gfr (Reg.opsOf Try.f23 6) a0 v [21] = G at e43 ⊢
    generalize hρ : G.eval = ρ at e43
    have hρ' : G.eval = ρ := hρ
    refine Reg.go_run (Value.int IntKind.i64 tt) W ?_ ?_
    · rw [hρ']; simp [execOp, go_sem, e43, C1 W hb]
    · exact ⟨Below.refl _ _, rfl⟩
set_option maxHeartbeats 4000000 in
set_option maxRecDepth 20000 in
theorem nspoil6_h23 :
    Reg.OpOK Try.prog (Reg.opsOf Try.f23 6) a0 w0 (nspoil6R gg ss rb ii nn cc fn fc B0 kk mm cut sx fA cur L ff tt) (fun _ _ _ _ => True) 23 := by
    refine Reg.op_ok2 (fun af => { dst := some 45, op := Op.move (Operand.tmp 0), type := 30, pos := "net.go:151", after := af, guard := none }) #[] (by kernel_rfl) [] (by kernel_rfl) fun af v W hb hd => ?_
    have e0 := (Reg.gfr_eval0 (ops := (Reg.opsOf Try.f23 6)) (a0 := a0) (v := v) (L := []) 0 (by kernel_rfl)).trans i0
    refine ⟨Reg.wanted_none rfl, ?_⟩
    generalize Reg.gfr (Reg.opsOf Try.f23 6) a0 v [] = G at e0 ⊢
    generalize hρ : G.eval = ρ at e0
    have hρ' : G.eval = ρ := hρ
    refine Reg.go_run (Value.pointer (some ⟨gg, 0, none⟩)) W ?_ ?_
    · rw [hρ']; simp [execOp, go_sem, e0]
    · exact ⟨Below.refl _ _, rfl⟩
set_option maxHeartbeats 4000000 in
set_option maxRecDepth 20000 in
theorem nspoil6_h24 :
    Reg.OpOK Try.prog (Reg.opsOf Try.f23 6) a0 w0 (nspoil6R gg ss rb ii nn cc fn fc B0 kk mm cut sx fA cur L ff tt) (fun _ _ _ _ => True) 24 := by
    refine Reg.op_ok2 (fun af => { dst := some 46, op := Op.nilCheck (Operand.tmp 45), type := 0, pos := "net.go:151", after := af, guard := none }) #[{ on := 23, ground := Ground.data }] (by kernel_rfl) [23] (by kernel_rfl) fun af v W hb hd => ?_
    have d23 : v 23 = (Value.pointer (some ⟨gg, 0, none⟩)) := hd 23 (by decide)
    have e45 := (Reg.gfr_eval (ops := (Reg.opsOf Try.f23 6)) (a0 := a0) (v := v) (L := [23]) 45 23 (by kernel_rfl) (by rw [hsz]; omega)).trans d23
    refine ⟨Reg.wanted_none rfl, ?_⟩
    generalize Reg.gfr (Reg.opsOf Try.f23 6) a0 v [23] = G at e45 ⊢
    generalize hρ : G.eval = ρ at e45
    have hρ' : G.eval = ρ := hρ
    refine Reg.go_run (Value.pointer (some ⟨gg, 0, none⟩)) W ?_ ?_
    · rw [hρ']; simp [execOp, go_sem, e45]
    · exact ⟨Below.refl _ _, rfl⟩
set_option maxHeartbeats 4000000 in
set_option maxRecDepth 20000 in
theorem nspoil6_h25 :
    Reg.OpOK Try.prog (Reg.opsOf Try.f23 6) a0 w0 (nspoil6R gg ss rb ii nn cc fn fc B0 kk mm cut sx fA cur L ff tt) (fun _ _ _ _ => True) 25 := by
    refine Reg.op_ok2 (fun af => { dst := some 47, op := Op.fieldAddr 70 (Operand.tmp 46) 1, type := 0, pos := "net.go:151", after := af, guard := none }) #[{ on := 24, ground := Ground.data }] (by kernel_rfl) [24] (by kernel_rfl) fun af v W hb hd => ?_
    have d24 : v 24 = (Value.pointer (some ⟨gg, 0, none⟩)) := hd 24 (by decide)
    have e46 := (Reg.gfr_eval (ops := (Reg.opsOf Try.f23 6)) (a0 := a0) (v := v) (L := [24]) 46 24 (by kernel_rfl) (by rw [hsz]; omega)).trans d24
    refine ⟨Reg.wanted_none rfl, ?_⟩
    generalize Reg.gfr (Reg.opsOf Try.f23 6) a0 v [24] = G at e46 ⊢
    generalize hρ : G.eval = ρ at e46
    have hρ' : G.eval = ρ := hρ
    refine Reg.go_run (Value.pointer (some ⟨gg, 1, none⟩)) W ?_ ?_
    · rw [hρ']; simp [execOp, go_sem, e46]
    · exact ⟨Below.refl _ _, rfl⟩
set_option maxHeartbeats 4000000 in
set_option maxRecDepth 20000 in
theorem nspoil6_h26 :
    Reg.OpOK Try.prog (Reg.opsOf Try.f23 6) a0 w0 (nspoil6R gg ss rb ii nn cc fn fc B0 kk mm cut sx fA cur L ff tt) (fun _ _ _ _ => True) 26 := by
    refine Reg.op_ok2 (fun af => { dst := some 48, op := Op.load 67 (Operand.tmp 47), type := 67, pos := "net.go:151", after := af, guard := none }) #[{ on := 25, ground := Ground.data }] (by kernel_rfl) [25] (by kernel_rfl) fun af v W hb hd => ?_
    have d25 : v 25 = (Value.pointer (some ⟨gg, 1, none⟩)) := hd 25 (by decide)
    have e47 := (Reg.gfr_eval (ops := (Reg.opsOf Try.f23 6)) (a0 := a0) (v := v) (L := [25]) 47 25 (by kernel_rfl) (by rw [hsz]; omega)).trans d25
    refine ⟨Reg.wanted_none rfl, ?_⟩
    generalize Reg.gfr (Reg.opsOf Try.f23 6) a0 v [25] = G at e47 ⊢
    generalize hρ : G.eval = ρ at e47
    have hρ' : G.eval = ρ := hρ
    refine Reg.go_run (Value.slice (some ⟨rb, 0, none⟩) nn cc) W ?_ ?_
    · rw [hρ']; simp [execOp, go_sem, e47, CN W hb]
    · exact ⟨Below.refl _ _, rfl⟩
set_option maxHeartbeats 4000000 in
set_option maxRecDepth 20000 in
theorem nspoil6_h27 :
    Reg.OpOK Try.prog (Reg.opsOf Try.f23 6) a0 w0 (nspoil6R gg ss rb ii nn cc fn fc B0 kk mm cut sx fA cur L ff tt) (fun _ _ _ _ => True) 27 := by
    refine Reg.op_ok2 (fun af => { dst := some 49, op := Op.move (Operand.tmp 1), type := 3, pos := "net.go:151", after := af, guard := none }) #[] (by kernel_rfl) [] (by kernel_rfl) fun af v W hb hd => ?_
    have e1 := (Reg.gfr_eval0 (ops := (Reg.opsOf Try.f23 6)) (a0 := a0) (v := v) (L := []) 1 (by kernel_rfl)).trans i1
    refine ⟨Reg.wanted_none rfl, ?_⟩
    generalize Reg.gfr (Reg.opsOf Try.f23 6) a0 v [] = G at e1 ⊢
    generalize hρ : G.eval = ρ at e1
    have hρ' : G.eval = ρ := hρ
    refine Reg.go_run (Value.int IntKind.i64 (ii : Int)) W ?_ ?_
    · rw [hρ']; simp [execOp, go_sem, e1]
    · exact ⟨Below.refl _ _, rfl⟩
set_option maxHeartbeats 4000000 in
set_option maxRecDepth 20000 in
theorem nspoil6_h28 :
    Reg.OpOK Try.prog (Reg.opsOf Try.f23 6) a0 w0 (nspoil6R gg ss rb ii nn cc fn fc B0 kk mm cut sx fA cur L ff tt) (fun _ _ _ _ => True) 28 := by
    refine Reg.op_ok2 (fun af => { dst := some 50, op := Op.indexAddr 67 (Operand.tmp 48) (Operand.tmp 49), type := 0, pos := "net.go:151", after := af, guard := none }) #[{ on := 26, ground := Ground.data }, { on := 27, ground := Ground.data }] (by kernel_rfl) [26, 27] (by kernel_rfl) fun af v W hb hd => ?_
    have d26 : v 26 = (Value.slice (some ⟨rb, 0, none⟩) nn cc) := hd 26 (by decide)
    have d27 : v 27 = (Value.int IntKind.i64 (ii : Int)) := hd 27 (by decide)
    have e48 := (Reg.gfr_eval (ops := (Reg.opsOf Try.f23 6)) (a0 := a0) (v := v) (L := [26, 27]) 48 26 (by kernel_rfl) (by rw [hsz]; omega)).trans d26
    have e49 := (Reg.gfr_eval (ops := (Reg.opsOf Try.f23 6)) (a0 := a0) (v := v) (L := [26, 27]) 49 27 (by kernel_rfl) (by rw [hsz]; omega)).trans d27
    refine ⟨Reg.wanted_none rfl, ?_⟩
    generalize Reg.gfr (Reg.opsOf Try.f23 6) a0 v [26, 27] = G at e48 e49 ⊢
    generalize hρ : G.eval = ρ at e48 e49
    have hρ' : G.eval = ρ := hρ
    refine Reg.go_run (Value.pointer (some ⟨rb, ii * 4, none⟩)) W ?_ ?_
    · rw [hρ']; simp [execOp, go_sem, e48, e49, hni]
    · exact ⟨Below.refl _ _, rfl⟩
set_option maxHeartbeats 4000000 in
set_option maxRecDepth 20000 in
theorem nspoil6_h29 :
    Reg.OpOK Try.prog (Reg.opsOf Try.f23 6) a0 w0 (nspoil6R gg ss rb ii nn cc fn fc B0 kk mm cut sx fA cur L ff tt) (fun _ _ _ _ => True) 29 := by
    refine Reg.op_ok2 (fun af => { dst := some 51, op := Op.fieldAddr 74 (Operand.tmp 50) 0, type := 0, pos := "net.go:151", after := af, guard := none }) #[{ on := 28, ground := Ground.data }] (by kernel_rfl) [28] (by kernel_rfl) fun af v W hb hd => ?_
    have d28 : v 28 = (Value.pointer (some ⟨rb, ii * 4, none⟩)) := hd 28 (by decide)
    have e50 := (Reg.gfr_eval (ops := (Reg.opsOf Try.f23 6)) (a0 := a0) (v := v) (L := [28]) 50 28 (by kernel_rfl) (by rw [hsz]; omega)).trans d28
    refine ⟨Reg.wanted_none rfl, ?_⟩
    generalize Reg.gfr (Reg.opsOf Try.f23 6) a0 v [28] = G at e50 ⊢
    generalize hρ : G.eval = ρ at e50
    have hρ' : G.eval = ρ := hρ
    refine Reg.go_run (Value.pointer (some ⟨rb, ii * 4, none⟩)) W ?_ ?_
    · rw [hρ']; simp [execOp, go_sem, e50]
    · exact ⟨Below.refl _ _, rfl⟩
set_option maxHeartbeats 4000000 in
set_option maxRecDepth 20000 in
theorem nspoil6_h30 :
    Reg.OpOK Try.prog (Reg.opsOf Try.f23 6) a0 w0 (nspoil6R gg ss rb ii nn cc fn fc B0 kk mm cut sx fA cur L ff tt) (fun _ _ _ _ => True) 30 := by
    refine Reg.op_ok2 (fun af => { dst := some 52, op := Op.fieldAddr 38 (Operand.tmp 51) 2, type := 0, pos := "net.go:151", after := af, guard := none }) #[{ on := 29, ground := Ground.data }] (by kernel_rfl) [29] (by kernel_rfl) fun af v W hb hd => ?_
    have d29 : v 29 = (Value.pointer (some ⟨rb, ii * 4, none⟩)) := hd 29 (by decide)
    have e51 := (Reg.gfr_eval (ops := (Reg.opsOf Try.f23 6)) (a0 := a0) (v := v) (L := [29]) 51 29 (by kernel_rfl) (by rw [hsz]; omega)).trans d29
    refine ⟨Reg.wanted_none rfl, ?_⟩
    generalize Reg.gfr (Reg.opsOf Try.f23 6) a0 v [29] = G at e51 ⊢
    generalize hρ : G.eval = ρ at e51
    have hρ' : G.eval = ρ := hρ
    refine Reg.go_run (Value.pointer (some ⟨rb, ii * 4 + 2, none⟩)) W ?_ ?_
    · rw [hρ']; simp [execOp, go_sem, e51]
    · exact ⟨Below.refl _ _, rfl⟩
set_option maxHeartbeats 4000000 in
set_option maxRecDepth 20000 in
theorem nspoil6_h31 :
    Reg.OpOK Try.prog (Reg.opsOf Try.f23 6) a0 w0 (nspoil6R gg ss rb ii nn cc fn fc B0 kk mm cut sx fA cur L ff tt) (fun _ _ _ _ => True) 31 := by
    refine Reg.op_ok2 (fun af => { dst := some 53, op := Op.load 22 (Operand.tmp 52), type := 22, pos := "net.go:151", after := af, guard := none }) #[{ on := 30, ground := Ground.data }] (by kernel_rfl) [30] (by kernel_rfl) fun af v W hb hd => ?_
    have d30 : v 30 = (Value.pointer (some ⟨rb, ii * 4 + 2, none⟩)) := hd 30 (by decide)
    have e52 := (Reg.gfr_eval (ops := (Reg.opsOf Try.f23 6)) (a0 := a0) (v := v) (L := [30]) 52 30 (by kernel_rfl) (by rw [hsz]; omega)).trans d30
    refine ⟨Reg.wanted_none rfl, ?_⟩
    generalize Reg.gfr (Reg.opsOf Try.f23 6) a0 v [30] = G at e52 ⊢
    generalize hρ : G.eval = ρ at e52
    have hρ' : G.eval = ρ := hρ
    refine Reg.go_run (Value.slice fA fn fc) W ?_ ?_
    · rw [hρ']; simp [execOp, go_sem, e52, C2 W hb]
    · exact ⟨Below.refl _ _, rfl⟩
set_option maxHeartbeats 4000000 in
set_option maxRecDepth 20000 in
theorem nspoil6_h32 :
    Reg.OpOK Try.prog (Reg.opsOf Try.f23 6) a0 w0 (nspoil6R gg ss rb ii nn cc fn fc B0 kk mm cut sx fA cur L ff tt) (fun _ _ _ _ => True) 32 := by
    refine Reg.op_ok2 (fun af => { dst := some 54, op := Op.load 25 (Operand.tmp 5), type := 25, pos := "net.go:151", after := af, guard := none }) #[] (by kernel_rfl) [] (by kernel_rfl) fun af v W hb hd => ?_
    have e5 := (Reg.gfr_eval0 (ops := (Reg.opsOf Try.f23 6)) (a0 := a0) (v := v) (L := []) 5 (by kernel_rfl)).trans i5
    refine ⟨Reg.wanted_none rfl, ?_⟩
    generalize Reg.gfr (Reg.opsOf Try.f23 6) a0 v [] = G at e5 ⊢
    generalize hρ : G.eval = ρ at e5
    have hρ' : G.eval = ρ := hρ
    exact fun K hK => wp_load_row 25 (.tmp 5) rfl ss (by rw [hρ']; exact e5) 25 #[Value.bool cut, Value.int IntKind.i64 sx, Value.int IntKind.u32 (mm : Int)] (0, 0) _ (M_ss W hb) Try.underlying25 rfl size_sp (hK _ _ ⟨Below.refl _ _, rfl⟩)
set_option maxHeartbeats 4000000 in
set_option maxRecDepth 20000 in
theorem nspoil6_h33 :
    Reg.OpOK Try.prog (Reg.opsOf Try.f23 6) a0 w0 (nspoil6R gg ss rb ii nn cc fn fc B0 kk mm cut sx fA cur L ff tt) (fun _ _ _ _ => True) 33 := by
    refine Reg.op_ok2 (fun af => { dst := some 55, op := Op.call { callee := Callee.value (Operand.func 10), args := #[Operand.tmp 53, Operand.tmp 54], argTypes := #[22, 25] }, type := 22, pos := "net.go:151", after := af, guard := none }) #[{ on := 31, ground := Ground.data }, { on := 32, ground := Ground.data }] (by kernel_rfl) [31, 32] (by kernel_rfl) fun af v W hb hd => ?_
    have d31 : v 31 = (Value.slice fA fn fc) := hd 31 (by decide)
    have d32 : v 32 = (Value.agg #[Value.bool cut, Value.int IntKind.i64 sx, Value.int IntKind.u32 (mm : Int)]) := hd 32 (by decide)
    have e53 := (Reg.gfr_eval (ops := (Reg.opsOf Try.f23 6)) (a0 := a0) (v := v) (L := [31, 32]) 53 31 (by kernel_rfl) (by rw [hsz]; omega)).trans d31
    have e54 := (Reg.gfr_eval (ops := (Reg.opsOf Try.f23 6)) (a0 := a0) (v := v) (L := [31, 32]) 54 32 (by kernel_rfl) (by rw [hsz]; omega)).trans d32
    refine ⟨Reg.wanted_none rfl, ?_⟩
    have eF : ∀ f, (Reg.gfr (Reg.opsOf Try.f23 6) a0 v [31, 32]).eval (.func f) = .func (.func f) #[] #[] := fun _ => rfl
    generalize Reg.gfr (Reg.opsOf Try.f23 6) a0 v [31, 32] = G at e53 e54 eF ⊢
    generalize hρ : G.eval = ρ at e53 e54 eF
    have hρ' : G.eval = ρ := hρ
    refine Reg.go_call 10 #[(Value.slice fA fn fc), (Value.agg #[Value.bool cut, Value.int IntKind.i64 sx, Value.int IntKind.u32 (mm : Int)])] (by rw [hρ']; simp [execOp, go_sem, e53, e54, eF]) ((hsp W hb).mono fun e w' he => ?_)
    obtain ⟨A_, c_, rfl, ho_, hb_⟩ := he
    exact ⟨_, rfl, hb_, ⟨A_, c_, rfl, own_mono ho_ (Nat.le_trans hB0 hb.size)⟩⟩
set_option maxHeartbeats 4000000 in
set_option maxRecDepth 20000 in
theorem nspoil6_h34 :
    Reg.OpOK Try.prog (Reg.opsOf Try.f23 6) a0 w0 (nspoil6R gg ss rb ii nn cc fn fc B0 kk mm cut sx fA cur L ff tt) (fun _ _ _ _ => True) 34 := by
    refine Reg.op_ok2 (fun af => { dst := some 56, op := Op.build 38 #[(0, Operand.tmp 35), (1, Operand.tmp 44), (2, Operand.tmp 55)], type := 38, pos := "net.go:151", after := af, guard := none }) #[{ on := 13, ground := Ground.data }, { on := 22, ground := Ground.data }, { on := 33, ground := Ground.data }] (by kernel_rfl) [13, 22, 33] (by kernel_rfl) fun af v W hb hd => ?_
    have d13 : v 13 = (Value.int IntKind.i64 ff) := hd 13 (by decide)
    have d22 : v 22 = (Value.int IntKind.i64 tt) := hd 22 (by decide)
    have d33 : ((fun u_ w_ => ∃ A_ c_, u_ = Value.slice A_ kk c_ ∧ w_.ownsRow B0 5 1 (Value.slice A_ kk c_) kk (u8v L))) (v 33) W := hd 33 (by decide)
    have e35 := (Reg.gfr_eval (ops := (Reg.opsOf Try.f23 6)) (a0 := a0) (v := v) (L := [13, 22, 33]) 35 13 (by kernel_rfl) (by rw [hsz]; omega)).trans d13
    have e44 := (Reg.gfr_eval (ops := (Reg.opsOf Try.f23 6)) (a0 := a0) (v := v) (L := [13, 22, 33]) 44 22 (by kernel_rfl) (by rw [hsz]; omega)).trans d22
    have e55 := Reg.gfr_eval (ops := (Reg.opsOf Try.f23 6)) (a0 := a0) (v := v) (L := [13, 22, 33]) 55 33 (by kernel_rfl) (by rw [hsz]; omega)
    refine ⟨Reg.wanted_none rfl, ?_⟩
    generalize Reg.gfr (Reg.opsOf Try.f23 6) a0 v [13, 22, 33] = G at e35 e44 e55 ⊢
    generalize hρ : G.eval = ρ at e35 e44 e55
    have hρ' : G.eval = ρ := hρ
    obtain ⟨A_, c_, hv_, ho_⟩ := d33
    rw [hv_] at e55
    refine Reg.go_run (Value.agg #[Value.int IntKind.i64 ff, Value.int IntKind.i64 tt, Value.slice A_ kk c_]) W ?_ ?_
    · rw [hρ']; simp [execOp, go_sem, e35, e44, e55]
    · exact ⟨Below.refl _ _, ⟨A_, c_, rfl, ho_⟩⟩
set_option maxHeartbeats 4000000 in
set_option maxRecDepth 20000 in
theorem nspoil6_h35 :
    Reg.OpOK Try.prog (Reg.opsOf Try.f23 6) a0 w0 (nspoil6R gg ss rb ii nn cc fn fc B0 kk mm cut sx fA cur L ff tt) (fun _ _ _ _ => True) 35 := by
    refine Reg.op_ok2 (fun af => { dst := some 57, op := Op.build 74 #[(0, Operand.tmp 56), (1, Operand.const (Value.bool true))], type := 74, pos := "net.go:151", after := af, guard := none }) #[{ on := 34, ground := Ground.data }] (by kernel_rfl) [34] (by kernel_rfl) fun af v W hb hd => ?_
    have d34 : ((fun u_ w_ => ∃ A_ c_, u_ = Value.agg #[Value.int IntKind.i64 ff, Value.int IntKind.i64 tt, Value.slice A_ kk c_] ∧ w_.ownsRow B0 5 1 (Value.slice A_ kk c_) kk (u8v L))) (v 34) W := hd 34 (by decide)
    have e56 := Reg.gfr_eval (ops := (Reg.opsOf Try.f23 6)) (a0 := a0) (v := v) (L := [34]) 56 34 (by kernel_rfl) (by rw [hsz]; omega)
    refine ⟨Reg.wanted_none rfl, ?_⟩
    have eC : ∀ x, (Reg.gfr (Reg.opsOf Try.f23 6) a0 v [34]).eval (.const x) = x := fun _ => rfl
    generalize Reg.gfr (Reg.opsOf Try.f23 6) a0 v [34] = G at e56 eC ⊢
    generalize hρ : G.eval = ρ at e56 eC
    have hρ' : G.eval = ρ := hρ
    obtain ⟨A_, c_, hv_, ho_⟩ := d34
    rw [hv_] at e56
    refine Reg.go_run (Value.agg #[Value.int IntKind.i64 ff, Value.int IntKind.i64 tt, Value.slice A_ kk c_, Value.bool true]) W ?_ ?_
    · rw [hρ']; simp [execOp, go_sem, e56, eC]
    · exact ⟨Below.refl _ _, ⟨A_, c_, rfl, ho_⟩⟩
set_option maxHeartbeats 4000000 in
set_option maxRecDepth 20000 in
theorem nspoil6_h36 :
    Reg.OpOK Try.prog (Reg.opsOf Try.f23 6) a0 w0 (nspoil6R gg ss rb ii nn cc fn fc B0 kk mm cut sx fA cur L ff tt) (fun _ _ _ _ => True) 36 := by
    refine Reg.op_ok2 (fun af => { dst := some 58, op := Op.indexAddr 67 (Operand.tmp 25) (Operand.tmp 26), type := 0, pos := "net.go:151", after := af, guard := none }) #[{ on := 3, ground := Ground.data }, { on := 4, ground := Ground.data }, { on := 0, ground := Ground.phase }, { on := 1, ground := Ground.phase }, { on := 2, ground := Ground.phase }, { on := 3, ground := Ground.phase }, { on := 4, ground := Ground.phase }, { on := 5, ground := Ground.phase }, { on := 6, ground := Ground.phase }, { on := 7, ground := Ground.phase }, { on := 8, ground := Ground.phase }, { on := 9, ground := Ground.phase }, { on := 10, ground := Ground.phase }, { on := 11, ground := Ground.phase }, { on := 12, ground := Ground.phase }, { on := 13, ground := Ground.phase }, { on := 14, ground := Ground.phase }, { on := 15, ground := Ground.phase }, { on := 16, ground := Ground.phase }, { on := 17, ground := Ground.phase }, { on := 18, ground := Ground.phase }, { on := 19, ground := Ground.phase }, { on := 20, ground := Ground.phase }, { on := 21, ground := Ground.phase }, { on := 22, ground := Ground.phase }, { on := 23, ground := Ground.phase }, { on := 24, ground := Ground.phase }, { on := 25, ground := Ground.phase }, { on := 26, ground := Ground.phase }, { on := 27, ground := Ground.phase }, { on := 28, ground := Ground.phase }, { on := 29, ground := Ground.phase }, { on := 30, ground := Ground.phase }, { on := 31, ground := Ground.phase }, { on := 32, ground := Ground.phase }, { on := 33, ground := Ground.phase }, { on := 34, ground := Ground.phase }, { on := 35, ground := Ground.phase }] (by kernel_rfl) [3, 4, 0, 1, 2, 3, 4, 5, 6, 7, 8, 9, 10, 11, 12, 13, 14, 15, 16, 17, 18, 19, 20, 21, 22, 23, 24, 25, 26, 27, 28, 29, 30, 31, 32, 33, 34, 35] (by kernel_rfl) fun af v W hb hd => ?_
    have d3 : v 3 = (Value.slice (some ⟨rb, 0, none⟩) nn cc) := hd 3 (by decide)
    have d4 : v 4 = (Value.int IntKind.i64 (ii : Int)) := hd 4 (by decide)
    have e25 := (Reg.gfr_eval (ops := (Reg.opsOf Try.f23 6)) (a0 := a0) (v := v) (L := [3, 4, 0, 1, 2, 3, 4, 5, 6, 7, 8, 9, 10, 11, 12, 13, 14, 15, 16, 17, 18, 19, 20, 21, 22, 23, 24, 25, 26, 27, 28, 29, 30, 31, 32, 33, 34, 35]) 25 3 (by kernel_rfl) (by rw [hsz]; omega)).trans d3
    have e26 := (Reg.gfr_eval (ops := (Reg.opsOf Try.f23 6)) (a0 := a0) (v := v) (L := [3, 4, 0, 1, 2, 3, 4, 5, 6, 7, 8, 9, 10, 11, 12, 13, 14, 15, 16, 17, 18, 19, 20, 21, 22, 23, 24, 25, 26, 27, 28, 29, 30, 31, 32, 33, 34, 35]) 26 4 (by kernel_rfl) (by rw [hsz]; omega)).trans d4
    refine ⟨Reg.wanted_none rfl, ?_⟩
    generalize Reg.gfr (Reg.opsOf Try.f23 6) a0 v [3, 4, 0, 1, 2, 3, 4, 5, 6, 7, 8, 9, 10, 11, 12, 13, 14, 15, 16, 17, 18, 19, 20, 21, 22, 23, 24, 25, 26, 27, 28, 29, 30, 31, 32, 33, 34, 35] = G at e25 e26 ⊢
    generalize hρ : G.eval = ρ at e25 e26
    have hρ' : G.eval = ρ := hρ
    refine Reg.go_run (Value.pointer (some ⟨rb, ii * 4, none⟩)) W ?_ ?_
    · rw [hρ']; simp [execOp, go_sem, e25, e26, hni]
    · exact ⟨Below.refl _ _, rfl⟩
end
set_option maxHeartbeats 4000000 in
set_option maxRecDepth 20000 in
theorem nspoil6 (gg ss rb ii nn cc fn fc B0 kk mm : Nat) (cut : Bool) (sx : Int) (fA : Option Addr) (cur : Array Value) (L : List UInt8) (ff tt : Int) (w0 : World) {s2 s3 s4 s6 s7 s8 s9 s10 s11 s12 s13 s14 s15 s16 s17 s18 s19 s20 s21 s22 s23 s24 s25 s26 s27 s28 s29 s30 s31 s32 s33 s34 s35 s36 s37 s38 s39 s40 s41 s42 s43 s44 s45 s46 s47 s48 s49 s50 s51 s52 s53 s54 s55 s56 s57 s58 : Value}
    (hB0 : B0 ≤ w0.heap.size)
    (hni : ¬ nn ≤ ii)
    (hsp : ∀ W, Below w0.heap.size w0 W → Calls Try.prog 10 #[.slice fA fn fc, .agg #[.bool cut, .int .i64 sx, .int .u32 (mm : Int)]] W fun e w' => ∃ A2 c2, e = .returned (.slice A2 kk c2) ∧ w'.ownsRow W.heap.size 5 1 (.slice A2 kk c2) kk (u8v L) ∧ Below W.heap.size W w')
    (hfit : ii * 4 + 4 ≤ cur.size)
    (M_ss : ∀ W, Below w0.heap.size w0 W → W.heap[ss]? = some (.cells #[Value.bool cut, Value.int IntKind.i64 sx, Value.int IntKind.u32 (mm : Int)] 25 (0, 0)))
    (M_rb : ∀ W, Below w0.heap.size w0 W → W.heap[rb]? = some (.cells cur 74 (0, 0)))
    (CN : ∀ W, Below w0.heap.size w0 W → W.cell? ⟨gg, 1, none⟩ = some (Value.slice (some ⟨rb, 0, none⟩) nn cc))
    (C0 : ∀ W, Below w0.heap.size w0 W → W.cell? ⟨rb, ii * 4, none⟩ = some (Value.int IntKind.i64 ff))
    (C1 : ∀ W, Below w0.heap.size w0 W → W.cell? ⟨rb, ii * 4 + 1, none⟩ = some (Value.int IntKind.i64 tt))
    (C2 : ∀ W, Below w0.heap.size w0 W → W.cell? ⟨rb, ii * 4 + 2, none⟩ = some (Value.slice fA fn fc))
    {Q : Exit → Act → World → Prop}
    (hend : ∀ (w : World) (r55 r56 : Value) (A2_ : Option Addr) (c2_ : Nat), Below w0.heap.size w0 w → (w.ownsRow B0 5 1 (Value.slice A2_ kk c2_) kk (u8v L)) → Q .normal { tmps := #[(Value.pointer (some ⟨gg, 0, none⟩)), (Value.int IntKind.i64 (ii : Int)), s2, s3, s4, (Value.pointer (some ⟨ss, 0, none⟩)), s6, s7, s8, s9, s10, s11, s12, s13, s14, s15, s16, s17, s18, s19, s20, s21, (Value.pointer (some ⟨gg, 0, none⟩)), (Value.pointer (some ⟨gg, 0, none⟩)), (Value.pointer (some ⟨gg, 1, none⟩)), (Value.slice (some ⟨rb, 0, none⟩) nn cc), (Value.int IntKind.i64 (ii : Int)), (Value.pointer (some ⟨gg, 0, none⟩)), (Value.pointer (some ⟨gg, 0, none⟩)), (Value.pointer (some ⟨gg, 1, none⟩)), (Value.slice (some ⟨rb, 0, none⟩) nn cc), (Value.int IntKind.i64 (ii : Int)), (Value.pointer (some ⟨rb, ii * 4, none⟩)), (Value.pointer (some ⟨rb, ii * 4, none⟩)), (Value.pointer (some ⟨rb, ii * 4, none⟩)), (Value.int IntKind.i64 ff), (Value.pointer (some ⟨gg, 0, none⟩)), (Value.pointer (some ⟨gg, 0, none⟩)), (Value.pointer (some ⟨gg, 1, none⟩)), (Value.slice (some ⟨rb, 0, none⟩) nn cc), (Value.int IntKind.i64 (ii : Int)), (Value.pointer (some ⟨rb, ii * 4, none⟩)), (Value.pointer (some ⟨rb, ii * 4, none⟩)), (Value.pointer (some ⟨rb, ii * 4 + 1, none⟩)), (Value.int IntKind.i64 tt), (Value.pointer (some ⟨gg, 0, none⟩)), (Value.pointer (some ⟨gg, 0, none⟩)), (Value.pointer (some ⟨gg, 1, none⟩)), (Value.slice (some ⟨rb, 0, none⟩) nn cc), (Value.int IntKind.i64 (ii : Int)), (Value.pointer (some ⟨rb, ii * 4, none⟩)), (Value.pointer (some ⟨rb, ii * 4, none⟩)), (Value.pointer (some ⟨rb, ii * 4 + 2, none⟩)), (Value.slice fA fn fc), (Value.agg #[Value.bool cut, Value.int IntKind.i64 sx, Value.int IntKind.u32 (mm : Int)]), r55, r56, (Value.agg #[Value.int IntKind.i64 ff, Value.int IntKind.i64 tt, Value.slice A2_ kk c2_, Value.bool true]), (Value.pointer (some ⟨rb, ii * 4, none⟩))], defers := [] } (w.setRow rb (cur.toList.take (ii * 4) ++ [Value.int IntKind.i64 ff, Value.int IntKind.i64 tt, Value.slice A2_ kk c2_, Value.bool true] ++ cur.toList.drop (ii * 4 + 4)).toArray)) :
    (Code.region 6 (Reg.opsOf Try.f23 6) true).wp Try.prog Q { tmps := #[(Value.pointer (some ⟨gg, 0, none⟩)), (Value.int IntKind.i64 (ii : Int)), s2, s3, s4, (Value.pointer (some ⟨ss, 0, none⟩)), s6, s7, s8, s9, s10, s11, s12, s13, s14, s15, s16, s17, s18, s19, s20, s21, s22, s23, s24, s25, s26, s27, s28, s29, s30, s31, s32, s33, s34, s35, s36, s37, s38, s39, s40, s41, s42, s43, s44, s45, s46, s47, s48, s49, s50, s51, s52, s53, s54, s55, s56, s57, s58], defers := [] } w0 := by
  obtain ⟨a0, ha0⟩ : ∃ a0 : Act, a0 = { tmps := #[(Value.pointer (some ⟨gg, 0, none⟩)), (Value.int IntKind.i64 (ii : Int)), s2, s3, s4, (Value.pointer (some ⟨ss, 0, none⟩)), s6, s7, s8, s9, s10, s11, s12, s13, s14, s15, s16, s17, s18, s19, s20, s21, s22, s23, s24, s25, s26, s27, s28, s29, s30, s31, s32, s33, s34, s35, s36, s37, s38, s39, s40, s41, s42, s43, s44, s45, s46, s47, s48, s49, s50, s51, s52, s53, s54, s55, s56, s57, s58], defers := [] } := ⟨_, rfl⟩
  have hfin : ∀ v : Nat → Value, Reg.gfr (Reg.opsOf Try.f23 6) a0 v [0, 1, 2, 3, 4, 5, 6, 7, 8, 9, 10, 11, 12, 13, 14, 15, 16, 17, 18, 19, 20, 21, 22, 23, 24, 25, 26, 27, 28, 29, 30, 31, 32, 33, 34, 35, 36] = { tmps := #[(Value.pointer (some ⟨gg, 0, none⟩)), (Value.int IntKind.i64 (ii : Int)), s2, s3, s4, (Value.pointer (some ⟨ss, 0, none⟩)), s6, s7, s8, s9, s10, s11, s12, s13, s14, s15, s16, s17, s18, s19, s20, s21, v 0, v 1, v 2, v 3, v 4, v 5, v 6, v 7, v 8, v 9, v 10, v 11, v 12, v 13, v 14, v 15, v 16, v 17, v 18, v 19, v 20, v 21, v 22, v 23, v 24, v 25, v 26, v 27, v 28, v 29, v 30, v 31, v 32, v 33, v 34, v 35, v 36], defers := [] } := fun v => by rw [ha0]; kernel_rfl
  rw [← ha0]
  have i0 : a0.eval (.tmp 0) = (Value.pointer (some ⟨gg, 0, none⟩)) := by rw [ha0]; rfl
  have i1 : a0.eval (.tmp 1) = (Value.int IntKind.i64 (ii : Int)) := by rw [ha0]; rfl
  have i5 : a0.eval (.tmp 5) = (Value.pointer (some ⟨ss, 0, none⟩)) := by rw [ha0]; rfl
  have hsz : a0.tmps.size = 59 := by rw [ha0]; rfl
  clear ha0
  have hn : (Reg.opsOf Try.f23 6).size = 38 := by kernel_rfl
  have h0 := nspoil6_h0 gg ss rb ii nn cc fn fc B0 kk mm cut sx fA cur L ff tt w0 a0 hB0 hni hsp hfit M_ss M_rb CN C0 C1 C2 i0 i1 i5 hsz
  have h1 := nspoil6_h1 gg ss rb ii nn cc fn fc B0 kk mm cut sx fA cur L ff tt w0 a0 hB0 hni hsp hfit M_ss M_rb CN C0 C1 C2 i0 i1 i5 hsz
  have h2 := nspoil6_h2 gg ss rb ii nn cc fn fc B0 kk mm cut sx fA cur L ff tt w0 a0 hB0 hni hsp hfit M_ss M_rb CN C0 C1 C2 i0 i1 i5 hsz
  have h3 := nspoil6_h3 gg ss rb ii nn cc fn fc B0 kk mm cut sx fA cur L ff tt w0 a0 hB0 hni hsp hfit M_ss M_rb CN C0 C1 C2 i0 i1 i5 hsz
  have h4 := nspoil6_h4 gg ss rb ii nn cc fn fc B0 kk mm cut sx fA cur L ff tt w0 a0 hB0 hni hsp hfit M_ss M_rb CN C0 C1 C2 i0 i1 i5 hsz
  have h5 := nspoil6_h5 gg ss rb ii nn cc fn fc B0 kk mm cut sx fA cur L ff tt w0 a0 hB0 hni hsp hfit M_ss M_rb CN C0 C1 C2 i0 i1 i5 hsz
  have h6 := nspoil6_h6 gg ss rb ii nn cc fn fc B0 kk mm cut sx fA cur L ff tt w0 a0 hB0 hni hsp hfit M_ss M_rb CN C0 C1 C2 i0 i1 i5 hsz
  have h7 := nspoil6_h7 gg ss rb ii nn cc fn fc B0 kk mm cut sx fA cur L ff tt w0 a0 hB0 hni hsp hfit M_ss M_rb CN C0 C1 C2 i0 i1 i5 hsz
  have h8 := nspoil6_h8 gg ss rb ii nn cc fn fc B0 kk mm cut sx fA cur L ff tt w0 a0 hB0 hni hsp hfit M_ss M_rb CN C0 C1 C2 i0 i1 i5 hsz
  have h9 := nspoil6_h9 gg ss rb ii nn cc fn fc B0 kk mm cut sx fA cur L ff tt w0 a0 hB0 hni hsp hfit M_ss M_rb CN C0 C1 C2 i0 i1 i5 hsz
  have h10 := nspoil6_h10 gg ss rb ii nn cc fn fc B0 kk mm cut sx fA cur L ff tt w0 a0 hB0 hni hsp hfit M_ss M_rb CN C0 C1 C2 i0 i1 i5 hsz
  have h11 := nspoil6_h11 gg ss rb ii nn cc fn fc B0 kk mm cut sx fA cur L ff tt w0 a0 hB0 hni hsp hfit M_ss M_rb CN C0 C1 C2 i0 i1 i5 hsz
  have h12 := nspoil6_h12 gg ss rb ii nn cc fn fc B0 kk mm cut sx fA cur L ff tt w0 a0 hB0 hni hsp hfit M_ss M_rb CN C0 C1 C2 i0 i1 i5 hsz
  have h13 := nspoil6_h13 gg ss rb ii nn cc fn fc B0 kk mm cut sx fA cur L ff tt w0 a0 hB0 hni hsp hfit M_ss M_rb CN C0 C1 C2 i0 i1 i5 hsz
  have h14 := nspoil6_h14 gg ss rb ii nn cc fn fc B0 kk mm cut sx fA cur L ff tt w0 a0 hB0 hni hsp hfit M_ss M_rb CN C0 C1 C2 i0 i1 i5 hsz
  have h15 := nspoil6_h15 gg ss rb ii nn cc fn fc B0 kk mm cut sx fA cur L ff tt w0 a0 hB0 hni hsp hfit M_ss M_rb CN C0 C1 C2 i0 i1 i5 hsz
  have h16 := nspoil6_h16 gg ss rb ii nn cc fn fc B0 kk mm cut sx fA cur L ff tt w0 a0 hB0 hni hsp hfit M_ss M_rb CN C0 C1 C2 i0 i1 i5 hsz
  have h17 := nspoil6_h17 gg ss rb ii nn cc fn fc B0 kk mm cut sx fA cur L ff tt w0 a0 hB0 hni hsp hfit M_ss M_rb CN C0 C1 C2 i0 i1 i5 hsz
  have h18 := nspoil6_h18 gg ss rb ii nn cc fn fc B0 kk mm cut sx fA cur L ff tt w0 a0 hB0 hni hsp hfit M_ss M_rb CN C0 C1 C2 i0 i1 i5 hsz
  have h19 := nspoil6_h19 gg ss rb ii nn cc fn fc B0 kk mm cut sx fA cur L ff tt w0 a0 hB0 hni hsp hfit M_ss M_rb CN C0 C1 C2 i0 i1 i5 hsz
  have h20 := nspoil6_h20 gg ss rb ii nn cc fn fc B0 kk mm cut sx fA cur L ff tt w0 a0 hB0 hni hsp hfit M_ss M_rb CN C0 C1 C2 i0 i1 i5 hsz
  have h21 := nspoil6_h21 gg ss rb ii nn cc fn fc B0 kk mm cut sx fA cur L ff tt w0 a0 hB0 hni hsp hfit M_ss M_rb CN C0 C1 C2 i0 i1 i5 hsz
  have h22 := nspoil6_h22 gg ss rb ii nn cc fn fc B0 kk mm cut sx fA cur L ff tt w0 a0 hB0 hni hsp hfit M_ss M_rb CN C0 C1 C2 i0 i1 i5 hsz
  have h23 := nspoil6_h23 gg ss rb ii nn cc fn fc B0 kk mm cut sx fA cur L ff tt w0 a0 hB0 hni hsp hfit M_ss M_rb CN C0 C1 C2 i0 i1 i5 hsz
  have h24 := nspoil6_h24 gg ss rb ii nn cc fn fc B0 kk mm cut sx fA cur L ff tt w0 a0 hB0 hni hsp hfit M_ss M_rb CN C0 C1 C2 i0 i1 i5 hsz
  have h25 := nspoil6_h25 gg ss rb ii nn cc fn fc B0 kk mm cut sx fA cur L ff tt w0 a0 hB0 hni hsp hfit M_ss M_rb CN C0 C1 C2 i0 i1 i5 hsz
  have h26 := nspoil6_h26 gg ss rb ii nn cc fn fc B0 kk mm cut sx fA cur L ff tt w0 a0 hB0 hni hsp hfit M_ss M_rb CN C0 C1 C2 i0 i1 i5 hsz
  have h27 := nspoil6_h27 gg ss rb ii nn cc fn fc B0 kk mm cut sx fA cur L ff tt w0 a0 hB0 hni hsp hfit M_ss M_rb CN C0 C1 C2 i0 i1 i5 hsz
  have h28 := nspoil6_h28 gg ss rb ii nn cc fn fc B0 kk mm cut sx fA cur L ff tt w0 a0 hB0 hni hsp hfit M_ss M_rb CN C0 C1 C2 i0 i1 i5 hsz
  have h29 := nspoil6_h29 gg ss rb ii nn cc fn fc B0 kk mm cut sx fA cur L ff tt w0 a0 hB0 hni hsp hfit M_ss M_rb CN C0 C1 C2 i0 i1 i5 hsz
  have h30 := nspoil6_h30 gg ss rb ii nn cc fn fc B0 kk mm cut sx fA cur L ff tt w0 a0 hB0 hni hsp hfit M_ss M_rb CN C0 C1 C2 i0 i1 i5 hsz
  have h31 := nspoil6_h31 gg ss rb ii nn cc fn fc B0 kk mm cut sx fA cur L ff tt w0 a0 hB0 hni hsp hfit M_ss M_rb CN C0 C1 C2 i0 i1 i5 hsz
  have h32 := nspoil6_h32 gg ss rb ii nn cc fn fc B0 kk mm cut sx fA cur L ff tt w0 a0 hB0 hni hsp hfit M_ss M_rb CN C0 C1 C2 i0 i1 i5 hsz
  have h33 := nspoil6_h33 gg ss rb ii nn cc fn fc B0 kk mm cut sx fA cur L ff tt w0 a0 hB0 hni hsp hfit M_ss M_rb CN C0 C1 C2 i0 i1 i5 hsz
  have h34 := nspoil6_h34 gg ss rb ii nn cc fn fc B0 kk mm cut sx fA cur L ff tt w0 a0 hB0 hni hsp hfit M_ss M_rb CN C0 C1 C2 i0 i1 i5 hsz
  have h35 := nspoil6_h35 gg ss rb ii nn cc fn fc B0 kk mm cut sx fA cur L ff tt w0 a0 hB0 hni hsp hfit M_ss M_rb CN C0 C1 C2 i0 i1 i5 hsz
  have h36 := nspoil6_h36 gg ss rb ii nn cc fn fc B0 kk mm cut sx fA cur L ff tt w0 a0 hB0 hni hsp hfit M_ss M_rb CN C0 C1 C2 i0 i1 i5 hsz
  refine Reg.region_rel (by kernel_rfl) [0, 1, 2, 3, 4, 5, 6, 7, 8, 9, 10, 11, 12, 13, 14, 15, 16, 17, 18, 19, 20, 21, 22, 23, 24, 25, 26, 27, 28, 29, 30, 31, 32, 33, 34, 35, 36] (nspoil6R gg ss rb ii nn cc fn fc B0 kk mm cut sx fA cur L ff tt) (fun _ _ _ _ => True) (by rw [hsz]; kernel_rfl) (nspoil6_stable gg ss rb ii nn cc fn fc B0 kk mm cut sx fA cur L ff tt) (fun i hi => ?_) (fun v w hb hR hD fuel hf => ?_)
  · simp only [List.mem_cons, List.not_mem_nil, or_false] at hi
    rcases hi with rfl | rfl | rfl | rfl | rfl | rfl | rfl | rfl | rfl | rfl | rfl | rfl | rfl | rfl | rfl | rfl | rfl | rfl | rfl | rfl | rfl | rfl | rfl | rfl | rfl | rfl | rfl | rfl | rfl | rfl | rfl | rfl | rfl | rfl | rfl | rfl | rfl
    · exact h0
    · exact h1
    · exact h2
    · exact h3
    · exact h4
    · exact h5
    · exact h6
    · exact h7
    · exact h8
    · exact h9
    · exact h10
    · exact h11
    · exact h12
    · exact h13
    · exact h14
    · exact h15
    · exact h16
    · exact h17
    · exact h18
    · exact h19
    · exact h20
    · exact h21
    · exact h22
    · exact h23
    · exact h24
    · exact h25
    · exact h26
    · exact h27
    · exact h28
    · exact h29
    · exact h30
    · exact h31
    · exact h32
    · exact h33
    · exact h34
    · exact h35
    · exact h36
  · obtain ⟨A2_, c2_, hv35, hf35⟩ := hR 35 (by decide)
    refine Reg.tail_one 37 (fun af => { dst := none, op := Op.store 74 (Operand.tmp 58) (Operand.tmp 57), type := 0, pos := "net.go:151", after := af, guard := none }) #[{ on := 36, ground := Ground.data }, { on := 35, ground := Ground.data }, { on := 33, ground := Ground.chain }, { on := 0, ground := Ground.phase }, { on := 1, ground := Ground.phase }, { on := 2, ground := Ground.phase }, { on := 3, ground := Ground.phase }, { on := 4, ground := Ground.phase }, { on := 5, ground := Ground.phase }, { on := 6, ground := Ground.phase }, { on := 7, ground := Ground.phase }, { on := 8, ground := Ground.phase }, { on := 9, ground := Ground.phase }, { on := 10, ground := Ground.phase }, { on := 11, ground := Ground.phase }, { on := 12, ground := Ground.phase }, { on := 13, ground := Ground.phase }, { on := 14, ground := Ground.phase }, { on := 15, ground := Ground.phase }, { on := 16, ground := Ground.phase }, { on := 17, ground := Ground.phase }, { on := 18, ground := Ground.phase }, { on := 19, ground := Ground.phase }, { on := 20, ground := Ground.phase }, { on := 21, ground := Ground.phase }, { on := 22, ground := Ground.phase }, { on := 23, ground := Ground.phase }, { on := 24, ground := Ground.phase }, { on := 25, ground := Ground.phase }, { on := 26, ground := Ground.phase }, { on := 27, ground := Ground.phase }, { on := 28, ground := Ground.phase }, { on := 29, ground := Ground.phase }, { on := 30, ground := Ground.phase }, { on := 31, ground := Ground.phase }, { on := 32, ground := Ground.phase }, { on := 33, ground := Ground.phase }, { on := 34, ground := Ground.phase }, { on := 35, ground := Ground.phase }] (by kernel_rfl) (fun _ => rfl) (by decide) (by rw [hn]; decide) (by rw [hn]; decide) (by decide) (fun a' w' => a' = Reg.gfr (Reg.opsOf Try.f23 6) a0 v [0, 1, 2, 3, 4, 5, 6, 7, 8, 9, 10, 11, 12, 13, 14, 15, 16, 17, 18, 19, 20, 21, 22, 23, 24, 25, 26, 27, 28, 29, 30, 31, 32, 33, 34, 35, 36] ∧ w' = (w.setRow rb (cur.toList.take (ii * 4) ++ [Value.int IntKind.i64 ff, Value.int IntKind.i64 tt, Value.slice A2_ kk c2_, Value.bool true] ++ cur.toList.drop (ii * 4 + 4)).toArray)) (fun af K hK => ?_) ?_ fuel hf
    · have v36 : v 36 = (Value.pointer (some ⟨rb, ii * 4, none⟩)) := hR 36 (by decide)
      have e58 := (Reg.gfr_eval (ops := (Reg.opsOf Try.f23 6)) (a0 := a0) (v := v) (L := [0, 1, 2, 3, 4, 5, 6, 7, 8, 9, 10, 11, 12, 13, 14, 15, 16, 17, 18, 19, 20, 21, 22, 23, 24, 25, 26, 27, 28, 29, 30, 31, 32, 33, 34, 35, 36]) 58 36 (by kernel_rfl) (by rw [hsz]; omega)).trans v36
      have v35 := hv35
      have e57 := (Reg.gfr_eval (ops := (Reg.opsOf Try.f23 6)) (a0 := a0) (v := v) (L := [0, 1, 2, 3, 4, 5, 6, 7, 8, 9, 10, 11, 12, 13, 14, 15, 16, 17, 18, 19, 20, 21, 22, 23, 24, 25, 26, 27, 28, 29, 30, 31, 32, 33, 34, 35, 36]) 57 35 (by kernel_rfl) (by rw [hsz]; omega)).trans v35
      have hp := hK _ _ ⟨rfl, rfl⟩
      generalize Reg.gfr (Reg.opsOf Try.f23 6) a0 v [0, 1, 2, 3, 4, 5, 6, 7, 8, 9, 10, 11, 12, 13, 14, 15, 16, 17, 18, 19, 20, 21, 22, 23, 24, 25, 26, 27, 28, 29, 30, 31, 32, 33, 34, 35, 36] = G at hp e58 e57 ⊢
      exact wp_store_at 74 (Operand.tmp 58) (Operand.tmp 57) rfl rb (ii * 4) e58 _ e57 cur 74 (M_rb w hb) (by simpa using hfit) (by simp [Value.oneCell']) (by kernel_rfl) rfl hp
    · rintro a' w' ⟨rfl, rfl⟩
      have v0 : v 0 = (Value.pointer (some ⟨gg, 0, none⟩)) := hR 0 (by decide)
      have v1 : v 1 = (Value.pointer (some ⟨gg, 0, none⟩)) := hR 1 (by decide)
      have v2 : v 2 = (Value.pointer (some ⟨gg, 1, none⟩)) := hR 2 (by decide)
      have v3 : v 3 = (Value.slice (some ⟨rb, 0, none⟩) nn cc) := hR 3 (by decide)
      have v4 : v 4 = (Value.int IntKind.i64 (ii : Int)) := hR 4 (by decide)
      have v5 : v 5 = (Value.pointer (some ⟨gg, 0, none⟩)) := hR 5 (by decide)
      have v6 : v 6 = (Value.pointer (some ⟨gg, 0, none⟩)) := hR 6 (by decide)
      have v7 : v 7 = (Value.pointer (some ⟨gg, 1, none⟩)) := hR 7 (by decide)
      have v8 : v 8 = (Value.slice (some ⟨rb, 0, none⟩) nn cc) := hR 8 (by decide)
      have v9 : v 9 = (Value.int IntKind.i64 (ii : Int)) := hR 9 (by decide)
      have v10 : v 10 = (Value.pointer (some ⟨rb, ii * 4, none⟩)) := hR 10 (by decide)
      have v11 : v 11 = (Value.pointer (some ⟨rb, ii * 4, none⟩)) := hR 11 (by decide)
      have v12 : v 12 = (Value.pointer (some ⟨rb, ii * 4, none⟩)) := hR 12 (by decide)
      have v13 : v 13 = (Value.int IntKind.i64 ff) := hR 13 (by decide)
      have v14 : v 14 = (Value.pointer (some ⟨gg, 0, none⟩)) := hR 14 (by decide)
      have v15 : v 15 = (Value.pointer (some ⟨gg, 0, none⟩)) := hR 15 (by decide)
      have v16 : v 16 = (Value.pointer (some ⟨gg, 1, none⟩)) := hR 16 (by decide)
      have v17 : v 17 = (Value.slice (some ⟨rb, 0, none⟩) nn cc) := hR 17 (by decide)
      have v18 : v 18 = (Value.int IntKind.i64 (ii : Int)) := hR 18 (by decide)
      have v19 : v 19 = (Value.pointer (some ⟨rb, ii * 4, none⟩)) := hR 19 (by decide)
      have v20 : v 20 = (Value.pointer (some ⟨rb, ii * 4, none⟩)) := hR 20 (by decide)
      have v21 : v 21 = (Value.pointer (some ⟨rb, ii * 4 + 1, none⟩)) := hR 21 (by decide)
      have v22 : v 22 = (Value.int IntKind.i64 tt) := hR 22 (by decide)
      have v23 : v 23 = (Value.pointer (some ⟨gg, 0, none⟩)) := hR 23 (by decide)
      have v24 : v 24 = (Value.pointer (some ⟨gg, 0, none⟩)) := hR 24 (by decide)
      have v25 : v 25 = (Value.pointer (some ⟨gg, 1, none⟩)) := hR 25 (by decide)
      have v26 : v 26 = (Value.slice (some ⟨rb, 0, none⟩) nn cc) := hR 26 (by decide)
      have v27 : v 27 = (Value.int IntKind.i64 (ii : Int)) := hR 27 (by decide)
      have v28 : v 28 = (Value.pointer (some ⟨rb, ii * 4, none⟩)) := hR 28 (by decide)
      have v29 : v 29 = (Value.pointer (some ⟨rb, ii * 4, none⟩)) := hR 29 (by decide)
      have v30 : v 30 = (Value.pointer (some ⟨rb, ii * 4 + 2, none⟩)) := hR 30 (by decide)
      have v31 : v 31 = (Value.slice fA fn fc) := hR 31 (by decide)
      have v32 : v 32 = (Value.agg #[Value.bool cut, Value.int IntKind.i64 sx, Value.int IntKind.u32 (mm : Int)]) := hR 32 (by decide)
      have v36 : v 36 = (Value.pointer (some ⟨rb, ii * 4, none⟩)) := hR 36 (by decide)
      rw [hfin v, v0, v1, v2, v3, v4, v5, v6, v7, v8, v9, v10, v11, v12, v13, v14, v15, v16, v17, v18, v19, v20, v21, v22, v23, v24, v25, v26, v27, v28, v29, v30, v31, v32, v36, hv35]
      exact hend w (v 33) (v 34) A2_ c2_ hb hf35
end Go.Proofs.Ytfojlmnlolnilaa
