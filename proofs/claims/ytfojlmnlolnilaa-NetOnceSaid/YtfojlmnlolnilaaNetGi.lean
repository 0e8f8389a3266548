/- Regions that draw their order: their obligations (printed by regen2.py). -/
import Derived.Test.YtfojlmnlolnilaaMark
import Derived.Test.YtfojlmnlolnilaaRegC
import Derived.Test.YtfojlmnlolnilaaRegT
namespace Go.Proofs.Ytfojlmnlolnilaa
open Go.RowKit
set_option linter.unusedVariables false
set_option linter.unusedSimpArgs false
set_option linter.unusedSectionVars false
def nonce14R (B0 ws cc k2 r0n r0c r1n r1c r2n r2c mm pb : Nat) (A0 A1 A2 : Option Addr) (cut : Bool) (sx : Int) (L1 L2 : List UInt8) : Nat → Value → World → Prop
  | 0 => fun x_ _ => x_ = (Value.bool true)
  | 1 => fun x_ _ => x_ = (Value.bool true)
  | 2 => fun x_ _ => x_ = (Value.slice (some ⟨pb, 0, none⟩) 3 cc)
  | 3 => fun x_ _ => x_ = (Value.int IntKind.i64 3)
  | 4 => fun x_ _ => x_ = (Value.bool true)
  | 5 => fun x_ _ => x_ = (Value.bool true)
  | 6 => fun x_ _ => x_ = (Value.bool true)
  | 7 => fun x_ _ => x_ = (Value.slice (some ⟨pb, 0, none⟩) 3 cc)
  | 8 => fun x_ _ => x_ = (Value.pointer (some ⟨pb, 0, none⟩))
  | 9 => fun x_ _ => x_ = (Value.pointer (some ⟨pb, 2, none⟩))
  | 10 => fun x_ _ => x_ = (Value.slice A0 r0n r0c)
  | 11 => fun x_ _ => x_ = (Value.string (bstr L2))
  | 12 => (fun u_ w_ => ∃ b_, u_ = Value.slice (some ⟨b_, 0, none⟩) 5 5 ∧ w_.heap[b_]? = some (.cells #[Value.int IntKind.u8 111, Value.int IntKind.u8 116, Value.int IntKind.u8 104, Value.int IntKind.u8 101, Value.int IntKind.u8 114] 5 (0, 0)) ∧ B0 ≤ b_)
  | 13 => (fun u_ w_ => ∃ b_, u_ = Value.slice (some ⟨b_, 0, none⟩) 5 5 ∧ w_.heap[b_]? = some (.cells #[Value.int IntKind.u8 111, Value.int IntKind.u8 116, Value.int IntKind.u8 104, Value.int IntKind.u8 101, Value.int IntKind.u8 114] 5 (5, 6)))
  | 14 => fun x_ _ => x_ = (Value.agg #[Value.bool cut, Value.int IntKind.i64 sx, Value.int IntKind.u32 (mm : Int)])
  | 15 => (fun u_ w_ => ∃ A_ c_, u_ = Value.slice A_ k2 c_ ∧ RdC w_ A_ (u8v L2))
  | 16 => fun x_ _ => x_ = (Value.string (bstr L2))
  | 17 => fun x_ _ => x_ = (Value.bool true)
  | 18 => fun x_ _ => x_ = (Value.bool true)
  | 19 => fun x_ _ => x_ = (Value.bool true)
  | 20 => fun x_ _ => x_ = (Value.slice (some ⟨pb, 0, none⟩) 3 cc)
  | 21 => fun x_ _ => x_ = (Value.pointer (some ⟨pb, 3, none⟩))
  | 22 => fun x_ _ => x_ = (Value.pointer (some ⟨pb, 5, none⟩))
  | 23 => fun x_ _ => x_ = (Value.slice A1 r1n r1c)
  | 24 => fun x_ _ => x_ = (Value.string (bstr L1))
  | 25 => fun x_ _ => x_ = (Value.string (bstr L1))
  | 26 => fun x_ _ => x_ = (Value.bool true)
  | 27 => fun x_ _ => x_ = (Value.bool true)
  | 28 => fun x_ _ => x_ = (Value.bool true)
  | 29 => fun x_ _ => x_ = (Value.slice (some ⟨pb, 0, none⟩) 3 cc)
  | 30 => fun x_ _ => x_ = (Value.pointer (some ⟨pb, 6, none⟩))
  | 31 => fun x_ _ => x_ = (Value.pointer (some ⟨pb, 8, none⟩))
  | 32 => fun x_ _ => x_ = (Value.slice A2 r2n r2c)
  | 33 => fun x_ _ => x_ = (Value.string (bstr L1))
  | 34 => fun x_ _ => x_ = (Value.string (bstr L1))
  | 35 => fun x_ _ => x_ = (Value.bool true)
  | 36 => fun x_ _ => x_ = (Value.bool true)
  | 37 => fun x_ _ => x_ = (Value.bool true)
  | _ => fun _ _ => True
theorem nonce14_stable (B0 ws cc k2 r0n r0c r1n r1c r2n r2c mm pb : Nat) (A0 A1 A2 : Option Addr) (cut : Bool) (sx : Int) (L1 L2 : List UInt8) : ∀ i_ u_ w_ w_', (nonce14R B0 ws cc k2 r0n r0c r1n r1c r2n r2c mm pb A0 A1 A2 cut sx L1 L2) i_ u_ w_ → Below w_.heap.size w_ w_' → (nonce14R B0 ws cc k2 r0n r0c r1n r1c r2n r2c mm pb A0 A1 A2 cut sx L1 L2) i_ u_ w_' := fun i_ u_ w_ w_' h_ hb_ => by
  match i_, h_ with
  | 0, h_ => exact h_
  | 1, h_ => exact h_
  | 2, h_ => exact h_
  | 3, h_ => exact h_
  | 4, h_ => exact h_
  | 5, h_ => exact h_
  | 6, h_ => exact h_
  | 7, h_ => exact h_
  | 8, h_ => exact h_
  | 9, h_ => exact h_
  | 10, h_ => exact h_
  | 11, h_ => exact h_
  | 12, h_ => exact ((by obtain ⟨b_, h1_, h2_, h3_⟩ := h_; exact ⟨b_, h1_, (hb_.block _ (lt_get h2_)).trans h2_, h3_⟩))
  | 13, h_ => exact ((by obtain ⟨b_, h1_, h2_⟩ := h_; exact ⟨b_, h1_, (hb_.block _ (lt_get h2_)).trans h2_⟩))
  | 14, h_ => exact h_
  | 15, h_ => exact ((by obtain ⟨A_, c_, h1_, h2_⟩ := h_; exact ⟨A_, c_, h1_, h2_.below hb_⟩))
  | 16, h_ => exact h_
  | 17, h_ => exact h_
  | 18, h_ => exact h_
  | 19, h_ => exact h_
  | 20, h_ => exact h_
  | 21, h_ => exact h_
  | 22, h_ => exact h_
  | 23, h_ => exact h_
  | 24, h_ => exact h_
  | 25, h_ => exact h_
  | 26, h_ => exact h_
  | 27, h_ => exact h_
  | 28, h_ => exact h_
  | 29, h_ => exact h_
  | 30, h_ => exact h_
  | 31, h_ => exact h_
  | 32, h_ => exact h_
  | 33, h_ => exact h_
  | 34, h_ => exact h_
  | 35, h_ => exact h_
  | 36, h_ => exact h_
  | 37, h_ => exact h_
  | (_ + 38), _ => trivial
section
variable (B0 ws cc k2 r0n r0c r1n r1c r2n r2c mm pb : Nat) (A0 A1 A2 : Option Addr) (cut : Bool) (sx : Int) (L1 L2 : List UInt8) (w0 : World) (a0 : Act)
variable (hB0 : B0 = w0.heap.size)
variable (v0 : ∀ W, Below w0.heap.size w0 W → (convert 22 9 (.slice A0 r0n r0c)).run Try.prog W = .ok (.string (bstr L2)) W)
variable (v1 : ∀ W, Below w0.heap.size w0 W → (convert 22 9 (.slice A1 r1n r1c)).run Try.prog W = .ok (.string (bstr L1)) W)
variable (v2 : ∀ W, Below w0.heap.size w0 W → (convert 22 9 (.slice A2 r2n r2c)).run Try.prog W = .ok (.string (bstr L1)) W)
variable (hsp : ∀ W b, Below w0.heap.size w0 W → W.heap[b]? = some (.cells #[Value.int IntKind.u8 111, Value.int IntKind.u8 116, Value.int IntKind.u8 104, Value.int IntKind.u8 101, Value.int IntKind.u8 114] 5 (5, 6)) → Calls Try.prog 10 #[.slice (some ⟨b, 0, none⟩) 5 5, .agg #[Value.bool cut, Value.int IntKind.i64 sx, Value.int IntKind.u32 (mm : Int)]] W fun e w' => ∃ A_ c_, e = .returned (.slice A_ k2 c_) ∧ RdC w' A_ (u8v L2) ∧ Below W.heap.size W w')
variable (hl2 : L2.length = k2)
variable (M_ws : ∀ W, Below w0.heap.size w0 W → W.heap[ws]? = some (.cells #[Value.bool cut, Value.int IntKind.i64 sx, Value.int IntKind.u32 (mm : Int)] 25 (0, 0)))
variable (Q0 : ∀ W, Below w0.heap.size w0 W → W.cell? ⟨pb, 2, none⟩ = some (Value.slice A0 r0n r0c))
variable (Q1 : ∀ W, Below w0.heap.size w0 W → W.cell? ⟨pb, 5, none⟩ = some (Value.slice A1 r1n r1c))
variable (Q2 : ∀ W, Below w0.heap.size w0 W → W.cell? ⟨pb, 8, none⟩ = some (Value.slice A2 r2n r2c))
variable (i5 : a0.eval (.tmp 5) = (Value.pointer (some ⟨ws, 0, none⟩))) (i7 : a0.eval (.tmp 7) = (Value.bool true)) (i11 : a0.eval (.tmp 11) = (Value.slice (some ⟨pb, 0, none⟩) 3 cc)) (i12 : a0.eval (.tmp 12) = (Value.string (bstr L1))) (hsz : a0.tmps.size = 126)
include B0 ws cc k2 r0n r0c r1n r1c r2n r2c mm pb A0 A1 A2 cut sx L1 L2 w0 a0 hB0 v0 v1 v2 hsp hl2 M_ws Q0 Q1 Q2 i5 i7 i11 i12 hsz
set_option maxHeartbeats 4000000 in
set_option maxRecDepth 20000 in
theorem nonce14_h0 :
    Reg.OpOK Try.prog (Reg.opsOf Try.f6 14) a0 w0 (nonce14R B0 ws cc k2 r0n r0c r1n r1c r2n r2c mm pb A0 A1 A2 cut sx L1 L2) (fun _ _ _ _ => True) 0 := by
    refine Reg.op_ok2 (fun af => { dst := some 89, op := Op.move (Operand.tmp 7), type := 4, pos := "outright.go:192", after := af, guard := none }) #[] (by kernel_rfl) [] (by kernel_rfl) fun af v W hb hd => ?_
    have e7 := (Reg.gfr_eval0 (ops := (Reg.opsOf Try.f6 14)) (a0 := a0) (v := v) (L := []) 7 (by kernel_rfl)).trans i7
    refine ⟨Reg.wanted_none rfl, ?_⟩
    generalize Reg.gfr (Reg.opsOf Try.f6 14) a0 v [] = G at e7 ⊢
    generalize hρ : G.eval = ρ at e7
    have hρ' : G.eval = ρ := hρ
    refine Reg.go_run (Value.bool true) W ?_ ?_
    · rw [hρ']; simp [execOp, go_sem, e7]
    · exact ⟨Below.refl _ _, rfl⟩
set_option maxHeartbeats 4000000 in
set_option maxRecDepth 20000 in
theorem nonce14_h1 :
    Reg.OpOK Try.prog (Reg.opsOf Try.f6 14) a0 w0 (nonce14R B0 ws cc k2 r0n r0c r1n r1c r2n r2c mm pb A0 A1 A2 cut sx L1 L2) (fun _ _ _ _ => True) 1 := by
    refine Reg.op_ok2 (fun af => { dst := some 90, op := Op.move (Operand.tmp 89), type := 4, pos := "outright.go:192", after := af, guard := none }) #[{ on := 0, ground := Ground.data }] (by kernel_rfl) [0] (by kernel_rfl) fun af v W hb hd => ?_
    have d0 : v 0 = (Value.bool true) := hd 0 (by decide)
    have e89 := (Reg.gfr_eval (ops := (Reg.opsOf Try.f6 14)) (a0 := a0) (v := v) (L := [0]) 89 0 (by kernel_rfl) (by rw [hsz]; omega)).trans d0
    refine ⟨Reg.wanted_none rfl, ?_⟩
    generalize Reg.gfr (Reg.opsOf Try.f6 14) a0 v [0] = G at e89 ⊢
    generalize hρ : G.eval = ρ at e89
    have hρ' : G.eval = ρ := hρ
    refine Reg.go_run (Value.bool true) W ?_ ?_
    · rw [hρ']; simp [execOp, go_sem, e89]
    · exact ⟨Below.refl _ _, rfl⟩
set_option maxHeartbeats 4000000 in
set_option maxRecDepth 20000 in
theorem nonce14_h2 :
    Reg.OpOK Try.prog (Reg.opsOf Try.f6 14) a0 w0 (nonce14R B0 ws cc k2 r0n r0c r1n r1c r2n r2c mm pb A0 A1 A2 cut sx L1 L2) (fun _ _ _ _ => True) 2 := by
    refine Reg.op_ok2 (fun af => { dst := some 91, op := Op.move (Operand.tmp 11), type := 35, pos := "outright.go:192", after := af, guard := some (1, true) }) #[{ on := 1, ground := Ground.guard }] (by kernel_rfl) [1] (by kernel_rfl) fun af v W hb hd => ?_
    have d1 : v 1 = (Value.bool true) := hd 1 (by decide)
    have e11 := (Reg.gfr_eval0 (ops := (Reg.opsOf Try.f6 14)) (a0 := a0) (v := v) (L := [1]) 11 (by kernel_rfl)).trans i11
    have e90 := (Reg.gfr_eval (ops := (Reg.opsOf Try.f6 14)) (a0 := a0) (v := v) (L := [1]) 90 1 (by kernel_rfl) (by rw [hsz]; omega)).trans d1
    refine ⟨Reg.wanted_of rfl (by kernel_rfl) e90, ?_⟩
    generalize Reg.gfr (Reg.opsOf Try.f6 14) a0 v [1] = G at e11 ⊢
    generalize hρ : G.eval = ρ at e11
    have hρ' : G.eval = ρ := hρ
    refine Reg.go_run (Value.slice (some ⟨pb, 0, none⟩) 3 cc) W ?_ ?_
    · rw [hρ']; simp [execOp, go_sem, e11]
    · exact ⟨Below.refl _ _, rfl⟩
set_option maxHeartbeats 4000000 in
set_option maxRecDepth 20000 in
theorem nonce14_h3 :
    Reg.OpOK Try.prog (Reg.opsOf Try.f6 14) a0 w0 (nonce14R B0 ws cc k2 r0n r0c r1n r1c r2n r2c mm pb A0 A1 A2 cut sx L1 L2) (fun _ _ _ _ => True) 3 := by
    refine Reg.op_ok2 (fun af => { dst := some 92, op := Op.call { callee := Callee.builtin Builtin.len, args := #[Operand.tmp 91], argTypes := #[35] }, type := 3, pos := "outright.go:192", after := af, guard := some (1, true) }) #[{ on := 2, ground := Ground.data }, { on := 1, ground := Ground.guard }] (by kernel_rfl) [2, 1] (by kernel_rfl) fun af v W hb hd => ?_
    have d1 : v 1 = (Value.bool true) := hd 1 (by decide)
    have d2 : v 2 = (Value.slice (some ⟨pb, 0, none⟩) 3 cc) := hd 2 (by decide)
    have e91 := (Reg.gfr_eval (ops := (Reg.opsOf Try.f6 14)) (a0 := a0) (v := v) (L := [2, 1]) 91 2 (by kernel_rfl) (by rw [hsz]; omega)).trans d2
    have e90 := (Reg.gfr_eval (ops := (Reg.opsOf Try.f6 14)) (a0 := a0) (v := v) (L := [2, 1]) 90 1 (by kernel_rfl) (by rw [hsz]; omega)).trans d1
    refine ⟨Reg.wanted_of rfl (by kernel_rfl) e90, ?_⟩
    generalize Reg.gfr (Reg.opsOf Try.f6 14) a0 v [2, 1] = G at e91 ⊢
    generalize hρ : G.eval = ρ at e91
    have hρ' : G.eval = ρ := hρ
    refine Reg.go_run (Value.int IntKind.i64 3) W ?_ ?_
    · rw [hρ']; simp [execOp, go_sem, e91]
    · exact ⟨Below.refl _ _, rfl⟩
set_option maxHeartbeats 4000000 in
set_option maxRecDepth 20000 in
theorem nonce14_h4 :
    Reg.OpOK Try.prog (Reg.opsOf Try.f6 14) a0 w0 (nonce14R B0 ws cc k2 r0n r0c r1n r1c r2n r2c mm pb A0 A1 A2 cut sx L1 L2) (fun _ _ _ _ => True) 4 := by
    refine Reg.op_ok2 (fun af => { dst := some 93, op := Op.binOp BinOp.eql 3 (Operand.tmp 92) (Operand.const (Value.int IntKind.i64 3)) 3, type := 4, pos := "outright.go:192", after := af, guard := some (1, true) }) #[{ on := 3, ground := Ground.data }, { on := 1, ground := Ground.guard }] (by kernel_rfl) [3, 1] (by kernel_rfl) fun af v W hb hd => ?_
    have d1 : v 1 = (Value.bool true) := hd 1 (by decide)
    have d3 : v 3 = (Value.int IntKind.i64 3) := hd 3 (by decide)
    have e92 := (Reg.gfr_eval (ops := (Reg.opsOf Try.f6 14)) (a0 := a0) (v := v) (L := [3, 1]) 92 3 (by kernel_rfl) (by rw [hsz]; omega)).trans d3
    have e90 := (Reg.gfr_eval (ops := (Reg.opsOf Try.f6 14)) (a0 := a0) (v := v) (L := [3, 1]) 90 1 (by kernel_rfl) (by rw [hsz]; omega)).trans d1
    refine ⟨Reg.wanted_of rfl (by kernel_rfl) e90, ?_⟩
    have eC : ∀ x, (Reg.gfr (Reg.opsOf Try.f6 14) a0 v [3, 1]).eval (.const x) = x := fun _ => rfl
    generalize Reg.gfr (Reg.opsOf Try.f6 14) a0 v [3, 1] = G at e92 eC ⊢
    generalize hρ : G.eval = ρ at e92 eC
    have hρ' : G.eval = ρ := hρ
    refine Reg.go_run (Value.bool true) W ?_ ?_
    · rw [hρ']; simp [execOp, go_sem, e92, eC]
    · exact ⟨Below.refl _ _, rfl⟩
set_option maxHeartbeats 4000000 in
set_option maxRecDepth 20000 in
theorem nonce14_h5 :
    Reg.OpOK Try.prog (Reg.opsOf Try.f6 14) a0 w0 (nonce14R B0 ws cc k2 r0n r0c r1n r1c r2n r2c mm pb A0 A1 A2 cut sx L1 L2) (fun _ _ _ _ => True) 5 := by
    refine Reg.op_ok2 (fun af => { dst := some 94, op := Op.pick (Operand.tmp 90) (Operand.tmp 93) (Operand.const (Value.bool false)), type := 4, pos := "outright.go:192", after := af, guard := none }) #[{ on := 1, ground := Ground.data }, { on := 4, ground := Ground.data }] (by kernel_rfl) [1, 4] (by kernel_rfl) fun af v W hb hd => ?_
    have d1 : v 1 = (Value.bool true) := hd 1 (by decide)
    have d4 : v 4 = (Value.bool true) := hd 4 (by decide)
    have e90 := (Reg.gfr_eval (ops := (Reg.opsOf Try.f6 14)) (a0 := a0) (v := v) (L := [1, 4]) 90 1 (by kernel_rfl) (by rw [hsz]; omega)).trans d1
    have e93 := (Reg.gfr_eval (ops := (Reg.opsOf Try.f6 14)) (a0 := a0) (v := v) (L := [1, 4]) 93 4 (by kernel_rfl) (by rw [hsz]; omega)).trans d4
    refine ⟨Reg.wanted_none rfl, ?_⟩
    have eC : ∀ x, (Reg.gfr (Reg.opsOf Try.f6 14) a0 v [1, 4]).eval (.const x) = x := fun _ => rfl
    generalize Reg.gfr (Reg.opsOf Try.f6 14) a0 v [1, 4] = G at e90 e93 eC ⊢
    generalize hρ : G.eval = ρ at e90 e93 eC
    have hρ' : G.eval = ρ := hρ
    refine Reg.go_run (Value.bool true) W ?_ ?_
    · rw [hρ']; simp [execOp, go_sem, e90, e93, eC]
    · exact ⟨Below.refl _ _, rfl⟩
set_option maxHeartbeats 4000000 in
set_option maxRecDepth 20000 in
theorem nonce14_h6 :
    Reg.OpOK Try.prog (Reg.opsOf Try.f6 14) a0 w0 (nonce14R B0 ws cc k2 r0n r0c r1n r1c r2n r2c mm pb A0 A1 A2 cut sx L1 L2) (fun _ _ _ _ => True) 6 := by
    refine Reg.op_ok2 (fun af => { dst := some 95, op := Op.move (Operand.tmp 94), type := 4, pos := "outright.go:192", after := af, guard := none }) #[{ on := 5, ground := Ground.data }, { on := 1, ground := Ground.chain }] (by kernel_rfl) [5, 1] (by kernel_rfl) fun af v W hb hd => ?_
    have d5 : v 5 = (Value.bool true) := hd 5 (by decide)
    have e94 := (Reg.gfr_eval (ops := (Reg.opsOf Try.f6 14)) (a0 := a0) (v := v) (L := [5, 1]) 94 5 (by kernel_rfl) (by rw [hsz]; omega)).trans d5
    refine ⟨Reg.wanted_none rfl, ?_⟩
    generalize Reg.gfr (Reg.opsOf Try.f6 14) a0 v [5, 1] = G at e94 ⊢
    generalize hρ : G.eval = ρ at e94
    have hρ' : G.eval = ρ := hρ
    refine Reg.go_run (Value.bool true) W ?_ ?_
    · rw [hρ']; simp [execOp, go_sem, e94]
    · exact ⟨Below.refl _ _, rfl⟩
set_option maxHeartbeats 4000000 in
set_option maxRecDepth 20000 in
theorem nonce14_h7 :
    Reg.OpOK Try.prog (Reg.opsOf Try.f6 14) a0 w0 (nonce14R B0 ws cc k2 r0n r0c r1n r1c r2n r2c mm pb A0 A1 A2 cut sx L1 L2) (fun _ _ _ _ => True) 7 := by
    refine Reg.op_ok2 (fun af => { dst := some 96, op := Op.move (Operand.tmp 11), type := 35, pos := "outright.go:192", after := af, guard := some (6, true) }) #[{ on := 6, ground := Ground.guard }] (by kernel_rfl) [6] (by kernel_rfl) fun af v W hb hd => ?_
    have d6 : v 6 = (Value.bool true) := hd 6 (by decide)
    have e11 := (Reg.gfr_eval0 (ops := (Reg.opsOf Try.f6 14)) (a0 := a0) (v := v) (L := [6]) 11 (by kernel_rfl)).trans i11
    have e95 := (Reg.gfr_eval (ops := (Reg.opsOf Try.f6 14)) (a0 := a0) (v := v) (L := [6]) 95 6 (by kernel_rfl) (by rw [hsz]; omega)).trans d6
    refine ⟨Reg.wanted_of rfl (by kernel_rfl) e95, ?_⟩
    generalize Reg.gfr (Reg.opsOf Try.f6 14) a0 v [6] = G at e11 ⊢
    generalize hρ : G.eval = ρ at e11
    have hρ' : G.eval = ρ := hρ
    refine Reg.go_run (Value.slice (some ⟨pb, 0, none⟩) 3 cc) W ?_ ?_
    · rw [hρ']; simp [execOp, go_sem, e11]
    · exact ⟨Below.refl _ _, rfl⟩
set_option maxHeartbeats 4000000 in
set_option maxRecDepth 20000 in
theorem nonce14_h8 :
    Reg.OpOK Try.prog (Reg.opsOf Try.f6 14) a0 w0 (nonce14R B0 ws cc k2 r0n r0c r1n r1c r2n r2c mm pb A0 A1 A2 cut sx L1 L2) (fun _ _ _ _ => True) 8 := by
    refine Reg.op_ok2 (fun af => { dst := some 97, op := Op.indexAddr 35 (Operand.tmp 96) (Operand.const (Value.int IntKind.i64 0)), type := 0, pos := "outright.go:192", after := af, guard := some (6, true) }) #[{ on := 7, ground := Ground.data }, { on := 6, ground := Ground.guard }] (by kernel_rfl) [7, 6] (by kernel_rfl) fun af v W hb hd => ?_
    have d6 : v 6 = (Value.bool true) := hd 6 (by decide)
    have d7 : v 7 = (Value.slice (some ⟨pb, 0, none⟩) 3 cc) := hd 7 (by decide)
    have e96 := (Reg.gfr_eval (ops := (Reg.opsOf Try.f6 14)) (a0 := a0) (v := v) (L := [7, 6]) 96 7 (by kernel_rfl) (by rw [hsz]; omega)).trans d7
    have e95 := (Reg.gfr_eval (ops := (Reg.opsOf Try.f6 14)) (a0 := a0) (v := v) (L := [7, 6]) 95 6 (by kernel_rfl) (by rw [hsz]; omega)).trans d6
    refine ⟨Reg.wanted_of rfl (by kernel_rfl) e95, ?_⟩
    have eC : ∀ x, (Reg.gfr (Reg.opsOf Try.f6 14) a0 v [7, 6]).eval (.const x) = x := fun _ => rfl
    generalize Reg.gfr (Reg.opsOf Try.f6 14) a0 v [7, 6] = G at e96 eC ⊢
    generalize hρ : G.eval = ρ at e96 eC
    have hρ' : G.eval = ρ := hρ
    refine Reg.go_run (Value.pointer (some ⟨pb, 0, none⟩)) W ?_ ?_
    · rw [hρ']; simp [execOp, go_sem, e96, eC]
    · exact ⟨Below.refl _ _, rfl⟩
set_option maxHeartbeats 4000000 in
set_option maxRecDepth 20000 in
theorem nonce14_h9 :
    Reg.OpOK Try.prog (Reg.opsOf Try.f6 14) a0 w0 (nonce14R B0 ws cc k2 r0n r0c r1n r1c r2n r2c mm pb A0 A1 A2 cut sx L1 L2) (fun _ _ _ _ => True) 9 := by
    refine Reg.op_ok2 (fun af => { dst := some 98, op := Op.fieldAddr 38 (Operand.tmp 97) 2, type := 0, pos := "outright.go:192", after := af, guard := some (6, true) }) #[{ on := 8, ground := Ground.data }, { on := 6, ground := Ground.guard }] (by kernel_rfl) [8, 6] (by kernel_rfl) fun af v W hb hd => ?_
    have d6 : v 6 = (Value.bool true) := hd 6 (by decide)
    have d8 : v 8 = (Value.pointer (some ⟨pb, 0, none⟩)) := hd 8 (by decide)
    have e97 := (Reg.gfr_eval (ops := (Reg.opsOf Try.f6 14)) (a0 := a0) (v := v) (L := [8, 6]) 97 8 (by kernel_rfl) (by rw [hsz]; omega)).trans d8
    have e95 := (Reg.gfr_eval (ops := (Reg.opsOf Try.f6 14)) (a0 := a0) (v := v) (L := [8, 6]) 95 6 (by kernel_rfl) (by rw [hsz]; omega)).trans d6
    refine ⟨Reg.wanted_of rfl (by kernel_rfl) e95, ?_⟩
    generalize Reg.gfr (Reg.opsOf Try.f6 14) a0 v [8, 6] = G at e97 ⊢
    generalize hρ : G.eval = ρ at e97
    have hρ' : G.eval = ρ := hρ
    refine Reg.go_run (Value.pointer (some ⟨pb, 2, none⟩)) W ?_ ?_
    · rw [hρ']; simp [execOp, go_sem, e97]
    · exact ⟨Below.refl _ _, rfl⟩
set_option maxHeartbeats 4000000 in
set_option maxRecDepth 20000 in
theorem nonce14_h10 :
    Reg.OpOK Try.prog (Reg.opsOf Try.f6 14) a0 w0 (nonce14R B0 ws cc k2 r0n r0c r1n r1c r2n r2c mm pb A0 A1 A2 cut sx L1 L2) (fun _ _ _ _ => True) 10 := by
    refine Reg.op_ok2 (fun af => { dst := some 99, op := Op.load 22 (Operand.tmp 98), type := 22, pos := "outright.go:192", after := af, guard := some (6, true) }) #[{ on := 9, ground := Ground.data }, { on := 6, ground := Ground.guard }] (by kernel_rfl) [9, 6] (by kernel_rfl) fun af v W hb hd => ?_
    have d6 : v 6 = (Value.bool true) := hd 6 (by decide)
    have d9 : v 9 = (Value.pointer (some ⟨pb, 2, none⟩)) := hd 9 (by decide)
    have e98 := (Reg.gfr_eval (ops := (Reg.opsOf Try.f6 14)) (a0 := a0) (v := v) (L := [9, 6]) 98 9 (by kernel_rfl) (by rw [hsz]; omega)).trans d9
    have e95 := (Reg.gfr_eval (ops := (Reg.opsOf Try.f6 14)) (a0 := a0) (v := v) (L := [9, 6]) 95 6 (by kernel_rfl) (by rw [hsz]; omega)).trans d6
    refine ⟨Reg.wanted_of rfl (by kernel_rfl) e95, ?_⟩
    generalize Reg.gfr (Reg.opsOf Try.f6 14) a0 v [9, 6] = G at e98 ⊢
    generalize hρ : G.eval = ρ at e98
    have hρ' : G.eval = ρ := hρ
    refine Reg.go_run (Value.slice A0 r0n r0c) W ?_ ?_
    · rw [hρ']; simp [execOp, go_sem, e98, Q0 W hb]
    · exact ⟨Below.refl _ _, rfl⟩
set_option maxHeartbeats 4000000 in
set_option maxRecDepth 20000 in
theorem nonce14_h11 :
    Reg.OpOK Try.prog (Reg.opsOf Try.f6 14) a0 w0 (nonce14R B0 ws cc k2 r0n r0c r1n r1c r2n r2c mm pb A0 A1 A2 cut sx L1 L2) (fun _ _ _ _ => True) 11 := by
    refine Reg.op_ok2 (fun af => { dst := some 100, op := Op.convert 22 9 (Operand.tmp 99), type := 9, pos := "outright.go:192", after := af, guard := some (6, true) }) #[{ on := 10, ground := Ground.data }, { on := 6, ground := Ground.guard }] (by kernel_rfl) [10, 6] (by kernel_rfl) fun af v W hb hd => ?_
    have d6 : v 6 = (Value.bool true) := hd 6 (by decide)
    have d10 : v 10 = (Value.slice A0 r0n r0c) := hd 10 (by decide)
    have e99 := (Reg.gfr_eval (ops := (Reg.opsOf Try.f6 14)) (a0 := a0) (v := v) (L := [10, 6]) 99 10 (by kernel_rfl) (by rw [hsz]; omega)).trans d10
    have e95 := (Reg.gfr_eval (ops := (Reg.opsOf Try.f6 14)) (a0 := a0) (v := v) (L := [10, 6]) 95 6 (by kernel_rfl) (by rw [hsz]; omega)).trans d6
    refine ⟨Reg.wanted_of rfl (by kernel_rfl) e95, ?_⟩
    generalize Reg.gfr (Reg.opsOf Try.f6 14) a0 v [10, 6] = G at e99 ⊢
    generalize hρ : G.eval = ρ at e99
    have hρ' : G.eval = ρ := hρ
    refine Reg.go_run (Value.string (bstr L2)) W ?_ ?_
    · rw [hρ']; simp [execOp, go_sem, e99, v0 W hb]
    · exact ⟨Below.refl _ _, rfl⟩
set_option maxHeartbeats 4000000 in
set_option maxRecDepth 20000 in
theorem nonce14_h12 :
    Reg.OpOK Try.prog (Reg.opsOf Try.f6 14) a0 w0 (nonce14R B0 ws cc k2 r0n r0c r1n r1c r2n r2c mm pb A0 A1 A2 cut sx L1 L2) (fun _ _ _ _ => True) 12 := by
    refine Reg.op_ok2 (fun af => { dst := some 101, op := Op.buildSlice 22 5 #[(0, Operand.const (Value.int IntKind.u8 111)), (1, Operand.const (Value.int IntKind.u8 116)), (2, Operand.const (Value.int IntKind.u8 104)), (3, Operand.const (Value.int IntKind.u8 101)), (4, Operand.const (Value.int IntKind.u8 114))], type := 22, pos := "outright.go:192", after := af, guard := some (6, true) }) #[{ on := 6, ground := Ground.guard }] (by kernel_rfl) [6] (by kernel_rfl) fun af v W hb hd => ?_
    have d6 : v 6 = (Value.bool true) := hd 6 (by decide)
    have e95 := (Reg.gfr_eval (ops := (Reg.opsOf Try.f6 14)) (a0 := a0) (v := v) (L := [6]) 95 6 (by kernel_rfl) (by rw [hsz]; omega)).trans d6
    refine ⟨Reg.wanted_of rfl (by kernel_rfl) e95, ?_⟩
    have eC : ∀ x, (Reg.gfr (Reg.opsOf Try.f6 14) a0 v [6]).eval (.const x) = x := fun _ => rfl
    generalize Reg.gfr (Reg.opsOf Try.f6 14) a0 v [6] = G at eC ⊢
    generalize hρ : G.eval = ρ at eC
    have hρ' : G.eval = ρ := hρ
    refine Reg.go_run (Value.slice (some ⟨W.heap.size, 0, none⟩) 5 5) (W.alloc (.cells #[Value.int IntKind.u8 111, Value.int IntKind.u8 116, Value.int IntKind.u8 104, Value.int IntKind.u8 101, Value.int IntKind.u8 114] 5)) (by rw [hρ']; simp [execOp, go_sem, eC]) ⟨(Below.refl _ _).alloc (Nat.le_refl _) _, ⟨_, rfl, heap_alloc_new _ _, by rw [hB0]; exact hb.size⟩⟩
set_option maxHeartbeats 4000000 in
set_option maxRecDepth 20000 in
theorem nonce14_h13 :
    RegC.OpOK Try.prog (Reg.opsOf Try.f6 14) a0 w0 (fun i_ => if i_ = 12 then some 13 else none) (nonce14R B0 ws cc k2 r0n r0c r1n r1c r2n r2c mm pb A0 A1 A2 cut sx L1 L2) (fun _ _ _ _ => True) 13 := by
    refine RegC.op_ok2 (fun af => { dst := some 102, op := Op.convert 22 22 (Operand.tmp 101), type := 22, pos := "outright.go:192", after := af, guard := some (6, true) }) #[{ on := 12, ground := Ground.data }, { on := 6, ground := Ground.guard }] (by kernel_rfl) [12, 6] (by kernel_rfl) fun af v W hb hd => ?_
    have d6 : v 6 = (Value.bool true) := hd 6 (by decide) (by decide)
    have d12 : ((fun u_ w_ => ∃ b_, u_ = Value.slice (some ⟨b_, 0, none⟩) 5 5 ∧ w_.heap[b_]? = some (.cells #[Value.int IntKind.u8 111, Value.int IntKind.u8 116, Value.int IntKind.u8 104, Value.int IntKind.u8 101, Value.int IntKind.u8 114] 5 (0, 0)) ∧ B0 ≤ b_)) (v 12) W := hd 12 (by decide) (by decide)
    have e101 := Reg.gfr_eval (ops := (Reg.opsOf Try.f6 14)) (a0 := a0) (v := v) (L := [12, 6]) 101 12 (by kernel_rfl) (by rw [hsz]; omega)
    have e95 := (Reg.gfr_eval (ops := (Reg.opsOf Try.f6 14)) (a0 := a0) (v := v) (L := [12, 6]) 95 6 (by kernel_rfl) (by rw [hsz]; omega)).trans d6
    refine ⟨Reg.wanted_of rfl (by kernel_rfl) e95, ?_⟩
    generalize Reg.gfr (Reg.opsOf Try.f6 14) a0 v [12, 6] = G at e101 ⊢
    generalize hρ : G.eval = ρ at e101
    have hρ' : G.eval = ρ := hρ
    obtain ⟨b_, hv_, hc_, hge_⟩ := d12
    rw [hv_] at e101
    obtain ⟨w_, hrun_, q1_, q2_, q3_, q4_, q5_, q6_⟩ := run_convert_mark (P := Try.prog) W 22 5 _ b_ 5 5 Try.underlying22 Try.underlying5 hc_
    refine Reg.go_run (Value.slice (some ⟨b_, 0, none⟩) 5 5) w_ (by rw [hρ']; simp [execOp, go_sem, e101, hrun_]) ⟨⟨q4_.trans hb.os, q5_.trans hb.tape, q6_.trans hb.output, by rw [q3_]; exact hb.size, fun k_ hk_ => (q2_ k_ (fun e_ => by subst e_; omega)).trans (hb.block k_ hk_)⟩, ⟨b_, rfl, q1_⟩, ?_⟩
    refine fun j_ x_ hj_ hg_ hx_ _ => ?_
    match j_, hj_, hg_, hx_ with
    | 0, _, _, hx_ => exact ⟨hx_, trivial, trivial⟩
    | 1, _, _, hx_ => exact ⟨hx_, trivial, trivial⟩
    | 2, _, _, hx_ => exact ⟨hx_, trivial, trivial⟩
    | 3, _, _, hx_ => exact ⟨hx_, trivial, trivial⟩
    | 4, _, _, hx_ => exact ⟨hx_, trivial, trivial⟩
    | 5, _, _, hx_ => exact ⟨hx_, trivial, trivial⟩
    | 6, _, _, hx_ => exact ⟨hx_, trivial, trivial⟩
    | 7, _, _, hx_ => exact ⟨hx_, trivial, trivial⟩
    | 8, _, _, hx_ => exact ⟨hx_, trivial, trivial⟩
    | 9, _, _, hx_ => exact ⟨hx_, trivial, trivial⟩
    | 10, _, _, hx_ => exact ⟨hx_, trivial, trivial⟩
    | 11, _, _, hx_ => exact ⟨hx_, trivial, trivial⟩
    | 12, _, hg_, _ => exact absurd hg_ (by rw [show RegC.gone (Reg.opsOf Try.f6 14) (fun i_ => if i_ = 12 then some 13 else none) 13 12 = true by kernel_rfl]; decide)
    | 13, hj_, _, _ => exact absurd rfl hj_
    | 14, _, _, hx_ => exact ⟨hx_, trivial, trivial⟩
    | 15, _, hg_, _ => exact absurd hg_ (by rw [show RegC.gone (Reg.opsOf Try.f6 14) (fun i_ => if i_ = 12 then some 13 else none) 13 15 = true by kernel_rfl]; decide)
    | 16, _, _, hx_ => exact ⟨hx_, trivial, trivial⟩
    | 17, _, _, hx_ => exact ⟨hx_, trivial, trivial⟩
    | 18, _, _, hx_ => exact ⟨hx_, trivial, trivial⟩
    | 19, _, _, hx_ => exact ⟨hx_, trivial, trivial⟩
    | 20, _, _, hx_ => exact ⟨hx_, trivial, trivial⟩
    | 21, _, _, hx_ => exact ⟨hx_, trivial, trivial⟩
    | 22, _, _, hx_ => exact ⟨hx_, trivial, trivial⟩
    | 23, _, _, hx_ => exact ⟨hx_, trivial, trivial⟩
    | 24, _, _, hx_ => exact ⟨hx_, trivial, trivial⟩
    | 25, _, _, hx_ => exact ⟨hx_, trivial, trivial⟩
    | 26, _, _, hx_ => exact ⟨hx_, trivial, trivial⟩
    | 27, _, _, hx_ => exact ⟨hx_, trivial, trivial⟩
    | 28, _, _, hx_ => exact ⟨hx_, trivial, trivial⟩
    | 29, _, _, hx_ => exact ⟨hx_, trivial, trivial⟩
    | 30, _, _, hx_ => exact ⟨hx_, trivial, trivial⟩
    | 31, _, _, hx_ => exact ⟨hx_, trivial, trivial⟩
    | 32, _, _, hx_ => exact ⟨hx_, trivial, trivial⟩
    | 33, _, _, hx_ => exact ⟨hx_, trivial, trivial⟩
    | 34, _, _, hx_ => exact ⟨hx_, trivial, trivial⟩
    | 35, _, _, hx_ => exact ⟨hx_, trivial, trivial⟩
    | 36, _, _, hx_ => exact ⟨hx_, trivial, trivial⟩
    | 37, _, _, hx_ => exact ⟨hx_, trivial, trivial⟩
    | (j_ + 38), _, _, _ => exact ⟨trivial, trivial, trivial⟩
set_option maxHeartbeats 4000000 in
set_option maxRecDepth 20000 in
theorem nonce14_h14 :
    Reg.OpOK Try.prog (Reg.opsOf Try.f6 14) a0 w0 (nonce14R B0 ws cc k2 r0n r0c r1n r1c r2n r2c mm pb A0 A1 A2 cut sx L1 L2) (fun _ _ _ _ => True) 14 := by
    refine Reg.op_ok2 (fun af => { dst := some 103, op := Op.load 25 (Operand.tmp 5), type := 25, pos := "outright.go:192", after := af, guard := some (6, true) }) #[{ on := 6, ground := Ground.guard }] (by kernel_rfl) [6] (by kernel_rfl) fun af v W hb hd => ?_
    have d6 : v 6 = (Value.bool true) := hd 6 (by decide)
    have e5 := (Reg.gfr_eval0 (ops := (Reg.opsOf Try.f6 14)) (a0 := a0) (v := v) (L := [6]) 5 (by kernel_rfl)).trans i5
    have e95 := (Reg.gfr_eval (ops := (Reg.opsOf Try.f6 14)) (a0 := a0) (v := v) (L := [6]) 95 6 (by kernel_rfl) (by rw [hsz]; omega)).trans d6
    refine ⟨Reg.wanted_of rfl (by kernel_rfl) e95, ?_⟩
    generalize Reg.gfr (Reg.opsOf Try.f6 14) a0 v [6] = G at e5 ⊢
    generalize hρ : G.eval = ρ at e5
    have hρ' : G.eval = ρ := hρ
    exact fun K hK => wp_load_row 25 (.tmp 5) rfl ws (by rw [hρ']; exact e5) 25 #[Value.bool cut, Value.int IntKind.i64 sx, Value.int IntKind.u32 (mm : Int)] (0, 0) _ (M_ws W hb) Try.underlying25 rfl size_sp (hK _ _ ⟨Below.refl _ _, rfl⟩)
set_option maxHeartbeats 4000000 in
set_option maxRecDepth 20000 in
theorem nonce14_h15 :
    Reg.OpOK Try.prog (Reg.opsOf Try.f6 14) a0 w0 (nonce14R B0 ws cc k2 r0n r0c r1n r1c r2n r2c mm pb A0 A1 A2 cut sx L1 L2) (fun _ _ _ _ => True) 15 := by
    refine Reg.op_ok2 (fun af => { dst := some 104, op := Op.call { callee := Callee.value (Operand.func 10), args := #[Operand.tmp 102, Operand.tmp 103], argTypes := #[22, 25] }, type := 22, pos := "outright.go:192", after := af, guard := some (6, true) }) #[{ on := 13, ground := Ground.data }, { on := 14, ground := Ground.data }, { on := 6, ground := Ground.chain }, { on := 6, ground := Ground.guard }] (by kernel_rfl) [13, 14, 6, 6] (by kernel_rfl) fun af v W hb hd => ?_
    have d6 : v 6 = (Value.bool true) := hd 6 (by decide)
    have d13 : ((fun u_ w_ => ∃ b_, u_ = Value.slice (some ⟨b_, 0, none⟩) 5 5 ∧ w_.heap[b_]? = some (.cells #[Value.int IntKind.u8 111, Value.int IntKind.u8 116, Value.int IntKind.u8 104, Value.int IntKind.u8 101, Value.int IntKind.u8 114] 5 (5, 6)))) (v 13) W := hd 13 (by decide)
    have d14 : v 14 = (Value.agg #[Value.bool cut, Value.int IntKind.i64 sx, Value.int IntKind.u32 (mm : Int)]) := hd 14 (by decide)
    have e102 := Reg.gfr_eval (ops := (Reg.opsOf Try.f6 14)) (a0 := a0) (v := v) (L := [13, 14, 6, 6]) 102 13 (by kernel_rfl) (by rw [hsz]; omega)
    have e103 := (Reg.gfr_eval (ops := (Reg.opsOf Try.f6 14)) (a0 := a0) (v := v) (L := [13, 14, 6, 6]) 103 14 (by kernel_rfl) (by rw [hsz]; omega)).trans d14
    have e95 := (Reg.gfr_eval (ops := (Reg.opsOf Try.f6 14)) (a0 := a0) (v := v) (L := [13, 14, 6, 6]) 95 6 (by kernel_rfl) (by rw [hsz]; omega)).trans d6
    refine ⟨Reg.wanted_of rfl (by kernel_rfl) e95, ?_⟩
    have eF : ∀ f, (Reg.gfr (Reg.opsOf Try.f6 14) a0 v [13, 14, 6, 6]).eval (.func f) = .func (.func f) #[] #[] := fun _ => rfl
    generalize Reg.gfr (Reg.opsOf Try.f6 14) a0 v [13, 14, 6, 6] = G at e102 e103 eF ⊢
    generalize hρ : G.eval = ρ at e102 e103 eF
    have hρ' : G.eval = ρ := hρ
    obtain ⟨b_, hv_, hc_⟩ := d13
    rw [hv_] at e102
    refine Reg.go_call 10 #[(Value.slice (some ⟨b_, 0, none⟩) 5 5), (Value.agg #[Value.bool cut, Value.int IntKind.i64 sx, Value.int IntKind.u32 (mm : Int)])] (by rw [hρ']; simp [execOp, go_sem, e102, e103, eF]) ((hsp W b_ hb hc_).mono fun e w' he => ?_)
    obtain ⟨A_, c_, rfl, hr_, hbb_⟩ := he
    exact ⟨_, rfl, hbb_, ⟨A_, c_, rfl, hr_⟩⟩
set_option maxHeartbeats 4000000 in
set_option maxRecDepth 20000 in
theorem nonce14_h16 :
    Reg.OpOK Try.prog (Reg.opsOf Try.f6 14) a0 w0 (nonce14R B0 ws cc k2 r0n r0c r1n r1c r2n r2c mm pb A0 A1 A2 cut sx L1 L2) (fun _ _ _ _ => True) 16 := by
    refine Reg.op_ok2 (fun af => { dst := some 105, op := Op.convert 22 9 (Operand.tmp 104), type := 9, pos := "outright.go:192", after := af, guard := some (6, true) }) #[{ on := 15, ground := Ground.data }, { on := 6, ground := Ground.guard }] (by kernel_rfl) [15, 6] (by kernel_rfl) fun af v W hb hd => ?_
    have d6 : v 6 = (Value.bool true) := hd 6 (by decide)
    have d15 : ((fun u_ w_ => ∃ A_ c_, u_ = Value.slice A_ k2 c_ ∧ RdC w_ A_ (u8v L2))) (v 15) W := hd 15 (by decide)
    have e104 := Reg.gfr_eval (ops := (Reg.opsOf Try.f6 14)) (a0 := a0) (v := v) (L := [15, 6]) 104 15 (by kernel_rfl) (by rw [hsz]; omega)
    have e95 := (Reg.gfr_eval (ops := (Reg.opsOf Try.f6 14)) (a0 := a0) (v := v) (L := [15, 6]) 95 6 (by kernel_rfl) (by rw [hsz]; omega)).trans d6
    refine ⟨Reg.wanted_of rfl (by kernel_rfl) e95, ?_⟩
    generalize Reg.gfr (Reg.opsOf Try.f6 14) a0 v [15, 6] = G at e104 ⊢
    generalize hρ : G.eval = ρ at e104
    have hρ' : G.eval = ρ := hρ
    obtain ⟨A_, c_, hv_, hr_⟩ := d15
    rw [hv_] at e104
    have cv := str_rd (W := W) (c := c_) hr_ hl2
    refine Reg.go_run (Value.string (bstr L2)) W (by rw [hρ']; simp [execOp, go_sem, e104, cv]) ⟨Below.refl _ _, rfl⟩
set_option maxHeartbeats 4000000 in
set_option maxRecDepth 20000 in
theorem nonce14_h17 :
    Reg.OpOK Try.prog (Reg.opsOf Try.f6 14) a0 w0 (nonce14R B0 ws cc k2 r0n r0c r1n r1c r2n r2c mm pb A0 A1 A2 cut sx L1 L2) (fun _ _ _ _ => True) 17 := by
    refine Reg.op_ok2 (fun af => { dst := some 106, op := Op.binOp BinOp.eql 9 (Operand.tmp 100) (Operand.tmp 105) 9, type := 4, pos := "outright.go:192", after := af, guard := some (6, true) }) #[{ on := 11, ground := Ground.data }, { on := 16, ground := Ground.data }, { on := 6, ground := Ground.guard }] (by kernel_rfl) [11, 16, 6] (by kernel_rfl) fun af v W hb hd => ?_
    have d6 : v 6 = (Value.bool true) := hd 6 (by decide)
    have d11 : v 11 = (Value.string (bstr L2)) := hd 11 (by decide)
    have d16 : v 16 = (Value.string (bstr L2)) := hd 16 (by decide)
    have e100 := (Reg.gfr_eval (ops := (Reg.opsOf Try.f6 14)) (a0 := a0) (v := v) (L := [11, 16, 6]) 100 11 (by kernel_rfl) (by rw [hsz]; omega)).trans d11
    have e105 := (Reg.gfr_eval (ops := (Reg.opsOf Try.f6 14)) (a0 := a0) (v := v) (L := [11, 16, 6]) 105 16 (by kernel_rfl) (by rw [hsz]; omega)).trans d16
    have e95 := (Reg.gfr_eval (ops := (Reg.opsOf Try.f6 14)) (a0 := a0) (v := v) (L := [11, 16, 6]) 95 6 (by kernel_rfl) (by rw [hsz]; omega)).trans d6
    refine ⟨Reg.wanted_of rfl (by kernel_rfl) e95, ?_⟩
    generalize Reg.gfr (Reg.opsOf Try.f6 14) a0 v [11, 16, 6] = G at e100 e105 ⊢
    generalize hρ : G.eval = ρ at e100 e105
    have hρ' : G.eval = ρ := hρ
    refine Reg.go_run (Value.bool true) W ?_ ?_
    · rw [hρ']; simp [execOp, go_sem, e100, e105]
    · exact ⟨Below.refl _ _, rfl⟩
set_option maxHeartbeats 4000000 in
set_option maxRecDepth 20000 in
theorem nonce14_h18 :
    Reg.OpOK Try.prog (Reg.opsOf Try.f6 14) a0 w0 (nonce14R B0 ws cc k2 r0n r0c r1n r1c r2n r2c mm pb A0 A1 A2 cut sx L1 L2) (fun _ _ _ _ => True) 18 := by
    refine Reg.op_ok2 (fun af => { dst := some 107, op := Op.pick (Operand.tmp 95) (Operand.tmp 106) (Operand.const (Value.bool false)), type := 4, pos := "outright.go:192", after := af, guard := none }) #[{ on := 6, ground := Ground.data }, { on := 17, ground := Ground.data }] (by kernel_rfl) [6, 17] (by kernel_rfl) fun af v W hb hd => ?_
    have d6 : v 6 = (Value.bool true) := hd 6 (by decide)
    have d17 : v 17 = (Value.bool true) := hd 17 (by decide)
    have e95 := (Reg.gfr_eval (ops := (Reg.opsOf Try.f6 14)) (a0 := a0) (v := v) (L := [6, 17]) 95 6 (by kernel_rfl) (by rw [hsz]; omega)).trans d6
    have e106 := (Reg.gfr_eval (ops := (Reg.opsOf Try.f6 14)) (a0 := a0) (v := v) (L := [6, 17]) 106 17 (by kernel_rfl) (by rw [hsz]; omega)).trans d17
    refine ⟨Reg.wanted_none rfl, ?_⟩
    have eC : ∀ x, (Reg.gfr (Reg.opsOf Try.f6 14) a0 v [6, 17]).eval (.const x) = x := fun _ => rfl
    generalize Reg.gfr (Reg.opsOf Try.f6 14) a0 v [6, 17] = G at e95 e106 eC ⊢
    generalize hρ : G.eval = ρ at e95 e106 eC
    have hρ' : G.eval = ρ := hρ
    refine Reg.go_run (Value.bool true) W ?_ ?_
    · rw [hρ']; simp [execOp, go_sem, e95, e106, eC]
    · exact ⟨Below.refl _ _, rfl⟩
set_option maxHeartbeats 4000000 in
set_option maxRecDepth 20000 in
theorem nonce14_h19 :
    Reg.OpOK Try.prog (Reg.opsOf Try.f6 14) a0 w0 (nonce14R B0 ws cc k2 r0n r0c r1n r1c r2n r2c mm pb A0 A1 A2 cut sx L1 L2) (fun _ _ _ _ => True) 19 := by
    refine Reg.op_ok2 (fun af => { dst := some 108, op := Op.move (Operand.tmp 107), type := 4, pos := "outright.go:192", after := af, guard := none }) #[{ on := 18, ground := Ground.data }, { on := 15, ground := Ground.chain }] (by kernel_rfl) [18, 15] (by kernel_rfl) fun af v W hb hd => ?_
    have d18 : v 18 = (Value.bool true) := hd 18 (by decide)
    have e107 := (Reg.gfr_eval (ops := (Reg.opsOf Try.f6 14)) (a0 := a0) (v := v) (L := [18, 15]) 107 18 (by kernel_rfl) (by rw [hsz]; omega)).trans d18
    refine ⟨Reg.wanted_none rfl, ?_⟩
    generalize Reg.gfr (Reg.opsOf Try.f6 14) a0 v [18, 15] = G at e107 ⊢
    generalize hρ : G.eval = ρ at e107
    have hρ' : G.eval = ρ := hρ
    refine Reg.go_run (Value.bool true) W ?_ ?_
    · rw [hρ']; simp [execOp, go_sem, e107]
    · exact ⟨Below.refl _ _, rfl⟩
set_option maxHeartbeats 4000000 in
set_option maxRecDepth 20000 in
theorem nonce14_h20 :
    Reg.OpOK Try.prog (Reg.opsOf Try.f6 14) a0 w0 (nonce14R B0 ws cc k2 r0n r0c r1n r1c r2n r2c mm pb A0 A1 A2 cut sx L1 L2) (fun _ _ _ _ => True) 20 := by
    refine Reg.op_ok2 (fun af => { dst := some 109, op := Op.move (Operand.tmp 11), type := 35, pos := "outright.go:192", after := af, guard := some (19, true) }) #[{ on := 19, ground := Ground.guard }] (by kernel_rfl) [19] (by kernel_rfl) fun af v W hb hd => ?_
    have d19 : v 19 = (Value.bool true) := hd 19 (by decide)
    have e11 := (Reg.gfr_eval0 (ops := (Reg.opsOf Try.f6 14)) (a0 := a0) (v := v) (L := [19]) 11 (by kernel_rfl)).trans i11
    have e108 := (Reg.gfr_eval (ops := (Reg.opsOf Try.f6 14)) (a0 := a0) (v := v) (L := [19]) 108 19 (by kernel_rfl) (by rw [hsz]; omega)).trans d19
    refine ⟨Reg.wanted_of rfl (by kernel_rfl) e108, ?_⟩
    generalize Reg.gfr (Reg.opsOf Try.f6 14) a0 v [19] = G at e11 ⊢
    generalize hρ : G.eval = ρ at e11
    have hρ' : G.eval = ρ := hρ
    refine Reg.go_run (Value.slice (some ⟨pb, 0, none⟩) 3 cc) W ?_ ?_
    · rw [hρ']; simp [execOp, go_sem, e11]
    · exact ⟨Below.refl _ _, rfl⟩
set_option maxHeartbeats 4000000 in
set_option maxRecDepth 20000 in
theorem nonce14_h21 :
    Reg.OpOK Try.prog (Reg.opsOf Try.f6 14) a0 w0 (nonce14R B0 ws cc k2 r0n r0c r1n r1c r2n r2c mm pb A0 A1 A2 cut sx L1 L2) (fun _ _ _ _ => True) 21 := by
    refine Reg.op_ok2 (fun af => { dst := some 110, op := Op.indexAddr 35 (Operand.tmp 109) (Operand.const (Value.int IntKind.i64 1)), type := 0, pos := "outright.go:192", after := af, guard := some (19, true) }) #[{ on := 20, ground := Ground.data }, { on := 19, ground := Ground.guard }] (by kernel_rfl) [20, 19] (by kernel_rfl) fun af v W hb hd => ?_
    have d19 : v 19 = (Value.bool true) := hd 19 (by decide)
    have d20 : v 20 = (Value.slice (some ⟨pb, 0, none⟩) 3 cc) := hd 20 (by decide)
    have e109 := (Reg.gfr_eval (ops := (Reg.opsOf Try.f6 14)) (a0 := a0) (v := v) (L := [20, 19]) 109 20 (by kernel_rfl) (by rw [hsz]; omega)).trans d20
    have e108 := (Reg.gfr_eval (ops := (Reg.opsOf Try.f6 14)) (a0 := a0) (v := v) (L := [20, 19]) 108 19 (by kernel_rfl) (by rw [hsz]; omega)).trans d19
    refine ⟨Reg.wanted_of rfl (by kernel_rfl) e108, ?_⟩
    have eC : ∀ x, (Reg.gfr (Reg.opsOf Try.f6 14) a0 v [20, 19]).eval (.const x) = x := fun _ => rfl
    generalize Reg.gfr (Reg.opsOf Try.f6 14) a0 v [20, 19] = G at e109 eC ⊢
    generalize hρ : G.eval = ρ at e109 eC
    have hρ' : G.eval = ρ := hρ
    refine Reg.go_run (Value.pointer (some ⟨pb, 3, none⟩)) W ?_ ?_
    · rw [hρ']; simp [execOp, go_sem, e109, eC]
    · exact ⟨Below.refl _ _, rfl⟩
set_option maxHeartbeats 4000000 in
set_option maxRecDepth 20000 in
theorem nonce14_h22 :
    Reg.OpOK Try.prog (Reg.opsOf Try.f6 14) a0 w0 (nonce14R B0 ws cc k2 r0n r0c r1n r1c r2n r2c mm pb A0 A1 A2 cut sx L1 L2) (fun _ _ _ _ => True) 22 := by
    refine Reg.op_ok2 (fun af => { dst := some 111, op := Op.fieldAddr 38 (Operand.tmp 110) 2, type := 0, pos := "outright.go:192", after := af, guard := some (19, true) }) #[{ on := 21, ground := Ground.data }, { on := 19, ground := Ground.guard }] (by kernel_rfl) [21, 19] (by kernel_rfl) fun af v W hb hd => ?_
    have d19 : v 19 = (Value.bool true) := hd 19 (by decide)
    have d21 : v 21 = (Value.pointer (some ⟨pb, 3, none⟩)) := hd 21 (by decide)
    have e110 := (Reg.gfr_eval (ops := (Reg.opsOf Try.f6 14)) (a0 := a0) (v := v) (L := [21, 19]) 110 21 (by kernel_rfl) (by rw [hsz]; omega)).trans d21
    have e108 := (Reg.gfr_eval (ops := (Reg.opsOf Try.f6 14)) (a0 := a0) (v := v) (L := [21, 19]) 108 19 (by kernel_rfl) (by rw [hsz]; omega)).trans d19
    refine ⟨Reg.wanted_of rfl (by kernel_rfl) e108, ?_⟩
    generalize Reg.gfr (Reg.opsOf Try.f6 14) a0 v [21, 19] = G at e110 ⊢
    generalize hρ : G.eval = ρ at e110
    have hρ' : G.eval = ρ := hρ
    refine Reg.go_run (Value.pointer (some ⟨pb, 5, none⟩)) W ?_ ?_
    · rw [hρ']; simp [execOp, go_sem, e110]
    · exact ⟨Below.refl _ _, rfl⟩
set_option maxHeartbeats 4000000 in
set_option maxRecDepth 20000 in
theorem nonce14_h23 :
    Reg.OpOK Try.prog (Reg.opsOf Try.f6 14) a0 w0 (nonce14R B0 ws cc k2 r0n r0c r1n r1c r2n r2c mm pb A0 A1 A2 cut sx L1 L2) (fun _ _ _ _ => True) 23 := by
    refine Reg.op_ok2 (fun af => { dst := some 112, op := Op.load 22 (Operand.tmp 111), type := 22, pos := "outright.go:192", after := af, guard := some (19, true) }) #[{ on := 22, ground := Ground.data }, { on := 19, ground := Ground.guard }] (by kernel_rfl) [22, 19] (by kernel_rfl) fun af v W hb hd => ?_
    have d19 : v 19 = (Value.bool true) := hd 19 (by decide)
    have d22 : v 22 = (Value.pointer (some ⟨pb, 5, none⟩)) := hd 22 (by decide)
    have e111 := (Reg.gfr_eval (ops := (Reg.opsOf Try.f6 14)) (a0 := a0) (v := v) (L := [22, 19]) 111 22 (by kernel_rfl) (by rw [hsz]; omega)).trans d22
    have e108 := (Reg.gfr_eval (ops := (Reg.opsOf Try.f6 14)) (a0 := a0) (v := v) (L := [22, 19]) 108 19 (by kernel_rfl) (by rw [hsz]; omega)).trans d19
    refine ⟨Reg.wanted_of rfl (by kernel_rfl) e108, ?_⟩
    generalize Reg.gfr (Reg.opsOf Try.f6 14) a0 v [22, 19] = G at e111 ⊢
    generalize hρ : G.eval = ρ at e111
    have hρ' : G.eval = ρ := hρ
    refine Reg.go_run (Value.slice A1 r1n r1c) W ?_ ?_
    · rw [hρ']; simp [execOp, go_sem, e111, Q1 W hb]
    · exact ⟨Below.refl _ _, rfl⟩
set_option maxHeartbeats 4000000 in
set_option maxRecDepth 20000 in
theorem nonce14_h24 :
    Reg.OpOK Try.prog (Reg.opsOf Try.f6 14) a0 w0 (nonce14R B0 ws cc k2 r0n r0c r1n r1c r2n r2c mm pb A0 A1 A2 cut sx L1 L2) (fun _ _ _ _ => True) 24 := by
    refine Reg.op_ok2 (fun af => { dst := some 113, op := Op.convert 22 9 (Operand.tmp 112), type := 9, pos := "outright.go:192", after := af, guard := some (19, true) }) #[{ on := 23, ground := Ground.data }, { on := 19, ground := Ground.guard }] (by kernel_rfl) [23, 19] (by kernel_rfl) fun af v W hb hd => ?_
    have d19 : v 19 = (Value.bool true) := hd 19 (by decide)
    have d23 : v 23 = (Value.slice A1 r1n r1c) := hd 23 (by decide)
    have e112 := (Reg.gfr_eval (ops := (Reg.opsOf Try.f6 14)) (a0 := a0) (v := v) (L := [23, 19]) 112 23 (by kernel_rfl) (by rw [hsz]; omega)).trans d23
    have e108 := (Reg.gfr_eval (ops := (Reg.opsOf Try.f6 14)) (a0 := a0) (v := v) (L := [23, 19]) 108 19 (by kernel_rfl) (by rw [hsz]; omega)).trans d19
    refine ⟨Reg.wanted_of rfl (by kernel_rfl) e108, ?_⟩
    generalize Reg.gfr (Reg.opsOf Try.f6 14) a0 v [23, 19] = G at e112 ⊢
    generalize hρ : G.eval = ρ at e112
    have hρ' : G.eval = ρ := hρ
    refine Reg.go_run (Value.string (bstr L1)) W ?_ ?_
    · rw [hρ']; simp [execOp, go_sem, e112, v1 W hb]
    · exact ⟨Below.refl _ _, rfl⟩
set_option maxHeartbeats 4000000 in
set_option maxRecDepth 20000 in
theorem nonce14_h25 :
    Reg.OpOK Try.prog (Reg.opsOf Try.f6 14) a0 w0 (nonce14R B0 ws cc k2 r0n r0c r1n r1c r2n r2c mm pb A0 A1 A2 cut sx L1 L2) (fun _ _ _ _ => True) 25 := by
    refine Reg.op_ok2 (fun af => { dst := some 114, op := Op.move (Operand.tmp 12), type := 9, pos := "outright.go:192", after := af, guard := some (19, true) }) #[{ on := 19, ground := Ground.guard }] (by kernel_rfl) [19] (by kernel_rfl) fun af v W hb hd => ?_
    have d19 : v 19 = (Value.bool true) := hd 19 (by decide)
    have e12 := (Reg.gfr_eval0 (ops := (Reg.opsOf Try.f6 14)) (a0 := a0) (v := v) (L := [19]) 12 (by kernel_rfl)).trans i12
    have e108 := (Reg.gfr_eval (ops := (Reg.opsOf Try.f6 14)) (a0 := a0) (v := v) (L := [19]) 108 19 (by kernel_rfl) (by rw [hsz]; omega)).trans d19
    refine ⟨Reg.wanted_of rfl (by kernel_rfl) e108, ?_⟩
    generalize Reg.gfr (Reg.opsOf Try.f6 14) a0 v [19] = G at e12 ⊢
    generalize hρ : G.eval = ρ at e12
    have hρ' : G.eval = ρ := hρ
    refine Reg.go_run (Value.string (bstr L1)) W ?_ ?_
    · rw [hρ']; simp [execOp, go_sem, e12]
    · exact ⟨Below.refl _ _, rfl⟩
set_option maxHeartbeats 4000000 in
set_option maxRecDepth 20000 in
theorem nonce14_h26 :
    Reg.OpOK Try.prog (Reg.opsOf Try.f6 14) a0 w0 (nonce14R B0 ws cc k2 r0n r0c r1n r1c r2n r2c mm pb A0 A1 A2 cut sx L1 L2) (fun _ _ _ _ => True) 26 := by
    refine Reg.op_ok2 (fun af => { dst := some 115, op := Op.binOp BinOp.eql 9 (Operand.tmp 113) (Operand.tmp 114) 9, type := 4, pos := "outright.go:192", after := af, guard := some (19, true) }) #[{ on := 24, ground := Ground.data }, { on := 25, ground := Ground.data }, { on := 19, ground := Ground.guard }] (by kernel_rfl) [24, 25, 19] (by kernel_rfl) fun af v W hb hd => ?_
    have d19 : v 19 = (Value.bool true) := hd 19 (by decide)
    have d24 : v 24 = (Value.string (bstr L1)) := hd 24 (by decide)
    have d25 : v 25 = (Value.string (bstr L1)) := hd 25 (by decide)
    have e113 := (Reg.gfr_eval (ops := (Reg.opsOf Try.f6 14)) (a0 := a0) (v := v) (L := [24, 25, 19]) 113 24 (by kernel_rfl) (by rw [hsz]; omega)).trans d24
    have e114 := (Reg.gfr_eval (ops := (Reg.opsOf Try.f6 14)) (a0 := a0) (v := v) (L := [24, 25, 19]) 114 25 (by kernel_rfl) (by rw [hsz]; omega)).trans d25
    have e108 := (Reg.gfr_eval (ops := (Reg.opsOf Try.f6 14)) (a0 := a0) (v := v) (L := [24, 25, 19]) 108 19 (by kernel_rfl) (by rw [hsz]; omega)).trans d19
    refine ⟨Reg.wanted_of rfl (by kernel_rfl) e108, ?_⟩
    generalize Reg.gfr (Reg.opsOf Try.f6 14) a0 v [24, 25, 19] = G at e113 e114 ⊢
    generalize hρ : G.eval = ρ at e113 e114
    have hρ' : G.eval = ρ := hρ
    refine Reg.go_run (Value.bool true) W ?_ ?_
    · rw [hρ']; simp [execOp, go_sem, e113, e114]
    · exact ⟨Below.refl _ _, rfl⟩
set_option maxHeartbeats 4000000 in
set_option maxRecDepth 20000 in
theorem nonce14_h27 :
    Reg.OpOK Try.prog (Reg.opsOf Try.f6 14) a0 w0 (nonce14R B0 ws cc k2 r0n r0c r1n r1c r2n r2c mm pb A0 A1 A2 cut sx L1 L2) (fun _ _ _ _ => True) 27 := by
    refine Reg.op_ok2 (fun af => { dst := some 116, op := Op.pick (Operand.tmp 108) (Operand.tmp 115) (Operand.const (Value.bool false)), type := 4, pos := "outright.go:192", after := af, guard := none }) #[{ on := 19, ground := Ground.data }, { on := 26, ground := Ground.data }] (by kernel_rfl) [19, 26] (by kernel_rfl) fun af v W hb hd => ?_
    have d19 : v 19 = (Value.bool true) := hd 19 (by decide)
    have d26 : v 26 = (Value.bool true) := hd 26 (by decide)
    have e108 := (Reg.gfr_eval (ops := (Reg.opsOf Try.f6 14)) (a0 := a0) (v := v) (L := [19, 26]) 108 19 (by kernel_rfl) (by rw [hsz]; omega)).trans d19
    have e115 := (Reg.gfr_eval (ops := (Reg.opsOf Try.f6 14)) (a0 := a0) (v := v) (L := [19, 26]) 115 26 (by kernel_rfl) (by rw [hsz]; omega)).trans d26
    refine ⟨Reg.wanted_none rfl, ?_⟩
    have eC : ∀ x, (Reg.gfr (Reg.opsOf Try.f6 14) a0 v [19, 26]).eval (.const x) = x := fun _ => rfl
    generalize Reg.gfr (Reg.opsOf Try.f6 14) a0 v [19, 26] = G at e108 e115 eC ⊢
    generalize hρ : G.eval = ρ at e108 e115 eC
    have hρ' : G.eval = ρ := hρ
    refine Reg.go_run (Value.bool true) W ?_ ?_
    · rw [hρ']; simp [execOp, go_sem, e108, e115, eC]
    · exact ⟨Below.refl _ _, rfl⟩
set_option maxHeartbeats 4000000 in
set_option maxRecDepth 20000 in
theorem nonce14_h28 :
    Reg.OpOK Try.prog (Reg.opsOf Try.f6 14) a0 w0 (nonce14R B0 ws cc k2 r0n r0c r1n r1c r2n r2c mm pb A0 A1 A2 cut sx L1 L2) (fun _ _ _ _ => True) 28 := by
    refine Reg.op_ok2 (fun af => { dst := some 117, op := Op.move (Operand.tmp 116), type := 4, pos := "outright.go:192", after := af, guard := none }) #[{ on := 27, ground := Ground.data }, { on := 19, ground := Ground.chain }] (by kernel_rfl) [27, 19] (by kernel_rfl) fun af v W hb hd => ?_
    have d27 : v 27 = (Value.bool true) := hd 27 (by decide)
    have e116 := (Reg.gfr_eval (ops := (Reg.opsOf Try.f6 14)) (a0 := a0) (v := v) (L := [27, 19]) 116 27 (by kernel_rfl) (by rw [hsz]; omega)).trans d27
    refine ⟨Reg.wanted_none rfl, ?_⟩
    generalize Reg.gfr (Reg.opsOf Try.f6 14) a0 v [27, 19] = G at e116 ⊢
    generalize hρ : G.eval = ρ at e116
    have hρ' : G.eval = ρ := hρ
    refine Reg.go_run (Value.bool true) W ?_ ?_
    · rw [hρ']; simp [execOp, go_sem, e116]
    · exact ⟨Below.refl _ _, rfl⟩
set_option maxHeartbeats 4000000 in
set_option maxRecDepth 20000 in
theorem nonce14_h29 :
    Reg.OpOK Try.prog (Reg.opsOf Try.f6 14) a0 w0 (nonce14R B0 ws cc k2 r0n r0c r1n r1c r2n r2c mm pb A0 A1 A2 cut sx L1 L2) (fun _ _ _ _ => True) 29 := by
    refine Reg.op_ok2 (fun af => { dst := some 118, op := Op.move (Operand.tmp 11), type := 35, pos := "outright.go:192", after := af, guard := some (28, true) }) #[{ on := 28, ground := Ground.guard }] (by kernel_rfl) [28] (by kernel_rfl) fun af v W hb hd => ?_
    have d28 : v 28 = (Value.bool true) := hd 28 (by decide)
    have e11 := (Reg.gfr_eval0 (ops := (Reg.opsOf Try.f6 14)) (a0 := a0) (v := v) (L := [28]) 11 (by kernel_rfl)).trans i11
    have e117 := (Reg.gfr_eval (ops := (Reg.opsOf Try.f6 14)) (a0 := a0) (v := v) (L := [28]) 117 28 (by kernel_rfl) (by rw [hsz]; omega)).trans d28
    refine ⟨Reg.wanted_of rfl (by kernel_rfl) e117, ?_⟩
    generalize Reg.gfr (Reg.opsOf Try.f6 14) a0 v [28] = G at e11 ⊢
    generalize hρ : G.eval = ρ at e11
    have hρ' : G.eval = ρ := hρ
    refine Reg.go_run (Value.slice (some ⟨pb, 0, none⟩) 3 cc) W ?_ ?_
    · rw [hρ']; simp [execOp, go_sem, e11]
    · exact ⟨Below.refl _ _, rfl⟩
set_option maxHeartbeats 4000000 in
set_option maxRecDepth 20000 in
theorem nonce14_h30 :
    Reg.OpOK Try.prog (Reg.opsOf Try.f6 14) a0 w0 (nonce14R B0 ws cc k2 r0n r0c r1n r1c r2n r2c mm pb A0 A1 A2 cut sx L1 L2) (fun _ _ _ _ => True) 30 := by
    refine Reg.op_ok2 (fun af => { dst := some 119, op := Op.indexAddr 35 (Operand.tmp 118) (Operand.const (Value.int IntKind.i64 2)), type := 0, pos := "outright.go:192", after := af, guard := some (28, true) }) #[{ on := 29, ground := Ground.data }, { on := 28, ground := Ground.guard }] (by kernel_rfl) [29, 28] (by kernel_rfl) fun af v W hb hd => ?_
    have d28 : v 28 = (Value.bool true) := hd 28 (by decide)
    have d29 : v 29 = (Value.slice (some ⟨pb, 0, none⟩) 3 cc) := hd 29 (by decide)
    have e118 := (Reg.gfr_eval (ops := (Reg.opsOf Try.f6 14)) (a0 := a0) (v := v) (L := [29, 28]) 118 29 (by kernel_rfl) (by rw [hsz]; omega)).trans d29
    have e117 := (Reg.gfr_eval (ops := (Reg.opsOf Try.f6 14)) (a0 := a0) (v := v) (L := [29, 28]) 117 28 (by kernel_rfl) (by rw [hsz]; omega)).trans d28
    refine ⟨Reg.wanted_of rfl (by kernel_rfl) e117, ?_⟩
    have eC : ∀ x, (Reg.gfr (Reg.opsOf Try.f6 14) a0 v [29, 28]).eval (.const x) = x := fun _ => rfl
    generalize Reg.gfr (Reg.opsOf Try.f6 14) a0 v [29, 28] = G at e118 eC ⊢
    generalize hρ : G.eval = ρ at e118 eC
    have hρ' : G.eval = ρ := hρ
    refine Reg.go_run (Value.pointer (some ⟨pb, 6, none⟩)) W ?_ ?_
    · rw [hρ']; simp [execOp, go_sem, e118, eC]
    · exact ⟨Below.refl _ _, rfl⟩
set_option maxHeartbeats 4000000 in
set_option maxRecDepth 20000 in
theorem nonce14_h31 :
    Reg.OpOK Try.prog (Reg.opsOf Try.f6 14) a0 w0 (nonce14R B0 ws cc k2 r0n r0c r1n r1c r2n r2c mm pb A0 A1 A2 cut sx L1 L2) (fun _ _ _ _ => True) 31 := by
    refine Reg.op_ok2 (fun af => { dst := some 120, op := Op.fieldAddr 38 (Operand.tmp 119) 2, type := 0, pos := "outright.go:192", after := af, guard := some (28, true) }) #[{ on := 30, ground := Ground.data }, { on := 28, ground := Ground.guard }] (by kernel_rfl) [30, 28] (by kernel_rfl) fun af v W hb hd => ?_
    have d28 : v 28 = (Value.bool true) := hd 28 (by decide)
    have d30 : v 30 = (Value.pointer (some ⟨pb, 6, none⟩)) := hd 30 (by decide)
    have e119 := (Reg.gfr_eval (ops := (Reg.opsOf Try.f6 14)) (a0 := a0) (v := v) (L := [30, 28]) 119 30 (by kernel_rfl) (by rw [hsz]; omega)).trans d30
    have e117 := (Reg.gfr_eval (ops := (Reg.opsOf Try.f6 14)) (a0 := a0) (v := v) (L := [30, 28]) 117 28 (by kernel_rfl) (by rw [hsz]; omega)).trans d28
    refine ⟨Reg.wanted_of rfl (by kernel_rfl) e117, ?_⟩
    generalize Reg.gfr (Reg.opsOf Try.f6 14) a0 v [30, 28] = G at e119 ⊢
    generalize hρ : G.eval = ρ at e119
    have hρ' : G.eval = ρ := hρ
    refine Reg.go_run (Value.pointer (some ⟨pb, 8, none⟩)) W ?_ ?_
    · rw [hρ']; simp [execOp, go_sem, e119]
    · exact ⟨Below.refl _ _, rfl⟩
set_option maxHeartbeats 4000000 in
set_option maxRecDepth 20000 in
theorem nonce14_h32 :
    Reg.OpOK Try.prog (Reg.opsOf Try.f6 14) a0 w0 (nonce14R B0 ws cc k2 r0n r0c r1n r1c r2n r2c mm pb A0 A1 A2 cut sx L1 L2) (fun _ _ _ _ => True) 32 := by
    refine Reg.op_ok2 (fun af => { dst := some 121, op := Op.load 22 (Operand.tmp 120), type := 22, pos := "outright.go:192", after := af, guard := some (28, true) }) #[{ on := 31, ground := Ground.data }, { on := 28, ground := Ground.guard }] (by kernel_rfl) [31, 28] (by kernel_rfl) fun af v W hb hd => ?_
    have d28 : v 28 = (Value.bool true) := hd 28 (by decide)
    have d31 : v 31 = (Value.pointer (some ⟨pb, 8, none⟩)) := hd 31 (by decide)
    have e120 := (Reg.gfr_eval (ops := (Reg.opsOf Try.f6 14)) (a0 := a0) (v := v) (L := [31, 28]) 120 31 (by kernel_rfl) (by rw [hsz]; omega)).trans d31
    have e117 := (Reg.gfr_eval (ops := (Reg.opsOf Try.f6 14)) (a0 := a0) (v := v) (L := [31, 28]) 117 28 (by kernel_rfl) (by rw [hsz]; omega)).trans d28
    refine ⟨Reg.wanted_of rfl (by kernel_rfl) e117, ?_⟩
    generalize Reg.gfr (Reg.opsOf Try.f6 14) a0 v [31, 28] = G at e120 ⊢
    generalize hρ : G.eval = ρ at e120
    have hρ' : G.eval = ρ := hρ
    refine Reg.go_run (Value.slice A2 r2n r2c) W ?_ ?_
    · rw [hρ']; simp [execOp, go_sem, e120, Q2 W hb]
    · exact ⟨Below.refl _ _, rfl⟩
set_option maxHeartbeats 4000000 in
set_option maxRecDepth 20000 in
theorem nonce14_h33 :
    Reg.OpOK Try.prog (Reg.opsOf Try.f6 14) a0 w0 (nonce14R B0 ws cc k2 r0n r0c r1n r1c r2n r2c mm pb A0 A1 A2 cut sx L1 L2) (fun _ _ _ _ => True) 33 := by
    refine Reg.op_ok2 (fun af => { dst := some 122, op := Op.convert 22 9 (Operand.tmp 121), type := 9, pos := "outright.go:192", after := af, guard := some (28, true) }) #[{ on := 32, ground := Ground.data }, { on := 28, ground := Ground.guard }] (by kernel_rfl) [32, 28] (by kernel_rfl) fun af v W hb hd => ?_
    have d28 : v 28 = (Value.bool true) := hd 28 (by decide)
    have d32 : v 32 = (Value.slice A2 r2n r2c) := hd 32 (by decide)
    have e121 := (Reg.gfr_eval (ops := (Reg.opsOf Try.f6 14)) (a0 := a0) (v := v) (L := [32, 28]) 121 32 (by kernel_rfl) (by rw [hsz]; omega)).trans d32
    have e117 := (Reg.gfr_eval (ops := (Reg.opsOf Try.f6 14)) (a0 := a0) (v := v) (L := [32, 28]) 117 28 (by kernel_rfl) (by rw [hsz]; omega)).trans d28
    refine ⟨Reg.wanted_of rfl (by kernel_rfl) e117, ?_⟩
    generalize Reg.gfr (Reg.opsOf Try.f6 14) a0 v [32, 28] = G at e121 ⊢
    generalize hρ : G.eval = ρ at e121
    have hρ' : G.eval = ρ := hρ
    refine Reg.go_run (Value.string (bstr L1)) W ?_ ?_
    · rw [hρ']; simp [execOp, go_sem, e121, v2 W hb]
    · exact ⟨Below.refl _ _, rfl⟩
set_option maxHeartbeats 4000000 in
set_option maxRecDepth 20000 in
theorem nonce14_h34 :
    Reg.OpOK Try.prog (Reg.opsOf Try.f6 14) a0 w0 (nonce14R B0 ws cc k2 r0n r0c r1n r1c r2n r2c mm pb A0 A1 A2 cut sx L1 L2) (fun _ _ _ _ => True) 34 := by
    refine Reg.op_ok2 (fun af => { dst := some 123, op := Op.move (Operand.tmp 12), type := 9, pos := "outright.go:192", after := af, guard := some (28, true) }) #[{ on := 28, ground := Ground.guard }] (by kernel_rfl) [28] (by kernel_rfl) fun af v W hb hd => ?_
    have d28 : v 28 = (Value.bool true) := hd 28 (by decide)
    have e12 := (Reg.gfr_eval0 (ops := (Reg.opsOf Try.f6 14)) (a0 := a0) (v := v) (L := [28]) 12 (by kernel_rfl)).trans i12
    have e117 := (Reg.gfr_eval (ops := (Reg.opsOf Try.f6 14)) (a0 := a0) (v := v) (L := [28]) 117 28 (by kernel_rfl) (by rw [hsz]; omega)).trans d28
    refine ⟨Reg.wanted_of rfl (by kernel_rfl) e117, ?_⟩
    generalize Reg.gfr (Reg.opsOf Try.f6 14) a0 v [28] = G at e12 ⊢
    generalize hρ : G.eval = ρ at e12
    have hρ' : G.eval = ρ := hρ
    refine Reg.go_run (Value.string (bstr L1)) W ?_ ?_
    · rw [hρ']; simp [execOp, go_sem, e12]
    · exact ⟨Below.refl _ _, rfl⟩
set_option maxHeartbeats 4000000 in
set_option maxRecDepth 20000 in
theorem nonce14_h35 :
    Reg.OpOK Try.prog (Reg.opsOf Try.f6 14) a0 w0 (nonce14R B0 ws cc k2 r0n r0c r1n r1c r2n r2c mm pb A0 A1 A2 cut sx L1 L2) (fun _ _ _ _ => True) 35 := by
    refine Reg.op_ok2 (fun af => { dst := some 124, op := Op.binOp BinOp.eql 9 (Operand.tmp 122) (Operand.tmp 123) 9, type := 4, pos := "outright.go:192", after := af, guard := some (28, true) }) #[{ on := 33, ground := Ground.data }, { on := 34, ground := Ground.data }, { on := 28, ground := Ground.guard }] (by kernel_rfl) [33, 34, 28] (by kernel_rfl) fun af v W hb hd => ?_
    have d28 : v 28 = (Value.bool true) := hd 28 (by decide)
    have d33 : v 33 = (Value.string (bstr L1)) := hd 33 (by decide)
    have d34 : v 34 = (Value.string (bstr L1)) := hd 34 (by decide)
    have e122 := (Reg.gfr_eval (ops := (Reg.opsOf Try.f6 14)) (a0 := a0) (v := v) (L := [33, 34, 28]) 122 33 (by kernel_rfl) (by rw [hsz]; omega)).trans d33
    have e123 := (Reg.gfr_eval (ops := (Reg.opsOf Try.f6 14)) (a0 := a0) (v := v) (L := [33, 34, 28]) 123 34 (by kernel_rfl) (by rw [hsz]; omega)).trans d34
    have e117 := (Reg.gfr_eval (ops := (Reg.opsOf Try.f6 14)) (a0 := a0) (v := v) (L := [33, 34, 28]) 117 28 (by kernel_rfl) (by rw [hsz]; omega)).trans d28
    refine ⟨Reg.wanted_of rfl (by kernel_rfl) e117, ?_⟩
    generalize Reg.gfr (Reg.opsOf Try.f6 14) a0 v [33, 34, 28] = G at e122 e123 ⊢
    generalize hρ : G.eval = ρ at e122 e123
    have hρ' : G.eval = ρ := hρ
    refine Reg.go_run (Value.bool true) W ?_ ?_
    · rw [hρ']; simp [execOp, go_sem, e122, e123]
    · exact ⟨Below.refl _ _, rfl⟩
set_option maxHeartbeats 4000000 in
set_option maxRecDepth 20000 in
theorem nonce14_h36 :
    Reg.OpOK Try.prog (Reg.opsOf Try.f6 14) a0 w0 (nonce14R B0 ws cc k2 r0n r0c r1n r1c r2n r2c mm pb A0 A1 A2 cut sx L1 L2) (fun _ _ _ _ => True) 36 := by
    refine Reg.op_ok2 (fun af => { dst := some 125, op := Op.pick (Operand.tmp 117) (Operand.tmp 124) (Operand.const (Value.bool false)), type := 4, pos := "outright.go:192", after := af, guard := none }) #[{ on := 28, ground := Ground.data }, { on := 35, ground := Ground.data }] (by kernel_rfl) [28, 35] (by kernel_rfl) fun af v W hb hd => ?_
    have d28 : v 28 = (Value.bool true) := hd 28 (by decide)
    have d35 : v 35 = (Value.bool true) := hd 35 (by decide)
    have e117 := (Reg.gfr_eval (ops := (Reg.opsOf Try.f6 14)) (a0 := a0) (v := v) (L := [28, 35]) 117 28 (by kernel_rfl) (by rw [hsz]; omega)).trans d28
    have e124 := (Reg.gfr_eval (ops := (Reg.opsOf Try.f6 14)) (a0 := a0) (v := v) (L := [28, 35]) 124 35 (by kernel_rfl) (by rw [hsz]; omega)).trans d35
    refine ⟨Reg.wanted_none rfl, ?_⟩
    have eC : ∀ x, (Reg.gfr (Reg.opsOf Try.f6 14) a0 v [28, 35]).eval (.const x) = x := fun _ => rfl
    generalize Reg.gfr (Reg.opsOf Try.f6 14) a0 v [28, 35] = G at e117 e124 eC ⊢
    generalize hρ : G.eval = ρ at e117 e124 eC
    have hρ' : G.eval = ρ := hρ
    refine Reg.go_run (Value.bool true) W ?_ ?_
    · rw [hρ']; simp [execOp, go_sem, e117, e124, eC]
    · exact ⟨Below.refl _ _, rfl⟩
set_option maxHeartbeats 4000000 in
set_option maxRecDepth 20000 in
theorem nonce14_h37 :
    RegC.OpOK Try.prog (Reg.opsOf Try.f6 14) a0 w0 (fun i_ => if i_ = 12 then some 13 else none) (nonce14R B0 ws cc k2 r0n r0c r1n r1c r2n r2c mm pb A0 A1 A2 cut sx L1 L2) (fun _ _ _ _ => True) 37 := by
    refine RegC.op_ok2 (fun af => { dst := some 6, op := Op.assign (Operand.tmp 125), type := 4, pos := "outright.go:192", after := af, guard := none }) #[{ on := 36, ground := Ground.data }, { on := 28, ground := Ground.chain }, { on := 0, ground := Ground.phase }, { on := 1, ground := Ground.phase }, { on := 2, ground := Ground.phase }, { on := 3, ground := Ground.phase }, { on := 4, ground := Ground.phase }, { on := 5, ground := Ground.phase }, { on := 6, ground := Ground.phase }, { on := 7, ground := Ground.phase }, { on := 8, ground := Ground.phase }, { on := 9, ground := Ground.phase }, { on := 10, ground := Ground.phase }, { on := 11, ground := Ground.phase }, { on := 12, ground := Ground.phase }, { on := 13, ground := Ground.phase }, { on := 14, ground := Ground.phase }, { on := 15, ground := Ground.phase }, { on := 16, ground := Ground.phase }, { on := 17, ground := Ground.phase }, { on := 18, ground := Ground.phase }, { on := 19, ground := Ground.phase }, { on := 20, ground := Ground.phase }, { on := 21, ground := Ground.phase }, { on := 22, ground := Ground.phase }, { on := 23, ground := Ground.phase }, { on := 24, ground := Ground.phase }, { on := 25, ground := Ground.phase }, { on := 26, ground := Ground.phase }, { on := 27, ground := Ground.phase }, { on := 28, ground := Ground.phase }, { on := 29, ground := Ground.phase }, { on := 30, ground := Ground.phase }, { on := 31, ground := Ground.phase }, { on := 32, ground := Ground.phase }, { on := 33, ground := Ground.phase }, { on := 34, ground := Ground.phase }, { on := 35, ground := Ground.phase }, { on := 36, ground := Ground.phase }] (by kernel_rfl) [36, 28, 0, 1, 2, 3, 4, 5, 6, 7, 8, 9, 10, 11, 12, 13, 14, 15, 16, 17, 18, 19, 20, 21, 22, 23, 24, 25, 26, 27, 28, 29, 30, 31, 32, 33, 34, 35, 36] (by kernel_rfl) fun af v W hb hd => ?_
    have d36 : v 36 = (Value.bool true) := hd 36 (by decide) (by decide)
    have e125 := (Reg.gfr_eval (ops := (Reg.opsOf Try.f6 14)) (a0 := a0) (v := v) (L := [36, 28, 0, 1, 2, 3, 4, 5, 6, 7, 8, 9, 10, 11, 12, 13, 14, 15, 16, 17, 18, 19, 20, 21, 22, 23, 24, 25, 26, 27, 28, 29, 30, 31, 32, 33, 34, 35, 36]) 125 36 (by kernel_rfl) (by rw [hsz]; omega)).trans d36
    refine ⟨Reg.wanted_none rfl, ?_⟩
    generalize Reg.gfr (Reg.opsOf Try.f6 14) a0 v [36, 28, 0, 1, 2, 3, 4, 5, 6, 7, 8, 9, 10, 11, 12, 13, 14, 15, 16, 17, 18, 19, 20, 21, 22, 23, 24, 25, 26, 27, 28, 29, 30, 31, 32, 33, 34, 35, 36] = G at e125 ⊢
    generalize hρ : G.eval = ρ at e125
    have hρ' : G.eval = ρ := hρ
    refine Reg.go_run (Value.bool true) W (by rw [hρ']; simp [execOp, go_sem, e125]) ⟨hb, rfl, ?_⟩
    refine fun j_ x_ hj_ hg_ hx_ _ => ?_
    match j_, hj_, hg_, hx_ with
    | 0, _, _, hx_ => exact ⟨hx_, trivial, trivial⟩
    | 1, _, _, hx_ => exact ⟨hx_, trivial, trivial⟩
    | 2, _, _, hx_ => exact ⟨hx_, trivial, trivial⟩
    | 3, _, _, hx_ => exact ⟨hx_, trivial, trivial⟩
    | 4, _, _, hx_ => exact ⟨hx_, trivial, trivial⟩
    | 5, _, _, hx_ => exact ⟨hx_, trivial, trivial⟩
    | 6, _, _, hx_ => exact ⟨hx_, trivial, trivial⟩
    | 7, _, _, hx_ => exact ⟨hx_, trivial, trivial⟩
    | 8, _, _, hx_ => exact ⟨hx_, trivial, trivial⟩
    | 9, _, _, hx_ => exact ⟨hx_, trivial, trivial⟩
    | 10, _, _, hx_ => exact ⟨hx_, trivial, trivial⟩
    | 11, _, _, hx_ => exact ⟨hx_, trivial, trivial⟩
    | 12, _, _, hx_ => exact ⟨hx_, trivial, trivial⟩
    | 13, _, _, hx_ => exact ⟨hx_, trivial, trivial⟩
    | 14, _, _, hx_ => exact ⟨hx_, trivial, trivial⟩
    | 15, _, _, hx_ => exact ⟨hx_, trivial, trivial⟩
    | 16, _, _, hx_ => exact ⟨hx_, trivial, trivial⟩
    | 17, _, _, hx_ => exact ⟨hx_, trivial, trivial⟩
    | 18, _, _, hx_ => exact ⟨hx_, trivial, trivial⟩
    | 19, _, _, hx_ => exact ⟨hx_, trivial, trivial⟩
    | 20, _, _, hx_ => exact ⟨hx_, trivial, trivial⟩
    | 21, _, _, hx_ => exact ⟨hx_, trivial, trivial⟩
    | 22, _, _, hx_ => exact ⟨hx_, trivial, trivial⟩
    | 23, _, _, hx_ => exact ⟨hx_, trivial, trivial⟩
    | 24, _, _, hx_ => exact ⟨hx_, trivial, trivial⟩
    | 25, _, _, hx_ => exact ⟨hx_, trivial, trivial⟩
    | 26, _, _, hx_ => exact ⟨hx_, trivial, trivial⟩
    | 27, _, _, hx_ => exact ⟨hx_, trivial, trivial⟩
    | 28, _, _, hx_ => exact ⟨hx_, trivial, trivial⟩
    | 29, _, _, hx_ => exact ⟨hx_, trivial, trivial⟩
    | 30, _, _, hx_ => exact ⟨hx_, trivial, trivial⟩
    | 31, _, _, hx_ => exact ⟨hx_, trivial, trivial⟩
    | 32, _, _, hx_ => exact ⟨hx_, trivial, trivial⟩
    | 33, _, _, hx_ => exact ⟨hx_, trivial, trivial⟩
    | 34, _, _, hx_ => exact ⟨hx_, trivial, trivial⟩
    | 35, _, _, hx_ => exact ⟨hx_, trivial, trivial⟩
    | 36, _, _, hx_ => exact ⟨hx_, trivial, trivial⟩
    | 37, hj_, _, _ => exact absurd rfl hj_
    | (j_ + 38), _, _, _ => exact ⟨trivial, trivial, trivial⟩
end
set_option maxHeartbeats 4000000 in
set_option maxRecDepth 20000 in
theorem nonce14 (B0 ws cc k2 r0n r0c r1n r1c r2n r2c mm pb : Nat) (A0 A1 A2 : Option Addr) (cut : Bool) (sx : Int) (L1 L2 : List UInt8) (w0 : World) {s0 s1 s2 s3 s4 s6 s8 s9 s10 s13 s14 s15 s16 s17 s18 s19 s20 s21 s22 s23 s24 s25 s26 s27 s28 s29 s30 s31 s32 s33 s34 s35 s36 s37 s38 s39 s40 s41 s42 s43 s44 s45 s46 s47 s48 s49 s50 s51 s52 s53 s54 s55 s56 s57 s58 s59 s60 s61 s62 s63 s64 s65 s66 s67 s68 s69 s70 s71 s72 s73 s74 s75 s76 s77 s78 s79 s80 s81 s82 s83 s84 s85 s86 s87 s88 s89 s90 s91 s92 s93 s94 s95 s96 s97 s98 s99 s100 s101 s102 s103 s104 s105 s106 s107 s108 s109 s110 s111 s112 s113 s114 s115 s116 s117 s118 s119 s120 s121 s122 s123 s124 s125 : Value}
    (hB0 : B0 = w0.heap.size)
    (v0 : ∀ W, Below w0.heap.size w0 W → (convert 22 9 (.slice A0 r0n r0c)).run Try.prog W = .ok (.string (bstr L2)) W)
    (v1 : ∀ W, Below w0.heap.size w0 W → (convert 22 9 (.slice A1 r1n r1c)).run Try.prog W = .ok (.string (bstr L1)) W)
    (v2 : ∀ W, Below w0.heap.size w0 W → (convert 22 9 (.slice A2 r2n r2c)).run Try.prog W = .ok (.string (bstr L1)) W)
    (hsp : ∀ W b, Below w0.heap.size w0 W → W.heap[b]? = some (.cells #[Value.int IntKind.u8 111, Value.int IntKind.u8 116, Value.int IntKind.u8 104, Value.int IntKind.u8 101, Value.int IntKind.u8 114] 5 (5, 6)) → Calls Try.prog 10 #[.slice (some ⟨b, 0, none⟩) 5 5, .agg #[Value.bool cut, Value.int IntKind.i64 sx, Value.int IntKind.u32 (mm : Int)]] W fun e w' => ∃ A_ c_, e = .returned (.slice A_ k2 c_) ∧ RdC w' A_ (u8v L2) ∧ Below W.heap.size W w')
    (hl2 : L2.length = k2)
    (M_ws : ∀ W, Below w0.heap.size w0 W → W.heap[ws]? = some (.cells #[Value.bool cut, Value.int IntKind.i64 sx, Value.int IntKind.u32 (mm : Int)] 25 (0, 0)))
    (Q0 : ∀ W, Below w0.heap.size w0 W → W.cell? ⟨pb, 2, none⟩ = some (Value.slice A0 r0n r0c))
    (Q1 : ∀ W, Below w0.heap.size w0 W → W.cell? ⟨pb, 5, none⟩ = some (Value.slice A1 r1n r1c))
    (Q2 : ∀ W, Below w0.heap.size w0 W → W.cell? ⟨pb, 8, none⟩ = some (Value.slice A2 r2n r2c))
    {Q : Exit → Act → World → Prop}
    (hend : ∀ (w : World) (r101 r102 r104 : Value), Below w0.heap.size w0 w → Q .normal { tmps := #[s0, s1, s2, s3, s4, (Value.pointer (some ⟨ws, 0, none⟩)), (Value.bool true), (Value.bool true), s8, s9, s10, (Value.slice (some ⟨pb, 0, none⟩) 3 cc), (Value.string (bstr L1)), s13, s14, s15, s16, s17, s18, s19, s20, s21, s22, s23, s24, s25, s26, s27, s28, s29, s30, s31, s32, s33, s34, s35, s36, s37, s38, s39, s40, s41, s42, s43, s44, s45, s46, s47, s48, s49, s50, s51, s52, s53, s54, s55, s56, s57, s58, s59, s60, s61, s62, s63, s64, s65, s66, s67, s68, s69, s70, s71, s72, s73, s74, s75, s76, s77, s78, s79, s80, s81, s82, s83, s84, s85, s86, s87, s88, (Value.bool true), (Value.bool true), (Value.slice (some ⟨pb, 0, none⟩) 3 cc), (Value.int IntKind.i64 3), (Value.bool true), (Value.bool true), (Value.bool true), (Value.slice (some ⟨pb, 0, none⟩) 3 cc), (Value.pointer (some ⟨pb, 0, none⟩)), (Value.pointer (some ⟨pb, 2, none⟩)), (Value.slice A0 r0n r0c), (Value.string (bstr L2)), r101, r102, (Value.agg #[Value.bool cut, Value.int IntKind.i64 sx, Value.int IntKind.u32 (mm : Int)]), r104, (Value.string (bstr L2)), (Value.bool true), (Value.bool true), (Value.bool true), (Value.slice (some ⟨pb, 0, none⟩) 3 cc), (Value.pointer (some ⟨pb, 3, none⟩)), (Value.pointer (some ⟨pb, 5, none⟩)), (Value.slice A1 r1n r1c), (Value.string (bstr L1)), (Value.string (bstr L1)), (Value.bool true), (Value.bool true), (Value.bool true), (Value.slice (some ⟨pb, 0, none⟩) 3 cc), (Value.pointer (some ⟨pb, 6, none⟩)), (Value.pointer (some ⟨pb, 8, none⟩)), (Value.slice A2 r2n r2c), (Value.string (bstr L1)), (Value.string (bstr L1)), (Value.bool true), (Value.bool true)], defers := [] } w) :
    (Code.region 14 (Reg.opsOf Try.f6 14) true).wp Try.prog Q { tmps := #[s0, s1, s2, s3, s4, (Value.pointer (some ⟨ws, 0, none⟩)), s6, (Value.bool true), s8, s9, s10, (Value.slice (some ⟨pb, 0, none⟩) 3 cc), (Value.string (bstr L1)), s13, s14, s15, s16, s17, s18, s19, s20, s21, s22, s23, s24, s25, s26, s27, s28, s29, s30, s31, s32, s33, s34, s35, s36, s37, s38, s39, s40, s41, s42, s43, s44, s45, s46, s47, s48, s49, s50, s51, s52, s53, s54, s55, s56, s57, s58, s59, s60, s61, s62, s63, s64, s65, s66, s67, s68, s69, s70, s71, s72, s73, s74, s75, s76, s77, s78, s79, s80, s81, s82, s83, s84, s85, s86, s87, s88, s89, s90, s91, s92, s93, s94, s95, s96, s97, s98, s99, s100, s101, s102, s103, s104, s105, s106, s107, s108, s109, s110, s111, s112, s113, s114, s115, s116, s117, s118, s119, s120, s121, s122, s123, s124, s125], defers := [] } w0 := by
  obtain ⟨a0, ha0⟩ : ∃ a0 : Act, a0 = { tmps := #[s0, s1, s2, s3, s4, (Value.pointer (some ⟨ws, 0, none⟩)), s6, (Value.bool true), s8, s9, s10, (Value.slice (some ⟨pb, 0, none⟩) 3 cc), (Value.string (bstr L1)), s13, s14, s15, s16, s17, s18, s19, s20, s21, s22, s23, s24, s25, s26, s27, s28, s29, s30, s31, s32, s33, s34, s35, s36, s37, s38, s39, s40, s41, s42, s43, s44, s45, s46, s47, s48, s49, s50, s51, s52, s53, s54, s55, s56, s57, s58, s59, s60, s61, s62, s63, s64, s65, s66, s67, s68, s69, s70, s71, s72, s73, s74, s75, s76, s77, s78, s79, s80, s81, s82, s83, s84, s85, s86, s87, s88, s89, s90, s91, s92, s93, s94, s95, s96, s97, s98, s99, s100, s101, s102, s103, s104, s105, s106, s107, s108, s109, s110, s111, s112, s113, s114, s115, s116, s117, s118, s119, s120, s121, s122, s123, s124, s125], defers := [] } := ⟨_, rfl⟩
  have hfin : ∀ v : Nat → Value, Reg.gfr (Reg.opsOf Try.f6 14) a0 v (List.range 38) = { tmps := #[s0, s1, s2, s3, s4, (Value.pointer (some ⟨ws, 0, none⟩)), v 37, (Value.bool true), s8, s9, s10, (Value.slice (some ⟨pb, 0, none⟩) 3 cc), (Value.string (bstr L1)), s13, s14, s15, s16, s17, s18, s19, s20, s21, s22, s23, s24, s25, s26, s27, s28, s29, s30, s31, s32, s33, s34, s35, s36, s37, s38, s39, s40, s41, s42, s43, s44, s45, s46, s47, s48, s49, s50, s51, s52, s53, s54, s55, s56, s57, s58, s59, s60, s61, s62, s63, s64, s65, s66, s67, s68, s69, s70, s71, s72, s73, s74, s75, s76, s77, s78, s79, s80, s81, s82, s83, s84, s85, s86, s87, s88, v 0, v 1, v 2, v 3, v 4, v 5, v 6, v 7, v 8, v 9, v 10, v 11, v 12, v 13, v 14, v 15, v 16, v 17, v 18, v 19, v 20, v 21, v 22, v 23, v 24, v 25, v 26, v 27, v 28, v 29, v 30, v 31, v 32, v 33, v 34, v 35, v 36], defers := [] } := fun v => by rw [ha0]; kernel_rfl
  rw [← ha0]
  have i5 : a0.eval (.tmp 5) = (Value.pointer (some ⟨ws, 0, none⟩)) := by rw [ha0]; rfl
  have i7 : a0.eval (.tmp 7) = (Value.bool true) := by rw [ha0]; rfl
  have i11 : a0.eval (.tmp 11) = (Value.slice (some ⟨pb, 0, none⟩) 3 cc) := by rw [ha0]; rfl
  have i12 : a0.eval (.tmp 12) = (Value.string (bstr L1)) := by rw [ha0]; rfl
  have hsz : a0.tmps.size = 126 := by rw [ha0]; rfl
  clear ha0
  have hn : (Reg.opsOf Try.f6 14).size = 38 := by kernel_rfl
  have h0 := nonce14_h0 B0 ws cc k2 r0n r0c r1n r1c r2n r2c mm pb A0 A1 A2 cut sx L1 L2 w0 a0 hB0 v0 v1 v2 hsp hl2 M_ws Q0 Q1 Q2 i5 i7 i11 i12 hsz
  have h1 := nonce14_h1 B0 ws cc k2 r0n r0c r1n r1c r2n r2c mm pb A0 A1 A2 cut sx L1 L2 w0 a0 hB0 v0 v1 v2 hsp hl2 M_ws Q0 Q1 Q2 i5 i7 i11 i12 hsz
  have h2 := nonce14_h2 B0 ws cc k2 r0n r0c r1n r1c r2n r2c mm pb A0 A1 A2 cut sx L1 L2 w0 a0 hB0 v0 v1 v2 hsp hl2 M_ws Q0 Q1 Q2 i5 i7 i11 i12 hsz
  have h3 := nonce14_h3 B0 ws cc k2 r0n r0c r1n r1c r2n r2c mm pb A0 A1 A2 cut sx L1 L2 w0 a0 hB0 v0 v1 v2 hsp hl2 M_ws Q0 Q1 Q2 i5 i7 i11 i12 hsz
  have h4 := nonce14_h4 B0 ws cc k2 r0n r0c r1n r1c r2n r2c mm pb A0 A1 A2 cut sx L1 L2 w0 a0 hB0 v0 v1 v2 hsp hl2 M_ws Q0 Q1 Q2 i5 i7 i11 i12 hsz
  have h5 := nonce14_h5 B0 ws cc k2 r0n r0c r1n r1c r2n r2c mm pb A0 A1 A2 cut sx L1 L2 w0 a0 hB0 v0 v1 v2 hsp hl2 M_ws Q0 Q1 Q2 i5 i7 i11 i12 hsz
  have h6 := nonce14_h6 B0 ws cc k2 r0n r0c r1n r1c r2n r2c mm pb A0 A1 A2 cut sx L1 L2 w0 a0 hB0 v0 v1 v2 hsp hl2 M_ws Q0 Q1 Q2 i5 i7 i11 i12 hsz
  have h7 := nonce14_h7 B0 ws cc k2 r0n r0c r1n r1c r2n r2c mm pb A0 A1 A2 cut sx L1 L2 w0 a0 hB0 v0 v1 v2 hsp hl2 M_ws Q0 Q1 Q2 i5 i7 i11 i12 hsz
  have h8 := nonce14_h8 B0 ws cc k2 r0n r0c r1n r1c r2n r2c mm pb A0 A1 A2 cut sx L1 L2 w0 a0 hB0 v0 v1 v2 hsp hl2 M_ws Q0 Q1 Q2 i5 i7 i11 i12 hsz
  have h9 := nonce14_h9 B0 ws cc k2 r0n r0c r1n r1c r2n r2c mm pb A0 A1 A2 cut sx L1 L2 w0 a0 hB0 v0 v1 v2 hsp hl2 M_ws Q0 Q1 Q2 i5 i7 i11 i12 hsz
  have h10 := nonce14_h10 B0 ws cc k2 r0n r0c r1n r1c r2n r2c mm pb A0 A1 A2 cut sx L1 L2 w0 a0 hB0 v0 v1 v2 hsp hl2 M_ws Q0 Q1 Q2 i5 i7 i11 i12 hsz
  have h11 := nonce14_h11 B0 ws cc k2 r0n r0c r1n r1c r2n r2c mm pb A0 A1 A2 cut sx L1 L2 w0 a0 hB0 v0 v1 v2 hsp hl2 M_ws Q0 Q1 Q2 i5 i7 i11 i12 hsz
  have h12 := nonce14_h12 B0 ws cc k2 r0n r0c r1n r1c r2n r2c mm pb A0 A1 A2 cut sx L1 L2 w0 a0 hB0 v0 v1 v2 hsp hl2 M_ws Q0 Q1 Q2 i5 i7 i11 i12 hsz
  have h13 := nonce14_h13 B0 ws cc k2 r0n r0c r1n r1c r2n r2c mm pb A0 A1 A2 cut sx L1 L2 w0 a0 hB0 v0 v1 v2 hsp hl2 M_ws Q0 Q1 Q2 i5 i7 i11 i12 hsz
  have h14 := nonce14_h14 B0 ws cc k2 r0n r0c r1n r1c r2n r2c mm pb A0 A1 A2 cut sx L1 L2 w0 a0 hB0 v0 v1 v2 hsp hl2 M_ws Q0 Q1 Q2 i5 i7 i11 i12 hsz
  have h15 := nonce14_h15 B0 ws cc k2 r0n r0c r1n r1c r2n r2c mm pb A0 A1 A2 cut sx L1 L2 w0 a0 hB0 v0 v1 v2 hsp hl2 M_ws Q0 Q1 Q2 i5 i7 i11 i12 hsz
  have h16 := nonce14_h16 B0 ws cc k2 r0n r0c r1n r1c r2n r2c mm pb A0 A1 A2 cut sx L1 L2 w0 a0 hB0 v0 v1 v2 hsp hl2 M_ws Q0 Q1 Q2 i5 i7 i11 i12 hsz
  have h17 := nonce14_h17 B0 ws cc k2 r0n r0c r1n r1c r2n r2c mm pb A0 A1 A2 cut sx L1 L2 w0 a0 hB0 v0 v1 v2 hsp hl2 M_ws Q0 Q1 Q2 i5 i7 i11 i12 hsz
  have h18 := nonce14_h18 B0 ws cc k2 r0n r0c r1n r1c r2n r2c mm pb A0 A1 A2 cut sx L1 L2 w0 a0 hB0 v0 v1 v2 hsp hl2 M_ws Q0 Q1 Q2 i5 i7 i11 i12 hsz
  have h19 := nonce14_h19 B0 ws cc k2 r0n r0c r1n r1c r2n r2c mm pb A0 A1 A2 cut sx L1 L2 w0 a0 hB0 v0 v1 v2 hsp hl2 M_ws Q0 Q1 Q2 i5 i7 i11 i12 hsz
  have h20 := nonce14_h20 B0 ws cc k2 r0n r0c r1n r1c r2n r2c mm pb A0 A1 A2 cut sx L1 L2 w0 a0 hB0 v0 v1 v2 hsp hl2 M_ws Q0 Q1 Q2 i5 i7 i11 i12 hsz
  have h21 := nonce14_h21 B0 ws cc k2 r0n r0c r1n r1c r2n r2c mm pb A0 A1 A2 cut sx L1 L2 w0 a0 hB0 v0 v1 v2 hsp hl2 M_ws Q0 Q1 Q2 i5 i7 i11 i12 hsz
  have h22 := nonce14_h22 B0 ws cc k2 r0n r0c r1n r1c r2n r2c mm pb A0 A1 A2 cut sx L1 L2 w0 a0 hB0 v0 v1 v2 hsp hl2 M_ws Q0 Q1 Q2 i5 i7 i11 i12 hsz
  have h23 := nonce14_h23 B0 ws cc k2 r0n r0c r1n r1c r2n r2c mm pb A0 A1 A2 cut sx L1 L2 w0 a0 hB0 v0 v1 v2 hsp hl2 M_ws Q0 Q1 Q2 i5 i7 i11 i12 hsz
  have h24 := nonce14_h24 B0 ws cc k2 r0n r0c r1n r1c r2n r2c mm pb A0 A1 A2 cut sx L1 L2 w0 a0 hB0 v0 v1 v2 hsp hl2 M_ws Q0 Q1 Q2 i5 i7 i11 i12 hsz
  have h25 := nonce14_h25 B0 ws cc k2 r0n r0c r1n r1c r2n r2c mm pb A0 A1 A2 cut sx L1 L2 w0 a0 hB0 v0 v1 v2 hsp hl2 M_ws Q0 Q1 Q2 i5 i7 i11 i12 hsz
  have h26 := nonce14_h26 B0 ws cc k2 r0n r0c r1n r1c r2n r2c mm pb A0 A1 A2 cut sx L1 L2 w0 a0 hB0 v0 v1 v2 hsp hl2 M_ws Q0 Q1 Q2 i5 i7 i11 i12 hsz
  have h27 := nonce14_h27 B0 ws cc k2 r0n r0c r1n r1c r2n r2c mm pb A0 A1 A2 cut sx L1 L2 w0 a0 hB0 v0 v1 v2 hsp hl2 M_ws Q0 Q1 Q2 i5 i7 i11 i12 hsz
  have h28 := nonce14_h28 B0 ws cc k2 r0n r0c r1n r1c r2n r2c mm pb A0 A1 A2 cut sx L1 L2 w0 a0 hB0 v0 v1 v2 hsp hl2 M_ws Q0 Q1 Q2 i5 i7 i11 i12 hsz
  have h29 := nonce14_h29 B0 ws cc k2 r0n r0c r1n r1c r2n r2c mm pb A0 A1 A2 cut sx L1 L2 w0 a0 hB0 v0 v1 v2 hsp hl2 M_ws Q0 Q1 Q2 i5 i7 i11 i12 hsz
  have h30 := nonce14_h30 B0 ws cc k2 r0n r0c r1n r1c r2n r2c mm pb A0 A1 A2 cut sx L1 L2 w0 a0 hB0 v0 v1 v2 hsp hl2 M_ws Q0 Q1 Q2 i5 i7 i11 i12 hsz
  have h31 := nonce14_h31 B0 ws cc k2 r0n r0c r1n r1c r2n r2c mm pb A0 A1 A2 cut sx L1 L2 w0 a0 hB0 v0 v1 v2 hsp hl2 M_ws Q0 Q1 Q2 i5 i7 i11 i12 hsz
  have h32 := nonce14_h32 B0 ws cc k2 r0n r0c r1n r1c r2n r2c mm pb A0 A1 A2 cut sx L1 L2 w0 a0 hB0 v0 v1 v2 hsp hl2 M_ws Q0 Q1 Q2 i5 i7 i11 i12 hsz
  have h33 := nonce14_h33 B0 ws cc k2 r0n r0c r1n r1c r2n r2c mm pb A0 A1 A2 cut sx L1 L2 w0 a0 hB0 v0 v1 v2 hsp hl2 M_ws Q0 Q1 Q2 i5 i7 i11 i12 hsz
  have h34 := nonce14_h34 B0 ws cc k2 r0n r0c r1n r1c r2n r2c mm pb A0 A1 A2 cut sx L1 L2 w0 a0 hB0 v0 v1 v2 hsp hl2 M_ws Q0 Q1 Q2 i5 i7 i11 i12 hsz
  have h35 := nonce14_h35 B0 ws cc k2 r0n r0c r1n r1c r2n r2c mm pb A0 A1 A2 cut sx L1 L2 w0 a0 hB0 v0 v1 v2 hsp hl2 M_ws Q0 Q1 Q2 i5 i7 i11 i12 hsz
  have h36 := nonce14_h36 B0 ws cc k2 r0n r0c r1n r1c r2n r2c mm pb A0 A1 A2 cut sx L1 L2 w0 a0 hB0 v0 v1 v2 hsp hl2 M_ws Q0 Q1 Q2 i5 i7 i11 i12 hsz
  have h37 := nonce14_h37 B0 ws cc k2 r0n r0c r1n r1c r2n r2c mm pb A0 A1 A2 cut sx L1 L2 w0 a0 hB0 v0 v1 v2 hsp hl2 M_ws Q0 Q1 Q2 i5 i7 i11 i12 hsz
  refine RegC.region_all (by kernel_rfl) (fun i_ => if i_ = 12 then some 13 else none) (nonce14R B0 ws cc k2 r0n r0c r1n r1c r2n r2c mm pb A0 A1 A2 cut sx L1 L2) (fun _ _ _ _ => True) (by rw [hn, hsz]; kernel_rfl) (fun i hi => ?_) (fun v w hb hR => ?_)
  · rw [hn] at hi
    match i, List.mem_range.1 hi with
    | 0, _ => exact RegC.of_old (by kernel_rfl) (nonce14_stable B0 ws cc k2 r0n r0c r1n r1c r2n r2c mm pb A0 A1 A2 cut sx L1 L2) (fun _ _ _ => ⟨trivial, trivial⟩) h0
    | 1, _ => exact RegC.of_old (by kernel_rfl) (nonce14_stable B0 ws cc k2 r0n r0c r1n r1c r2n r2c mm pb A0 A1 A2 cut sx L1 L2) (fun _ _ _ => ⟨trivial, trivial⟩) h1
    | 2, _ => exact RegC.of_old (by kernel_rfl) (nonce14_stable B0 ws cc k2 r0n r0c r1n r1c r2n r2c mm pb A0 A1 A2 cut sx L1 L2) (fun _ _ _ => ⟨trivial, trivial⟩) h2
    | 3, _ => exact RegC.of_old (by kernel_rfl) (nonce14_stable B0 ws cc k2 r0n r0c r1n r1c r2n r2c mm pb A0 A1 A2 cut sx L1 L2) (fun _ _ _ => ⟨trivial, trivial⟩) h3
    | 4, _ => exact RegC.of_old (by kernel_rfl) (nonce14_stable B0 ws cc k2 r0n r0c r1n r1c r2n r2c mm pb A0 A1 A2 cut sx L1 L2) (fun _ _ _ => ⟨trivial, trivial⟩) h4
    | 5, _ => exact RegC.of_old (by kernel_rfl) (nonce14_stable B0 ws cc k2 r0n r0c r1n r1c r2n r2c mm pb A0 A1 A2 cut sx L1 L2) (fun _ _ _ => ⟨trivial, trivial⟩) h5
    | 6, _ => exact RegC.of_old (by kernel_rfl) (nonce14_stable B0 ws cc k2 r0n r0c r1n r1c r2n r2c mm pb A0 A1 A2 cut sx L1 L2) (fun _ _ _ => ⟨trivial, trivial⟩) h6
    | 7, _ => exact RegC.of_old (by kernel_rfl) (nonce14_stable B0 ws cc k2 r0n r0c r1n r1c r2n r2c mm pb A0 A1 A2 cut sx L1 L2) (fun _ _ _ => ⟨trivial, trivial⟩) h7
    | 8, _ => exact RegC.of_old (by kernel_rfl) (nonce14_stable B0 ws cc k2 r0n r0c r1n r1c r2n r2c mm pb A0 A1 A2 cut sx L1 L2) (fun _ _ _ => ⟨trivial, trivial⟩) h8
    | 9, _ => exact RegC.of_old (by kernel_rfl) (nonce14_stable B0 ws cc k2 r0n r0c r1n r1c r2n r2c mm pb A0 A1 A2 cut sx L1 L2) (fun _ _ _ => ⟨trivial, trivial⟩) h9
    | 10, _ => exact RegC.of_old (by kernel_rfl) (nonce14_stable B0 ws cc k2 r0n r0c r1n r1c r2n r2c mm pb A0 A1 A2 cut sx L1 L2) (fun _ _ _ => ⟨trivial, trivial⟩) h10
    | 11, _ => exact RegC.of_old (by kernel_rfl) (nonce14_stable B0 ws cc k2 r0n r0c r1n r1c r2n r2c mm pb A0 A1 A2 cut sx L1 L2) (fun _ _ _ => ⟨trivial, trivial⟩) h11
    | 12, _ => exact RegC.of_old (by kernel_rfl) (nonce14_stable B0 ws cc k2 r0n r0c r1n r1c r2n r2c mm pb A0 A1 A2 cut sx L1 L2) (fun _ _ _ => ⟨trivial, trivial⟩) h12
    | 13, _ => exact h13
    | 14, _ => exact RegC.of_old (by kernel_rfl) (nonce14_stable B0 ws cc k2 r0n r0c r1n r1c r2n r2c mm pb A0 A1 A2 cut sx L1 L2) (fun _ _ _ => ⟨trivial, trivial⟩) h14
    | 15, _ => exact RegC.of_old (by kernel_rfl) (nonce14_stable B0 ws cc k2 r0n r0c r1n r1c r2n r2c mm pb A0 A1 A2 cut sx L1 L2) (fun _ _ _ => ⟨trivial, trivial⟩) h15
    | 16, _ => exact RegC.of_old (by kernel_rfl) (nonce14_stable B0 ws cc k2 r0n r0c r1n r1c r2n r2c mm pb A0 A1 A2 cut sx L1 L2) (fun _ _ _ => ⟨trivial, trivial⟩) h16
    | 17, _ => exact RegC.of_old (by kernel_rfl) (nonce14_stable B0 ws cc k2 r0n r0c r1n r1c r2n r2c mm pb A0 A1 A2 cut sx L1 L2) (fun _ _ _ => ⟨trivial, trivial⟩) h17
    | 18, _ => exact RegC.of_old (by kernel_rfl) (nonce14_stable B0 ws cc k2 r0n r0c r1n r1c r2n r2c mm pb A0 A1 A2 cut sx L1 L2) (fun _ _ _ => ⟨trivial, trivial⟩) h18
    | 19, _ => exact RegC.of_old (by kernel_rfl) (nonce14_stable B0 ws cc k2 r0n r0c r1n r1c r2n r2c mm pb A0 A1 A2 cut sx L1 L2) (fun _ _ _ => ⟨trivial, trivial⟩) h19
    | 20, _ => exact RegC.of_old (by kernel_rfl) (nonce14_stable B0 ws cc k2 r0n r0c r1n r1c r2n r2c mm pb A0 A1 A2 cut sx L1 L2) (fun _ _ _ => ⟨trivial, trivial⟩) h20
    | 21, _ => exact RegC.of_old (by kernel_rfl) (nonce14_stable B0 ws cc k2 r0n r0c r1n r1c r2n r2c mm pb A0 A1 A2 cut sx L1 L2) (fun _ _ _ => ⟨trivial, trivial⟩) h21
    | 22, _ => exact RegC.of_old (by kernel_rfl) (nonce14_stable B0 ws cc k2 r0n r0c r1n r1c r2n r2c mm pb A0 A1 A2 cut sx L1 L2) (fun _ _ _ => ⟨trivial, trivial⟩) h22
    | 23, _ => exact RegC.of_old (by kernel_rfl) (nonce14_stable B0 ws cc k2 r0n r0c r1n r1c r2n r2c mm pb A0 A1 A2 cut sx L1 L2) (fun _ _ _ => ⟨trivial, trivial⟩) h23
    | 24, _ => exact RegC.of_old (by kernel_rfl) (nonce14_stable B0 ws cc k2 r0n r0c r1n r1c r2n r2c mm pb A0 A1 A2 cut sx L1 L2) (fun _ _ _ => ⟨trivial, trivial⟩) h24
    | 25, _ => exact RegC.of_old (by kernel_rfl) (nonce14_stable B0 ws cc k2 r0n r0c r1n r1c r2n r2c mm pb A0 A1 A2 cut sx L1 L2) (fun _ _ _ => ⟨trivial, trivial⟩) h25
    | 26, _ => exact RegC.of_old (by kernel_rfl) (nonce14_stable B0 ws cc k2 r0n r0c r1n r1c r2n r2c mm pb A0 A1 A2 cut sx L1 L2) (fun _ _ _ => ⟨trivial, trivial⟩) h26
    | 27, _ => exact RegC.of_old (by kernel_rfl) (nonce14_stable B0 ws cc k2 r0n r0c r1n r1c r2n r2c mm pb A0 A1 A2 cut sx L1 L2) (fun _ _ _ => ⟨trivial, trivial⟩) h27
    | 28, _ => exact RegC.of_old (by kernel_rfl) (nonce14_stable B0 ws cc k2 r0n r0c r1n r1c r2n r2c mm pb A0 A1 A2 cut sx L1 L2) (fun _ _ _ => ⟨trivial, trivial⟩) h28
    | 29, _ => exact RegC.of_old (by kernel_rfl) (nonce14_stable B0 ws cc k2 r0n r0c r1n r1c r2n r2c mm pb A0 A1 A2 cut sx L1 L2) (fun _ _ _ => ⟨trivial, trivial⟩) h29
    | 30, _ => exact RegC.of_old (by kernel_rfl) (nonce14_stable B0 ws cc k2 r0n r0c r1n r1c r2n r2c mm pb A0 A1 A2 cut sx L1 L2) (fun _ _ _ => ⟨trivial, trivial⟩) h30
    | 31, _ => exact RegC.of_old (by kernel_rfl) (nonce14_stable B0 ws cc k2 r0n r0c r1n r1c r2n r2c mm pb A0 A1 A2 cut sx L1 L2) (fun _ _ _ => ⟨trivial, trivial⟩) h31
    | 32, _ => exact RegC.of_old (by kernel_rfl) (nonce14_stable B0 ws cc k2 r0n r0c r1n r1c r2n r2c mm pb A0 A1 A2 cut sx L1 L2) (fun _ _ _ => ⟨trivial, trivial⟩) h32
    | 33, _ => exact RegC.of_old (by kernel_rfl) (nonce14_stable B0 ws cc k2 r0n r0c r1n r1c r2n r2c mm pb A0 A1 A2 cut sx L1 L2) (fun _ _ _ => ⟨trivial, trivial⟩) h33
    | 34, _ => exact RegC.of_old (by kernel_rfl) (nonce14_stable B0 ws cc k2 r0n r0c r1n r1c r2n r2c mm pb A0 A1 A2 cut sx L1 L2) (fun _ _ _ => ⟨trivial, trivial⟩) h34
    | 35, _ => exact RegC.of_old (by kernel_rfl) (nonce14_stable B0 ws cc k2 r0n r0c r1n r1c r2n r2c mm pb A0 A1 A2 cut sx L1 L2) (fun _ _ _ => ⟨trivial, trivial⟩) h35
    | 36, _ => exact RegC.of_old (by kernel_rfl) (nonce14_stable B0 ws cc k2 r0n r0c r1n r1c r2n r2c mm pb A0 A1 A2 cut sx L1 L2) (fun _ _ _ => ⟨trivial, trivial⟩) h36
    | 37, _ => exact h37
    | (_ + 38), h => omega
  · rw [hn] at hR ⊢
    have v0 : v 0 = (Value.bool true) := hR 0 (by decide) rfl
    have v1 : v 1 = (Value.bool true) := hR 1 (by decide) rfl
    have v2 : v 2 = (Value.slice (some ⟨pb, 0, none⟩) 3 cc) := hR 2 (by decide) rfl
    have v3 : v 3 = (Value.int IntKind.i64 3) := hR 3 (by decide) rfl
    have v4 : v 4 = (Value.bool true) := hR 4 (by decide) rfl
    have v5 : v 5 = (Value.bool true) := hR 5 (by decide) rfl
    have v6 : v 6 = (Value.bool true) := hR 6 (by decide) rfl
    have v7 : v 7 = (Value.slice (some ⟨pb, 0, none⟩) 3 cc) := hR 7 (by decide) rfl
    have v8 : v 8 = (Value.pointer (some ⟨pb, 0, none⟩)) := hR 8 (by decide) rfl
    have v9 : v 9 = (Value.pointer (some ⟨pb, 2, none⟩)) := hR 9 (by decide) rfl
    have v10 : v 10 = (Value.slice A0 r0n r0c) := hR 10 (by decide) rfl
    have v11 : v 11 = (Value.string (bstr L2)) := hR 11 (by decide) rfl
    have v14 : v 14 = (Value.agg #[Value.bool cut, Value.int IntKind.i64 sx, Value.int IntKind.u32 (mm : Int)]) := hR 14 (by decide) rfl
    have v16 : v 16 = (Value.string (bstr L2)) := hR 16 (by decide) rfl
    have v17 : v 17 = (Value.bool true) := hR 17 (by decide) rfl
    have v18 : v 18 = (Value.bool true) := hR 18 (by decide) rfl
    have v19 : v 19 = (Value.bool true) := hR 19 (by decide) rfl
    have v20 : v 20 = (Value.slice (some ⟨pb, 0, none⟩) 3 cc) := hR 20 (by decide) rfl
    have v21 : v 21 = (Value.pointer (some ⟨pb, 3, none⟩)) := hR 21 (by decide) rfl
    have v22 : v 22 = (Value.pointer (some ⟨pb, 5, none⟩)) := hR 22 (by decide) rfl
    have v23 : v 23 = (Value.slice A1 r1n r1c) := hR 23 (by decide) rfl
    have v24 : v 24 = (Value.string (bstr L1)) := hR 24 (by decide) rfl
    have v25 : v 25 = (Value.string (bstr L1)) := hR 25 (by decide) rfl
    have v26 : v 26 = (Value.bool true) := hR 26 (by decide) rfl
    have v27 : v 27 = (Value.bool true) := hR 27 (by decide) rfl
    have v28 : v 28 = (Value.bool true) := hR 28 (by decide) rfl
    have v29 : v 29 = (Value.slice (some ⟨pb, 0, none⟩) 3 cc) := hR 29 (by decide) rfl
    have v30 : v 30 = (Value.pointer (some ⟨pb, 6, none⟩)) := hR 30 (by decide) rfl
    have v31 : v 31 = (Value.pointer (some ⟨pb, 8, none⟩)) := hR 31 (by decide) rfl
    have v32 : v 32 = (Value.slice A2 r2n r2c) := hR 32 (by decide) rfl
    have v33 : v 33 = (Value.string (bstr L1)) := hR 33 (by decide) rfl
    have v34 : v 34 = (Value.string (bstr L1)) := hR 34 (by decide) rfl
    have v35 : v 35 = (Value.bool true) := hR 35 (by decide) rfl
    have v36 : v 36 = (Value.bool true) := hR 36 (by decide) rfl
    have v37 : v 37 = (Value.bool true) := hR 37 (by decide) rfl
    rw [hfin v, v0, v1, v2, v3, v4, v5, v6, v7, v8, v9, v10, v11, v14, v16, v17, v18, v19, v20, v21, v22, v23, v24, v25, v26, v27, v28, v29, v30, v31, v32, v33, v34, v35, v36, v37]
    exact hend w (v 12) (v 13) (v 15) hb 
end Go.Proofs.Ytfojlmnlolnilaa
