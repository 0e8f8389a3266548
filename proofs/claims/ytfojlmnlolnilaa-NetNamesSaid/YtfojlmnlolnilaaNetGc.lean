/- Regions that draw their order: their obligations (printed by regen2.py). -/
import Derived.Test.YtfojlmnlolnilaaNetP
import Derived.Test.YtfojlmnlolnilaaNetOp
import Derived.Test.YtfojlmnlolnilaaRegT
namespace Go.Proofs.Ytfojlmnlolnilaa
open Go.RowKit
set_option linter.unusedVariables false
set_option linter.unusedSimpArgs false
set_option linter.unusedSectionVars false
def nsp_aR (gs nn cc c6 : Nat) (AA A6 : Option Addr) (xx ff tt : Int) (mm : Nat) (ss : ByteArray) (LL : List UInt8) : Nat → Value → World → Prop
  | 0 => fun x_ _ => x_ = (Value.bool true)
  | 1 => fun x_ _ => x_ = (Value.bool true)
  | 2 => fun x_ _ => x_ = (Value.int IntKind.i64 ff)
  | 3 => fun x_ _ => x_ = (Value.bool true)
  | 4 => fun x_ _ => x_ = (Value.bool true)
  | 5 => fun x_ _ => x_ = undef
  | 6 => fun x_ _ => x_ = undef
  | 7 => fun x_ _ => x_ = undef
  | 8 => fun x_ _ => x_ = undef
  | 9 => fun x_ _ => x_ = (Value.bool true)
  | 10 => fun x_ _ => x_ = (Value.bool true)
  | 11 => fun x_ _ => x_ = (Value.bool true)
  | 12 => fun x_ _ => x_ = (Value.slice A6 nn c6)
  | 13 => fun x_ _ => x_ = (Value.agg #[Value.bool false, Value.int IntKind.i64 xx, Value.int IntKind.u32 (mm : Int)])
  | 14 => (fun u_ w_ => ∃ A_ c_, u_ = Value.slice A_ nn c_ ∧ RdC w_ A_ (u8v LL))
  | 15 => fun x_ _ => x_ = (Value.string ss)
  | 16 => fun x_ _ => x_ = (Value.slice AA nn cc)
  | 17 => fun x_ _ => x_ = (Value.string ss)
  | 18 => fun x_ _ => x_ = (Value.bool true)
  | 19 => fun x_ _ => x_ = (Value.bool true)
  | 20 => fun x_ _ => x_ = (Value.bool true)
  | _ => fun _ _ => True
theorem nsp_a_stable (gs nn cc c6 : Nat) (AA A6 : Option Addr) (xx ff tt : Int) (mm : Nat) (ss : ByteArray) (LL : List UInt8) : ∀ i_ u_ w_ w_', (nsp_aR gs nn cc c6 AA A6 xx ff tt mm ss LL) i_ u_ w_ → Below w_.heap.size w_ w_' → (nsp_aR gs nn cc c6 AA A6 xx ff tt mm ss LL) i_ u_ w_' := fun i_ u_ w_ w_' h_ hb_ => by
  match i_, h_ with
  | 0, h_ => exact h_
  | 1, h_ => exact h_
  | 2, h_ => exact h_
  | 3, h_ => exact h_
  | 4, h_ => exact h_
  | 5, h_ => exact h_
  | 6, h_ => exact h_
  | 7, h_ => exact h_
  | 8, h_ => exact h_
  | 9, h_ => exact h_
  | 10, h_ => exact h_
  | 11, h_ => exact h_
  | 12, h_ => exact h_
  | 13, h_ => exact h_
  | 14, h_ => exact ((by obtain ⟨A_, c_, h1_, h2_⟩ := h_; exact ⟨A_, c_, h1_, h2_.below hb_⟩))
  | 15, h_ => exact h_
  | 16, h_ => exact h_
  | 17, h_ => exact h_
  | 18, h_ => exact h_
  | 19, h_ => exact h_
  | 20, h_ => exact h_
  | (_ + 21), _ => trivial
section
variable (gs nn cc c6 : Nat) (AA A6 : Option Addr) (xx ff tt : Int) (mm : Nat) (ss : ByteArray) (LL : List UInt8) (w0 : World) (a0 : Act)
variable (f1 : decide (ff < 0) = true)
variable (hsp : ∀ W, Below w0.heap.size w0 W → Calls Try.prog 10 #[Value.slice A6 nn c6, Value.agg #[Value.bool false, Value.int IntKind.i64 xx, Value.int IntKind.u32 (mm : Int)]] W fun e w' => ∃ A_ c_, e = .returned (.slice A_ nn c_) ∧ RdC w' A_ (u8v LL) ∧ Below W.heap.size W w')
variable (hc0 : ∀ (W : World) A_ c_, RdC W A_ (u8v LL) → (convert 22 9 (.slice A_ nn c_)).run Try.prog W = .ok (.string ss) W) (cB : ∀ W, Below w0.heap.size w0 W → (convert 22 9 (.slice AA nn cc)).run Try.prog W = .ok (.string ss) W)
variable (M_gs : ∀ W, Below w0.heap.size w0 W → W.heap[gs]? = some (.cells #[Value.bool false, Value.int IntKind.i64 xx, Value.int IntKind.u32 (mm : Int)] 25 (0, 0)))
variable (i0 : a0.eval (.tmp 0) = (Value.slice AA nn cc)) (i3 : a0.eval (.tmp 3) = (Value.pointer (some ⟨gs, 0, none⟩))) (i5 : a0.eval (.tmp 5) = (Value.bool true)) (i6 : a0.eval (.tmp 6) = (Value.slice A6 nn c6)) (i7 : a0.eval (.tmp 7) = (Value.int IntKind.i64 ff)) (i8 : a0.eval (.tmp 8) = (Value.int IntKind.i64 tt)) (hsz : a0.tmps.size = 98)
include gs nn cc c6 AA A6 xx ff tt mm ss LL w0 a0 f1 hsp hc0 cB M_gs i0 i3 i5 i6 i7 i8 hsz
set_option maxHeartbeats 4000000 in
set_option maxRecDepth 20000 in
theorem nsp_a_h0 :
    Reg.OpOK Try.prog (Reg.opsOf Try.f3 18) a0 w0 (nsp_aR gs nn cc c6 AA A6 xx ff tt mm ss LL) (fun _ _ _ _ => True) 0 := by
    refine Reg.op_ok2 (fun af => { dst := some 78, op := Op.move (Operand.tmp 5), type := 4, pos := "outright.go:137", after := af, guard := none }) #[] (by kernel_rfl) [] (by kernel_rfl) fun af v W hb hd => ?_
    have e5 := (Reg.gfr_eval0 (ops := (Reg.opsOf Try.f3 18)) (a0 := a0) (v := v) (L := []) 5 (by kernel_rfl)).trans i5
    refine ⟨Reg.wanted_none rfl, ?_⟩
    generalize Reg.gfr (Reg.opsOf Try.f3 18) a0 v [] = G at e5 ⊢
    generalize hρ : G.eval = ρ at e5
    have hρ' : G.eval = ρ := hρ
    refine Reg.go_run (Value.bool true) W ?_ ?_
    · rw [hρ']; simp [execOp, go_sem, e5]
    · exact ⟨Below.refl _ _, rfl⟩
set_option maxHeartbeats 4000000 in
set_option maxRecDepth 20000 in
theorem nsp_a_h1 :
    Reg.OpOK Try.prog (Reg.opsOf Try.f3 18) a0 w0 (nsp_aR gs nn cc c6 AA A6 xx ff tt mm ss LL) (fun _ _ _ _ => True) 1 := by
    refine Reg.op_ok2 (fun af => { dst := some 79, op := Op.move (Operand.tmp 78), type := 4, pos := "outright.go:137", after := af, guard := none }) #[{ on := 0, ground := Ground.data }] (by kernel_rfl) [0] (by kernel_rfl) fun af v W hb hd => ?_
    have d0 : v 0 = (Value.bool true) := hd 0 (by decide)
    have e78 := (Reg.gfr_eval (ops := (Reg.opsOf Try.f3 18)) (a0 := a0) (v := v) (L := [0]) 78 0 (by kernel_rfl) (by rw [hsz]; omega)).trans d0
    refine ⟨Reg.wanted_none rfl, ?_⟩
    generalize Reg.gfr (Reg.opsOf Try.f3 18) a0 v [0] = G at e78 ⊢
    generalize hρ : G.eval = ρ at e78
    have hρ' : G.eval = ρ := hρ
    refine Reg.go_run (Value.bool true) W ?_ ?_
    · rw [hρ']; simp [execOp, go_sem, e78]
    · exact ⟨Below.refl _ _, rfl⟩
set_option maxHeartbeats 4000000 in
set_option maxRecDepth 20000 in
theorem nsp_a_h2 :
    Reg.OpOK Try.prog (Reg.opsOf Try.f3 18) a0 w0 (nsp_aR gs nn cc c6 AA A6 xx ff tt mm ss LL) (fun _ _ _ _ => True) 2 := by
    refine Reg.op_ok2 (fun af => { dst := some 80, op := Op.move (Operand.tmp 7), type := 3, pos := "outright.go:137", after := af, guard := some (1, true) }) #[{ on := 1, ground := Ground.guard }] (by kernel_rfl) [1] (by kernel_rfl) fun af v W hb hd => ?_
    have d1 : v 1 = (Value.bool true) := hd 1 (by decide)
    have e7 := (Reg.gfr_eval0 (ops := (Reg.opsOf Try.f3 18)) (a0 := a0) (v := v) (L := [1]) 7 (by kernel_rfl)).trans i7
    have e79 := (Reg.gfr_eval (ops := (Reg.opsOf Try.f3 18)) (a0 := a0) (v := v) (L := [1]) 79 1 (by kernel_rfl) (by rw [hsz]; omega)).trans d1
    refine ⟨Reg.wanted_of rfl (by kernel_rfl) e79, ?_⟩
    generalize Reg.gfr (Reg.opsOf Try.f3 18) a0 v [1] = G at e7 ⊢
    generalize hρ : G.eval = ρ at e7
    have hρ' : G.eval = ρ := hρ
    refine Reg.go_run (Value.int IntKind.i64 ff) W ?_ ?_
    · rw [hρ']; simp [execOp, go_sem, e7]
    · exact ⟨Below.refl _ _, rfl⟩
set_option maxHeartbeats 4000000 in
set_option maxRecDepth 20000 in
theorem nsp_a_h3 :
    Reg.OpOK Try.prog (Reg.opsOf Try.f3 18) a0 w0 (nsp_aR gs nn cc c6 AA A6 xx ff tt mm ss LL) (fun _ _ _ _ => True) 3 := by
    refine Reg.op_ok2 (fun af => { dst := some 81, op := Op.binOp BinOp.lss 3 (Operand.tmp 80) (Operand.const (Value.int IntKind.i64 0)) 3, type := 4, pos := "outright.go:137", after := af, guard := some (1, true) }) #[{ on := 2, ground := Ground.data }, { on := 1, ground := Ground.guard }] (by kernel_rfl) [2, 1] (by kernel_rfl) fun af v W hb hd => ?_
    have d1 : v 1 = (Value.bool true) := hd 1 (by decide)
    have d2 : v 2 = (Value.int IntKind.i64 ff) := hd 2 (by decide)
    have e80 := (Reg.gfr_eval (ops := (Reg.opsOf Try.f3 18)) (a0 := a0) (v := v) (L := [2, 1]) 80 2 (by kernel_rfl) (by rw [hsz]; omega)).trans d2
    have e79 := (Reg.gfr_eval (ops := (Reg.opsOf Try.f3 18)) (a0 := a0) (v := v) (L := [2, 1]) 79 1 (by kernel_rfl) (by rw [hsz]; omega)).trans d1
    refine ⟨Reg.wanted_of rfl (by kernel_rfl) e79, ?_⟩
    have eC : ∀ x, (Reg.gfr (Reg.opsOf Try.f3 18) a0 v [2, 1]).eval (.const x) = x := fun _ => rfl
    generalize Reg.gfr (Reg.opsOf Try.f3 18) a0 v [2, 1] = G at e80 eC ⊢
    generalize hρ : G.eval = ρ at e80 eC
    have hρ' : G.eval = ρ := hρ
    refine Reg.go_run (Value.bool true) W ?_ ?_
    · rw [hρ']; simp [execOp, go_sem, e80, eC, f1]
    · exact ⟨Below.refl _ _, rfl⟩
set_option maxHeartbeats 4000000 in
set_option maxRecDepth 20000 in
theorem nsp_a_h4 :
    Reg.OpOK Try.prog (Reg.opsOf Try.f3 18) a0 w0 (nsp_aR gs nn cc c6 AA A6 xx ff tt mm ss LL) (fun _ _ _ _ => True) 4 := by
    refine Reg.op_ok2 (fun af => { dst := some 82, op := Op.move (Operand.tmp 81), type := 4, pos := "outright.go:137", after := af, guard := some (1, true) }) #[{ on := 3, ground := Ground.data }, { on := 1, ground := Ground.chain }, { on := 1, ground := Ground.guard }] (by kernel_rfl) [3, 1, 1] (by kernel_rfl) fun af v W hb hd => ?_
    have d1 : v 1 = (Value.bool true) := hd 1 (by decide)
    have d3 : v 3 = (Value.bool true) := hd 3 (by decide)
    have e81 := (Reg.gfr_eval (ops := (Reg.opsOf Try.f3 18)) (a0 := a0) (v := v) (L := [3, 1, 1]) 81 3 (by kernel_rfl) (by rw [hsz]; omega)).trans d3
    have e79 := (Reg.gfr_eval (ops := (Reg.opsOf Try.f3 18)) (a0 := a0) (v := v) (L := [3, 1, 1]) 79 1 (by kernel_rfl) (by rw [hsz]; omega)).trans d1
    refine ⟨Reg.wanted_of rfl (by kernel_rfl) e79, ?_⟩
    generalize Reg.gfr (Reg.opsOf Try.f3 18) a0 v [3, 1, 1] = G at e81 ⊢
    generalize hρ : G.eval = ρ at e81
    have hρ' : G.eval = ρ := hρ
    refine Reg.go_run (Value.bool true) W ?_ ?_
    · rw [hρ']; simp [execOp, go_sem, e81]
    · exact ⟨Below.refl _ _, rfl⟩
set_option maxHeartbeats 4000000 in
set_option maxRecDepth 20000 in
theorem nsp_a_h5 :
    Reg.OpOK Try.prog (Reg.opsOf Try.f3 18) a0 w0 (nsp_aR gs nn cc c6 AA A6 xx ff tt mm ss LL) (fun _ _ _ _ => True) 5 := by
    refine Reg.op_no2 (fun af => { dst := some 83, op := Op.move (Operand.tmp 8), type := 3, pos := "outright.go:137", after := af, guard := some (4, false) }) #[{ on := 4, ground := Ground.guard }] (by kernel_rfl) [4] (by kernel_rfl) fun af v W hb hd => ?_
    have d4 : v 4 = (Value.bool true) := hd 4 (by decide)
    have e82 := (Reg.gfr_eval (ops := (Reg.opsOf Try.f3 18)) (a0 := a0) (v := v) (L := [4]) 82 4 (by kernel_rfl) (by rw [hsz]; omega)).trans d4
    exact ⟨Reg.wanted_not rfl (by kernel_rfl) e82, rfl, fun _ _ _ _ => ⟨trivial, trivial⟩⟩
set_option maxHeartbeats 4000000 in
set_option maxRecDepth 20000 in
theorem nsp_a_h6 :
    Reg.OpOK Try.prog (Reg.opsOf Try.f3 18) a0 w0 (nsp_aR gs nn cc c6 AA A6 xx ff tt mm ss LL) (fun _ _ _ _ => True) 6 := by
    refine Reg.op_no2 (fun af => { dst := some 84, op := Op.move (Operand.tmp 7), type := 3, pos := "outright.go:137", after := af, guard := some (4, false) }) #[{ on := 4, ground := Ground.guard }] (by kernel_rfl) [4] (by kernel_rfl) fun af v W hb hd => ?_
    have d4 : v 4 = (Value.bool true) := hd 4 (by decide)
    have e82 := (Reg.gfr_eval (ops := (Reg.opsOf Try.f3 18)) (a0 := a0) (v := v) (L := [4]) 82 4 (by kernel_rfl) (by rw [hsz]; omega)).trans d4
    exact ⟨Reg.wanted_not rfl (by kernel_rfl) e82, rfl, fun _ _ _ _ => ⟨trivial, trivial⟩⟩
set_option maxHeartbeats 4000000 in
set_option maxRecDepth 20000 in
theorem nsp_a_h7 :
    Reg.OpOK Try.prog (Reg.opsOf Try.f3 18) a0 w0 (nsp_aR gs nn cc c6 AA A6 xx ff tt mm ss LL) (fun _ _ _ _ => True) 7 := by
    refine Reg.op_no2 (fun af => { dst := some 85, op := Op.binOp BinOp.sub 3 (Operand.tmp 83) (Operand.tmp 84) 3, type := 3, pos := "outright.go:137", after := af, guard := some (4, false) }) #[{ on := 5, ground := Ground.data }, { on := 6, ground := Ground.data }, { on := 4, ground := Ground.guard }] (by kernel_rfl) [5, 6, 4] (by kernel_rfl) fun af v W hb hd => ?_
    have d4 : v 4 = (Value.bool true) := hd 4 (by decide)
    have e82 := (Reg.gfr_eval (ops := (Reg.opsOf Try.f3 18)) (a0 := a0) (v := v) (L := [5, 6, 4]) 82 4 (by kernel_rfl) (by rw [hsz]; omega)).trans d4
    exact ⟨Reg.wanted_not rfl (by kernel_rfl) e82, rfl, fun _ _ _ _ => ⟨trivial, trivial⟩⟩
set_option maxHeartbeats 4000000 in
set_option maxRecDepth 20000 in
theorem nsp_a_h8 :
    Reg.OpOK Try.prog (Reg.opsOf Try.f3 18) a0 w0 (nsp_aR gs nn cc c6 AA A6 xx ff tt mm ss LL) (fun _ _ _ _ => True) 8 := by
    refine Reg.op_no2 (fun af => { dst := some 86, op := Op.binOp BinOp.lss 3 (Operand.tmp 85) (Operand.const (Value.int IntKind.i64 4)) 3, type := 4, pos := "outright.go:137", after := af, guard := some (4, false) }) #[{ on := 7, ground := Ground.data }, { on := 4, ground := Ground.guard }] (by kernel_rfl) [7, 4] (by kernel_rfl) fun af v W hb hd => ?_
    have d4 : v 4 = (Value.bool true) := hd 4 (by decide)
    have e82 := (Reg.gfr_eval (ops := (Reg.opsOf Try.f3 18)) (a0 := a0) (v := v) (L := [7, 4]) 82 4 (by kernel_rfl) (by rw [hsz]; omega)).trans d4
    exact ⟨Reg.wanted_not rfl (by kernel_rfl) e82, rfl, fun _ _ _ _ => ⟨trivial, trivial⟩⟩
set_option maxHeartbeats 4000000 in
set_option maxRecDepth 20000 in
theorem nsp_a_h9 :
    Reg.OpOK Try.prog (Reg.opsOf Try.f3 18) a0 w0 (nsp_aR gs nn cc c6 AA A6 xx ff tt mm ss LL) (fun _ _ _ _ => True) 9 := by
    refine Reg.op_ok2 (fun af => { dst := some 87, op := Op.pick (Operand.tmp 82) (Operand.const (Value.bool true)) (Operand.tmp 86), type := 4, pos := "outright.go:137", after := af, guard := some (1, true) }) #[{ on := 4, ground := Ground.data }, { on := 8, ground := Ground.data }, { on := 1, ground := Ground.guard }] (by kernel_rfl) [4, 8, 1] (by kernel_rfl) fun af v W hb hd => ?_
    have d1 : v 1 = (Value.bool true) := hd 1 (by decide)
    have d4 : v 4 = (Value.bool true) := hd 4 (by decide)
    have d8 : v 8 = undef := hd 8 (by decide)
    have e82 := (Reg.gfr_eval (ops := (Reg.opsOf Try.f3 18)) (a0 := a0) (v := v) (L := [4, 8, 1]) 82 4 (by kernel_rfl) (by rw [hsz]; omega)).trans d4
    have e86 := (Reg.gfr_eval (ops := (Reg.opsOf Try.f3 18)) (a0 := a0) (v := v) (L := [4, 8, 1]) 86 8 (by kernel_rfl) (by rw [hsz]; omega)).trans d8
    have e79 := (Reg.gfr_eval (ops := (Reg.opsOf Try.f3 18)) (a0 := a0) (v := v) (L := [4, 8, 1]) 79 1 (by kernel_rfl) (by rw [hsz]; omega)).trans d1
    refine ⟨Reg.wanted_of rfl (by kernel_rfl) e79, ?_⟩
    have eC : ∀ x, (Reg.gfr (Reg.opsOf Try.f3 18) a0 v [4, 8, 1]).eval (.const x) = x := fun _ => rfl
    generalize Reg.gfr (Reg.opsOf Try.f3 18) a0 v [4, 8, 1] = G at e82 e86 eC ⊢
    generalize hρ : G.eval = ρ at e82 e86 eC
    have hρ' : G.eval = ρ := hρ
    refine Reg.go_run (Value.bool true) W ?_ ?_
    · rw [hρ']; simp [execOp, go_sem, e82, e86, eC]
    · exact ⟨Below.refl _ _, rfl⟩
set_option maxHeartbeats 4000000 in
set_option maxRecDepth 20000 in
theorem nsp_a_h10 :
    Reg.OpOK Try.prog (Reg.opsOf Try.f3 18) a0 w0 (nsp_aR gs nn cc c6 AA A6 xx ff tt mm ss LL) (fun _ _ _ _ => True) 10 := by
    refine Reg.op_ok2 (fun af => { dst := some 88, op := Op.pick (Operand.tmp 79) (Operand.tmp 87) (Operand.const (Value.bool false)), type := 4, pos := "outright.go:137", after := af, guard := none }) #[{ on := 1, ground := Ground.data }, { on := 9, ground := Ground.data }] (by kernel_rfl) [1, 9] (by kernel_rfl) fun af v W hb hd => ?_
    have d1 : v 1 = (Value.bool true) := hd 1 (by decide)
    have d9 : v 9 = (Value.bool true) := hd 9 (by decide)
    have e79 := (Reg.gfr_eval (ops := (Reg.opsOf Try.f3 18)) (a0 := a0) (v := v) (L := [1, 9]) 79 1 (by kernel_rfl) (by rw [hsz]; omega)).trans d1
    have e87 := (Reg.gfr_eval (ops := (Reg.opsOf Try.f3 18)) (a0 := a0) (v := v) (L := [1, 9]) 87 9 (by kernel_rfl) (by rw [hsz]; omega)).trans d9
    refine ⟨Reg.wanted_none rfl, ?_⟩
    have eC : ∀ x, (Reg.gfr (Reg.opsOf Try.f3 18) a0 v [1, 9]).eval (.const x) = x := fun _ => rfl
    generalize Reg.gfr (Reg.opsOf Try.f3 18) a0 v [1, 9] = G at e79 e87 eC ⊢
    generalize hρ : G.eval = ρ at e79 e87 eC
    have hρ' : G.eval = ρ := hρ
    refine Reg.go_run (Value.bool true) W ?_ ?_
    · rw [hρ']; simp [execOp, go_sem, e79, e87, eC]
    · exact ⟨Below.refl _ _, rfl⟩
set_option maxHeartbeats 4000000 in
set_option maxRecDepth 20000 in
theorem nsp_a_h11 :
    Reg.OpOK Try.prog (Reg.opsOf Try.f3 18) a0 w0 (nsp_aR gs nn cc c6 AA A6 xx ff tt mm ss LL) (fun _ _ _ _ => True) 11 := by
    refine Reg.op_ok2 (fun af => { dst := some 89, op := Op.move (Operand.tmp 88), type := 4, pos := "outright.go:137", after := af, guard := none }) #[{ on := 10, ground := Ground.data }, { on := 4, ground := Ground.chain }] (by kernel_rfl) [10, 4] (by kernel_rfl) fun af v W hb hd => ?_
    have d10 : v 10 = (Value.bool true) := hd 10 (by decide)
    have e88 := (Reg.gfr_eval (ops := (Reg.opsOf Try.f3 18)) (a0 := a0) (v := v) (L := [10, 4]) 88 10 (by kernel_rfl) (by rw [hsz]; omega)).trans d10
    refine ⟨Reg.wanted_none rfl, ?_⟩
    generalize Reg.gfr (Reg.opsOf Try.f3 18) a0 v [10, 4] = G at e88 ⊢
    generalize hρ : G.eval = ρ at e88
    have hρ' : G.eval = ρ := hρ
    refine Reg.go_run (Value.bool true) W ?_ ?_
    · rw [hρ']; simp [execOp, go_sem, e88]
    · exact ⟨Below.refl _ _, rfl⟩
set_option maxHeartbeats 4000000 in
set_option maxRecDepth 20000 in
theorem nsp_a_h12 :
    Reg.OpOK Try.prog (Reg.opsOf Try.f3 18) a0 w0 (nsp_aR gs nn cc c6 AA A6 xx ff tt mm ss LL) (fun _ _ _ _ => True) 12 := by
    refine Reg.op_ok2 (fun af => { dst := some 90, op := Op.move (Operand.tmp 6), type := 22, pos := "outright.go:137", after := af, guard := some (11, true) }) #[{ on := 11, ground := Ground.guard }] (by kernel_rfl) [11] (by kernel_rfl) fun af v W hb hd => ?_
    have d11 : v 11 = (Value.bool true) := hd 11 (by decide)
    have e6 := (Reg.gfr_eval0 (ops := (Reg.opsOf Try.f3 18)) (a0 := a0) (v := v) (L := [11]) 6 (by kernel_rfl)).trans i6
    have e89 := (Reg.gfr_eval (ops := (Reg.opsOf Try.f3 18)) (a0 := a0) (v := v) (L := [11]) 89 11 (by kernel_rfl) (by rw [hsz]; omega)).trans d11
    refine ⟨Reg.wanted_of rfl (by kernel_rfl) e89, ?_⟩
    generalize Reg.gfr (Reg.opsOf Try.f3 18) a0 v [11] = G at e6 ⊢
    generalize hρ : G.eval = ρ at e6
    have hρ' : G.eval = ρ := hρ
    refine Reg.go_run (Value.slice A6 nn c6) W ?_ ?_
    · rw [hρ']; simp [execOp, go_sem, e6]
    · exact ⟨Below.refl _ _, rfl⟩
set_option maxHeartbeats 4000000 in
set_option maxRecDepth 20000 in
theorem nsp_a_h13 :
    Reg.OpOK Try.prog (Reg.opsOf Try.f3 18) a0 w0 (nsp_aR gs nn cc c6 AA A6 xx ff tt mm ss LL) (fun _ _ _ _ => True) 13 := by
    refine Reg.op_ok2 (fun af => { dst := some 91, op := Op.load 25 (Operand.tmp 3), type := 25, pos := "outright.go:137", after := af, guard := some (11, true) }) #[{ on := 11, ground := Ground.guard }] (by kernel_rfl) [11] (by kernel_rfl) fun af v W hb hd => ?_
    have d11 : v 11 = (Value.bool true) := hd 11 (by decide)
    have e3 := (Reg.gfr_eval0 (ops := (Reg.opsOf Try.f3 18)) (a0 := a0) (v := v) (L := [11]) 3 (by kernel_rfl)).trans i3
    have e89 := (Reg.gfr_eval (ops := (Reg.opsOf Try.f3 18)) (a0 := a0) (v := v) (L := [11]) 89 11 (by kernel_rfl) (by rw [hsz]; omega)).trans d11
    refine ⟨Reg.wanted_of rfl (by kernel_rfl) e89, ?_⟩
    generalize Reg.gfr (Reg.opsOf Try.f3 18) a0 v [11] = G at e3 ⊢
    generalize hρ : G.eval = ρ at e3
    have hρ' : G.eval = ρ := hρ
    exact fun K hK => wp_load_row 25 (.tmp 3) rfl gs (by rw [hρ']; exact e3) 25 #[Value.bool false, Value.int IntKind.i64 xx, Value.int IntKind.u32 (mm : Int)] (0, 0) _ (M_gs W hb) Try.underlying25 rfl size_sp (hK _ _ ⟨Below.refl _ _, rfl⟩)
set_option maxHeartbeats 4000000 in
set_option maxRecDepth 20000 in
theorem nsp_a_h14 :
    Reg.OpOK Try.prog (Reg.opsOf Try.f3 18) a0 w0 (nsp_aR gs nn cc c6 AA A6 xx ff tt mm ss LL) (fun _ _ _ _ => True) 14 := by
    refine Reg.op_ok2 (fun af => { dst := some 92, op := Op.call { callee := Callee.value (Operand.func 10), args := #[Operand.tmp 90, Operand.tmp 91], argTypes := #[22, 25] }, type := 22, pos := "outright.go:137", after := af, guard := some (11, true) }) #[{ on := 12, ground := Ground.data }, { on := 13, ground := Ground.data }, { on := 11, ground := Ground.chain }, { on := 11, ground := Ground.guard }] (by kernel_rfl) [12, 13, 11, 11] (by kernel_rfl) fun af v W hb hd => ?_
    have d11 : v 11 = (Value.bool true) := hd 11 (by decide)
    have d12 : v 12 = (Value.slice A6 nn c6) := hd 12 (by decide)
    have d13 : v 13 = (Value.agg #[Value.bool false, Value.int IntKind.i64 xx, Value.int IntKind.u32 (mm : Int)]) := hd 13 (by decide)
    have e90 := (Reg.gfr_eval (ops := (Reg.opsOf Try.f3 18)) (a0 := a0) (v := v) (L := [12, 13, 11, 11]) 90 12 (by kernel_rfl) (by rw [hsz]; omega)).trans d12
    have e91 := (Reg.gfr_eval (ops := (Reg.opsOf Try.f3 18)) (a0 := a0) (v := v) (L := [12, 13, 11, 11]) 91 13 (by kernel_rfl) (by rw [hsz]; omega)).trans d13
    have e89 := (Reg.gfr_eval (ops := (Reg.opsOf Try.f3 18)) (a0 := a0) (v := v) (L := [12, 13, 11, 11]) 89 11 (by kernel_rfl) (by rw [hsz]; omega)).trans d11
    refine ⟨Reg.wanted_of rfl (by kernel_rfl) e89, ?_⟩
    have eF : ∀ f, (Reg.gfr (Reg.opsOf Try.f3 18) a0 v [12, 13, 11, 11]).eval (.func f) = .func (.func f) #[] #[] := fun _ => rfl
    generalize Reg.gfr (Reg.opsOf Try.f3 18) a0 v [12, 13, 11, 11] = G at e90 e91 eF ⊢
    generalize hρ : G.eval = ρ at e90 e91 eF
    have hρ' : G.eval = ρ := hρ
    refine Reg.go_call 10 #[(Value.slice A6 nn c6), (Value.agg #[Value.bool false, Value.int IntKind.i64 xx, Value.int IntKind.u32 (mm : Int)])] (by rw [hρ']; simp [execOp, go_sem, e90, e91, eF]) ((hsp W hb).mono fun e w' he => ?_)
    obtain ⟨A_, c_, rfl, ho_, hb_⟩ := he
    exact ⟨_, rfl, hb_, ⟨A_, c_, rfl, ho_⟩⟩
set_option maxHeartbeats 4000000 in
set_option maxRecDepth 20000 in
theorem nsp_a_h15 :
    Reg.OpOK Try.prog (Reg.opsOf Try.f3 18) a0 w0 (nsp_aR gs nn cc c6 AA A6 xx ff tt mm ss LL) (fun _ _ _ _ => True) 15 := by
    refine Reg.op_ok2 (fun af => { dst := some 93, op := Op.convert 22 9 (Operand.tmp 92), type := 9, pos := "outright.go:137", after := af, guard := some (11, true) }) #[{ on := 14, ground := Ground.data }, { on := 11, ground := Ground.guard }] (by kernel_rfl) [14, 11] (by kernel_rfl) fun af v W hb hd => ?_
    have d11 : v 11 = (Value.bool true) := hd 11 (by decide)
    have d14 : ((fun u_ w_ => ∃ A_ c_, u_ = Value.slice A_ nn c_ ∧ RdC w_ A_ (u8v LL))) (v 14) W := hd 14 (by decide)
    have e92 := Reg.gfr_eval (ops := (Reg.opsOf Try.f3 18)) (a0 := a0) (v := v) (L := [14, 11]) 92 14 (by kernel_rfl) (by rw [hsz]; omega)
    have e89 := (Reg.gfr_eval (ops := (Reg.opsOf Try.f3 18)) (a0 := a0) (v := v) (L := [14, 11]) 89 11 (by kernel_rfl) (by rw [hsz]; omega)).trans d11
    refine ⟨Reg.wanted_of rfl (by kernel_rfl) e89, ?_⟩
    generalize Reg.gfr (Reg.opsOf Try.f3 18) a0 v [14, 11] = G at e92 ⊢
    generalize hρ : G.eval = ρ at e92
    have hρ' : G.eval = ρ := hρ
    obtain ⟨A_, c_, hv_, hr_⟩ := d14
    rw [hv_] at e92
    refine Reg.go_run (Value.string ss) W (by rw [hρ']; simp [execOp, go_sem, e92, hc0 W A_ c_ hr_]) ⟨Below.refl _ _, rfl⟩
set_option maxHeartbeats 4000000 in
set_option maxRecDepth 20000 in
theorem nsp_a_h16 :
    Reg.OpOK Try.prog (Reg.opsOf Try.f3 18) a0 w0 (nsp_aR gs nn cc c6 AA A6 xx ff tt mm ss LL) (fun _ _ _ _ => True) 16 := by
    refine Reg.op_ok2 (fun af => { dst := some 94, op := Op.move (Operand.tmp 0), type := 22, pos := "outright.go:137", after := af, guard := some (11, true) }) #[{ on := 11, ground := Ground.guard }] (by kernel_rfl) [11] (by kernel_rfl) fun af v W hb hd => ?_
    have d11 : v 11 = (Value.bool true) := hd 11 (by decide)
    have e0 := (Reg.gfr_eval0 (ops := (Reg.opsOf Try.f3 18)) (a0 := a0) (v := v) (L := [11]) 0 (by kernel_rfl)).trans i0
    have e89 := (Reg.gfr_eval (ops := (Reg.opsOf Try.f3 18)) (a0 := a0) (v := v) (L := [11]) 89 11 (by kernel_rfl) (by rw [hsz]; omega)).trans d11
    refine ⟨Reg.wanted_of rfl (by kernel_rfl) e89, ?_⟩
    generalize Reg.gfr (Reg.opsOf Try.f3 18) a0 v [11] = G at e0 ⊢
    generalize hρ : G.eval = ρ at e0
    have hρ' : G.eval = ρ := hρ
    refine Reg.go_run (Value.slice AA nn cc) W ?_ ?_
    · rw [hρ']; simp [execOp, go_sem, e0]
    · exact ⟨Below.refl _ _, rfl⟩
set_option maxHeartbeats 4000000 in
set_option maxRecDepth 20000 in
theorem nsp_a_h17 :
    Reg.OpOK Try.prog (Reg.opsOf Try.f3 18) a0 w0 (nsp_aR gs nn cc c6 AA A6 xx ff tt mm ss LL) (fun _ _ _ _ => True) 17 := by
    refine Reg.op_ok2 (fun af => { dst := some 95, op := Op.convert 22 9 (Operand.tmp 94), type := 9, pos := "outright.go:137", after := af, guard := some (11, true) }) #[{ on := 16, ground := Ground.data }, { on := 11, ground := Ground.guard }] (by kernel_rfl) [16, 11] (by kernel_rfl) fun af v W hb hd => ?_
    have d11 : v 11 = (Value.bool true) := hd 11 (by decide)
    have d16 : v 16 = (Value.slice AA nn cc) := hd 16 (by decide)
    have e94 := (Reg.gfr_eval (ops := (Reg.opsOf Try.f3 18)) (a0 := a0) (v := v) (L := [16, 11]) 94 16 (by kernel_rfl) (by rw [hsz]; omega)).trans d16
    have e89 := (Reg.gfr_eval (ops := (Reg.opsOf Try.f3 18)) (a0 := a0) (v := v) (L := [16, 11]) 89 11 (by kernel_rfl) (by rw [hsz]; omega)).trans d11
    refine ⟨Reg.wanted_of rfl (by kernel_rfl) e89, ?_⟩
    generalize Reg.gfr (Reg.opsOf Try.f3 18) a0 v [16, 11] = G at e94 ⊢
    generalize hρ : G.eval = ρ at e94
    have hρ' : G.eval = ρ := hρ
    refine Reg.go_run (Value.string ss) W ?_ ?_
    · rw [hρ']; simp [execOp, go_sem, e94, cB W hb]
    · exact ⟨Below.refl _ _, rfl⟩
set_option maxHeartbeats 4000000 in
set_option maxRecDepth 20000 in
theorem nsp_a_h18 :
    Reg.OpOK Try.prog (Reg.opsOf Try.f3 18) a0 w0 (nsp_aR gs nn cc c6 AA A6 xx ff tt mm ss LL) (fun _ _ _ _ => True) 18 := by
    refine Reg.op_ok2 (fun af => { dst := some 96, op := Op.binOp BinOp.eql 9 (Operand.tmp 93) (Operand.tmp 95) 9, type := 4, pos := "outright.go:137", after := af, guard := some (11, true) }) #[{ on := 15, ground := Ground.data }, { on := 17, ground := Ground.data }, { on := 11, ground := Ground.guard }] (by kernel_rfl) [15, 17, 11] (by kernel_rfl) fun af v W hb hd => ?_
    have d11 : v 11 = (Value.bool true) := hd 11 (by decide)
    have d15 : v 15 = (Value.string ss) := hd 15 (by decide)
    have d17 : v 17 = (Value.string ss) := hd 17 (by decide)
    have e93 := (Reg.gfr_eval (ops := (Reg.opsOf Try.f3 18)) (a0 := a0) (v := v) (L := [15, 17, 11]) 93 15 (by kernel_rfl) (by rw [hsz]; omega)).trans d15
    have e95 := (Reg.gfr_eval (ops := (Reg.opsOf Try.f3 18)) (a0 := a0) (v := v) (L := [15, 17, 11]) 95 17 (by kernel_rfl) (by rw [hsz]; omega)).trans d17
    have e89 := (Reg.gfr_eval (ops := (Reg.opsOf Try.f3 18)) (a0 := a0) (v := v) (L := [15, 17, 11]) 89 11 (by kernel_rfl) (by rw [hsz]; omega)).trans d11
    refine ⟨Reg.wanted_of rfl (by kernel_rfl) e89, ?_⟩
    generalize Reg.gfr (Reg.opsOf Try.f3 18) a0 v [15, 17, 11] = G at e93 e95 ⊢
    generalize hρ : G.eval = ρ at e93 e95
    have hρ' : G.eval = ρ := hρ
    refine Reg.go_run (Value.bool true) W ?_ ?_
    · rw [hρ']; simp [execOp, go_sem, e93, e95]
    · exact ⟨Below.refl _ _, rfl⟩
set_option maxHeartbeats 4000000 in
set_option maxRecDepth 20000 in
theorem nsp_a_h19 :
    Reg.OpOK Try.prog (Reg.opsOf Try.f3 18) a0 w0 (nsp_aR gs nn cc c6 AA A6 xx ff tt mm ss LL) (fun _ _ _ _ => True) 19 := by
    refine Reg.op_ok2 (fun af => { dst := some 97, op := Op.pick (Operand.tmp 89) (Operand.tmp 96) (Operand.const (Value.bool false)), type := 4, pos := "outright.go:137", after := af, guard := none }) #[{ on := 11, ground := Ground.data }, { on := 18, ground := Ground.data }] (by kernel_rfl) [11, 18] (by kernel_rfl) fun af v W hb hd => ?_
    have d11 : v 11 = (Value.bool true) := hd 11 (by decide)
    have d18 : v 18 = (Value.bool true) := hd 18 (by decide)
    have e89 := (Reg.gfr_eval (ops := (Reg.opsOf Try.f3 18)) (a0 := a0) (v := v) (L := [11, 18]) 89 11 (by kernel_rfl) (by rw [hsz]; omega)).trans d11
    have e96 := (Reg.gfr_eval (ops := (Reg.opsOf Try.f3 18)) (a0 := a0) (v := v) (L := [11, 18]) 96 18 (by kernel_rfl) (by rw [hsz]; omega)).trans d18
    refine ⟨Reg.wanted_none rfl, ?_⟩
    have eC : ∀ x, (Reg.gfr (Reg.opsOf Try.f3 18) a0 v [11, 18]).eval (.const x) = x := fun _ => rfl
    generalize Reg.gfr (Reg.opsOf Try.f3 18) a0 v [11, 18] = G at e89 e96 eC ⊢
    generalize hρ : G.eval = ρ at e89 e96 eC
    have hρ' : G.eval = ρ := hρ
    refine Reg.go_run (Value.bool true) W ?_ ?_
    · rw [hρ']; simp [execOp, go_sem, e89, e96, eC]
    · exact ⟨Below.refl _ _, rfl⟩
set_option maxHeartbeats 4000000 in
set_option maxRecDepth 20000 in
theorem nsp_a_h20 :
    Reg.OpOK Try.prog (Reg.opsOf Try.f3 18) a0 w0 (nsp_aR gs nn cc c6 AA A6 xx ff tt mm ss LL) (fun _ _ _ _ => True) 20 := by
    refine Reg.op_ok2 (fun af => { dst := some 4, op := Op.assign (Operand.tmp 97), type := 4, pos := "outright.go:137", after := af, guard := none }) #[{ on := 19, ground := Ground.data }, { on := 14, ground := Ground.chain }, { on := 0, ground := Ground.phase }, { on := 1, ground := Ground.phase }, { on := 2, ground := Ground.phase }, { on := 3, ground := Ground.phase }, { on := 4, ground := Ground.phase }, { on := 5, ground := Ground.phase }, { on := 6, ground := Ground.phase }, { on := 7, ground := Ground.phase }, { on := 8, ground := Ground.phase }, { on := 9, ground := Ground.phase }, { on := 10, ground := Ground.phase }, { on := 11, ground := Ground.phase }, { on := 12, ground := Ground.phase }, { on := 13, ground := Ground.phase }, { on := 14, ground := Ground.phase }, { on := 15, ground := Ground.phase }, { on := 16, ground := Ground.phase }, { on := 17, ground := Ground.phase }, { on := 18, ground := Ground.phase }, { on := 19, ground := Ground.phase }] (by kernel_rfl) [19, 14, 0, 1, 2, 3, 4, 5, 6, 7, 8, 9, 10, 11, 12, 13, 14, 15, 16, 17, 18, 19] (by kernel_rfl) fun af v W hb hd => ?_
    have d19 : v 19 = (Value.bool true) := hd 19 (by decide)
    have e97 := (Reg.gfr_eval (ops := (Reg.opsOf Try.f3 18)) (a0 := a0) (v := v) (L := [19, 14, 0, 1, 2, 3, 4, 5, 6, 7, 8, 9, 10, 11, 12, 13, 14, 15, 16, 17, 18, 19]) 97 19 (by kernel_rfl) (by rw [hsz]; omega)).trans d19
    refine ⟨Reg.wanted_none rfl, ?_⟩
    generalize Reg.gfr (Reg.opsOf Try.f3 18) a0 v [19, 14, 0, 1, 2, 3, 4, 5, 6, 7, 8, 9, 10, 11, 12, 13, 14, 15, 16, 17, 18, 19] = G at e97 ⊢
    generalize hρ : G.eval = ρ at e97
    have hρ' : G.eval = ρ := hρ
    refine Reg.go_run (Value.bool true) W ?_ ?_
    · rw [hρ']; simp [execOp, go_sem, e97]
    · exact ⟨Below.refl _ _, rfl⟩
end
set_option maxHeartbeats 4000000 in
set_option maxRecDepth 20000 in
theorem nsp_a (gs nn cc c6 : Nat) (AA A6 : Option Addr) (xx ff tt : Int) (mm : Nat) (ss : ByteArray) (LL : List UInt8) (w0 : World) {s1 s2 s4 s9 s10 s11 s12 s13 s14 s15 s16 s17 s18 s19 s20 s21 s22 s23 s24 s25 s26 s27 s28 s29 s30 s31 s32 s33 s34 s35 s36 s37 s38 s39 s40 s41 s42 s43 s44 s45 s46 s47 s48 s49 s50 s51 s52 s53 s54 s55 s56 s57 s58 s59 s60 s61 s62 s63 s64 s65 s66 s67 s68 s69 s70 s71 s72 s73 s74 s75 s76 s77 s78 s79 s80 s81 s82 s83 s84 s85 s86 s87 s88 s89 s90 s91 s92 s93 s94 s95 s96 s97 : Value}
    (f1 : decide (ff < 0) = true)
    (hsp : ∀ W, Below w0.heap.size w0 W → Calls Try.prog 10 #[Value.slice A6 nn c6, Value.agg #[Value.bool false, Value.int IntKind.i64 xx, Value.int IntKind.u32 (mm : Int)]] W fun e w' => ∃ A_ c_, e = .returned (.slice A_ nn c_) ∧ RdC w' A_ (u8v LL) ∧ Below W.heap.size W w')
    (hc0 : ∀ (W : World) A_ c_, RdC W A_ (u8v LL) → (convert 22 9 (.slice A_ nn c_)).run Try.prog W = .ok (.string ss) W) (cB : ∀ W, Below w0.heap.size w0 W → (convert 22 9 (.slice AA nn cc)).run Try.prog W = .ok (.string ss) W)
    (M_gs : ∀ W, Below w0.heap.size w0 W → W.heap[gs]? = some (.cells #[Value.bool false, Value.int IntKind.i64 xx, Value.int IntKind.u32 (mm : Int)] 25 (0, 0)))
    {Q : Exit → Act → World → Prop}
    (hend : ∀ (w : World) (r92 : Value), Below w0.heap.size w0 w → Q .normal { tmps := #[(Value.slice AA nn cc), s1, s2, (Value.pointer (some ⟨gs, 0, none⟩)), (Value.bool true), (Value.bool true), (Value.slice A6 nn c6), (Value.int IntKind.i64 ff), (Value.int IntKind.i64 tt), s9, s10, s11, s12, s13, s14, s15, s16, s17, s18, s19, s20, s21, s22, s23, s24, s25, s26, s27, s28, s29, s30, s31, s32, s33, s34, s35, s36, s37, s38, s39, s40, s41, s42, s43, s44, s45, s46, s47, s48, s49, s50, s51, s52, s53, s54, s55, s56, s57, s58, s59, s60, s61, s62, s63, s64, s65, s66, s67, s68, s69, s70, s71, s72, s73, s74, s75, s76, s77, (Value.bool true), (Value.bool true), (Value.int IntKind.i64 ff), (Value.bool true), (Value.bool true), undef, undef, undef, undef, (Value.bool true), (Value.bool true), (Value.bool true), (Value.slice A6 nn c6), (Value.agg #[Value.bool false, Value.int IntKind.i64 xx, Value.int IntKind.u32 (mm : Int)]), r92, (Value.string ss), (Value.slice AA nn cc), (Value.string ss), (Value.bool true), (Value.bool true)], defers := [] } w) :
    (Code.region 18 (Reg.opsOf Try.f3 18) true).wp Try.prog Q { tmps := #[(Value.slice AA nn cc), s1, s2, (Value.pointer (some ⟨gs, 0, none⟩)), s4, (Value.bool true), (Value.slice A6 nn c6), (Value.int IntKind.i64 ff), (Value.int IntKind.i64 tt), s9, s10, s11, s12, s13, s14, s15, s16, s17, s18, s19, s20, s21, s22, s23, s24, s25, s26, s27, s28, s29, s30, s31, s32, s33, s34, s35, s36, s37, s38, s39, s40, s41, s42, s43, s44, s45, s46, s47, s48, s49, s50, s51, s52, s53, s54, s55, s56, s57, s58, s59, s60, s61, s62, s63, s64, s65, s66, s67, s68, s69, s70, s71, s72, s73, s74, s75, s76, s77, s78, s79, s80, s81, s82, s83, s84, s85, s86, s87, s88, s89, s90, s91, s92, s93, s94, s95, s96, s97], defers := [] } w0 := by
  obtain ⟨a0, ha0⟩ : ∃ a0 : Act, a0 = { tmps := #[(Value.slice AA nn cc), s1, s2, (Value.pointer (some ⟨gs, 0, none⟩)), s4, (Value.bool true), (Value.slice A6 nn c6), (Value.int IntKind.i64 ff), (Value.int IntKind.i64 tt), s9, s10, s11, s12, s13, s14, s15, s16, s17, s18, s19, s20, s21, s22, s23, s24, s25, s26, s27, s28, s29, s30, s31, s32, s33, s34, s35, s36, s37, s38, s39, s40, s41, s42, s43, s44, s45, s46, s47, s48, s49, s50, s51, s52, s53, s54, s55, s56, s57, s58, s59, s60, s61, s62, s63, s64, s65, s66, s67, s68, s69, s70, s71, s72, s73, s74, s75, s76, s77, s78, s79, s80, s81, s82, s83, s84, s85, s86, s87, s88, s89, s90, s91, s92, s93, s94, s95, s96, s97], defers := [] } := ⟨_, rfl⟩
  have hfin : ∀ v : Nat → Value, Reg.gfr (Reg.opsOf Try.f3 18) a0 v (List.range 21) = { tmps := #[(Value.slice AA nn cc), s1, s2, (Value.pointer (some ⟨gs, 0, none⟩)), v 20, (Value.bool true), (Value.slice A6 nn c6), (Value.int IntKind.i64 ff), (Value.int IntKind.i64 tt), s9, s10, s11, s12, s13, s14, s15, s16, s17, s18, s19, s20, s21, s22, s23, s24, s25, s26, s27, s28, s29, s30, s31, s32, s33, s34, s35, s36, s37, s38, s39, s40, s41, s42, s43, s44, s45, s46, s47, s48, s49, s50, s51, s52, s53, s54, s55, s56, s57, s58, s59, s60, s61, s62, s63, s64, s65, s66, s67, s68, s69, s70, s71, s72, s73, s74, s75, s76, s77, v 0, v 1, v 2, v 3, v 4, v 5, v 6, v 7, v 8, v 9, v 10, v 11, v 12, v 13, v 14, v 15, v 16, v 17, v 18, v 19], defers := [] } := fun v => by rw [ha0]; kernel_rfl
  rw [← ha0]
  have i0 : a0.eval (.tmp 0) = (Value.slice AA nn cc) := by rw [ha0]; rfl
  have i3 : a0.eval (.tmp 3) = (Value.pointer (some ⟨gs, 0, none⟩)) := by rw [ha0]; rfl
  have i5 : a0.eval (.tmp 5) = (Value.bool true) := by rw [ha0]; rfl
  have i6 : a0.eval (.tmp 6) = (Value.slice A6 nn c6) := by rw [ha0]; rfl
  have i7 : a0.eval (.tmp 7) = (Value.int IntKind.i64 ff) := by rw [ha0]; rfl
  have i8 : a0.eval (.tmp 8) = (Value.int IntKind.i64 tt) := by rw [ha0]; rfl
  have hsz : a0.tmps.size = 98 := by rw [ha0]; rfl
  clear ha0
  have hn : (Reg.opsOf Try.f3 18).size = 21 := by kernel_rfl
  have h0 := nsp_a_h0 gs nn cc c6 AA A6 xx ff tt mm ss LL w0 a0 f1 hsp hc0 cB M_gs i0 i3 i5 i6 i7 i8 hsz
  have h1 := nsp_a_h1 gs nn cc c6 AA A6 xx ff tt mm ss LL w0 a0 f1 hsp hc0 cB M_gs i0 i3 i5 i6 i7 i8 hsz
  have h2 := nsp_a_h2 gs nn cc c6 AA A6 xx ff tt mm ss LL w0 a0 f1 hsp hc0 cB M_gs i0 i3 i5 i6 i7 i8 hsz
  have h3 := nsp_a_h3 gs nn cc c6 AA A6 xx ff tt mm ss LL w0 a0 f1 hsp hc0 cB M_gs i0 i3 i5 i6 i7 i8 hsz
  have h4 := nsp_a_h4 gs nn cc c6 AA A6 xx ff tt mm ss LL w0 a0 f1 hsp hc0 cB M_gs i0 i3 i5 i6 i7 i8 hsz
  have h5 := nsp_a_h5 gs nn cc c6 AA A6 xx ff tt mm ss LL w0 a0 f1 hsp hc0 cB M_gs i0 i3 i5 i6 i7 i8 hsz
  have h6 := nsp_a_h6 gs nn cc c6 AA A6 xx ff tt mm ss LL w0 a0 f1 hsp hc0 cB M_gs i0 i3 i5 i6 i7 i8 hsz
  have h7 := nsp_a_h7 gs nn cc c6 AA A6 xx ff tt mm ss LL w0 a0 f1 hsp hc0 cB M_gs i0 i3 i5 i6 i7 i8 hsz
  have h8 := nsp_a_h8 gs nn cc c6 AA A6 xx ff tt mm ss LL w0 a0 f1 hsp hc0 cB M_gs i0 i3 i5 i6 i7 i8 hsz
  have h9 := nsp_a_h9 gs nn cc c6 AA A6 xx ff tt mm ss LL w0 a0 f1 hsp hc0 cB M_gs i0 i3 i5 i6 i7 i8 hsz
  have h10 := nsp_a_h10 gs nn cc c6 AA A6 xx ff tt mm ss LL w0 a0 f1 hsp hc0 cB M_gs i0 i3 i5 i6 i7 i8 hsz
  have h11 := nsp_a_h11 gs nn cc c6 AA A6 xx ff tt mm ss LL w0 a0 f1 hsp hc0 cB M_gs i0 i3 i5 i6 i7 i8 hsz
  have h12 := nsp_a_h12 gs nn cc c6 AA A6 xx ff tt mm ss LL w0 a0 f1 hsp hc0 cB M_gs i0 i3 i5 i6 i7 i8 hsz
  have h13 := nsp_a_h13 gs nn cc c6 AA A6 xx ff tt mm ss LL w0 a0 f1 hsp hc0 cB M_gs i0 i3 i5 i6 i7 i8 hsz
  have h14 := nsp_a_h14 gs nn cc c6 AA A6 xx ff tt mm ss LL w0 a0 f1 hsp hc0 cB M_gs i0 i3 i5 i6 i7 i8 hsz
  have h15 := nsp_a_h15 gs nn cc c6 AA A6 xx ff tt mm ss LL w0 a0 f1 hsp hc0 cB M_gs i0 i3 i5 i6 i7 i8 hsz
  have h16 := nsp_a_h16 gs nn cc c6 AA A6 xx ff tt mm ss LL w0 a0 f1 hsp hc0 cB M_gs i0 i3 i5 i6 i7 i8 hsz
  have h17 := nsp_a_h17 gs nn cc c6 AA A6 xx ff tt mm ss LL w0 a0 f1 hsp hc0 cB M_gs i0 i3 i5 i6 i7 i8 hsz
  have h18 := nsp_a_h18 gs nn cc c6 AA A6 xx ff tt mm ss LL w0 a0 f1 hsp hc0 cB M_gs i0 i3 i5 i6 i7 i8 hsz
  have h19 := nsp_a_h19 gs nn cc c6 AA A6 xx ff tt mm ss LL w0 a0 f1 hsp hc0 cB M_gs i0 i3 i5 i6 i7 i8 hsz
  have h20 := nsp_a_h20 gs nn cc c6 AA A6 xx ff tt mm ss LL w0 a0 f1 hsp hc0 cB M_gs i0 i3 i5 i6 i7 i8 hsz
  refine Reg.region_all (by kernel_rfl) (nsp_aR gs nn cc c6 AA A6 xx ff tt mm ss LL) (by rw [hn, hsz]; kernel_rfl) (nsp_a_stable gs nn cc c6 AA A6 xx ff tt mm ss LL) (fun i hi => ?_) (fun v w hb hR => ?_)
  · rw [hn] at hi
    match i, List.mem_range.1 hi with
    | 0, _ => exact h0
    | 1, _ => exact h1
    | 2, _ => exact h2
    | 3, _ => exact h3
    | 4, _ => exact h4
    | 5, _ => exact h5
    | 6, _ => exact h6
    | 7, _ => exact h7
    | 8, _ => exact h8
    | 9, _ => exact h9
    | 10, _ => exact h10
    | 11, _ => exact h11
    | 12, _ => exact h12
    | 13, _ => exact h13
    | 14, _ => exact h14
    | 15, _ => exact h15
    | 16, _ => exact h16
    | 17, _ => exact h17
    | 18, _ => exact h18
    | 19, _ => exact h19
    | 20, _ => exact h20
    | (_ + 21), h => omega
  · rw [hn] at hR ⊢
    have v0 : v 0 = (Value.bool true) := hR 0 (by decide)
    have v1 : v 1 = (Value.bool true) := hR 1 (by decide)
    have v2 : v 2 = (Value.int IntKind.i64 ff) := hR 2 (by decide)
    have v3 : v 3 = (Value.bool true) := hR 3 (by decide)
    have v4 : v 4 = (Value.bool true) := hR 4 (by decide)
    have v5 : v 5 = undef := hR 5 (by decide)
    have v6 : v 6 = undef := hR 6 (by decide)
    have v7 : v 7 = undef := hR 7 (by decide)
    have v8 : v 8 = undef := hR 8 (by decide)
    have v9 : v 9 = (Value.bool true) := hR 9 (by decide)
    have v10 : v 10 = (Value.bool true) := hR 10 (by decide)
    have v11 : v 11 = (Value.bool true) := hR 11 (by decide)
    have v12 : v 12 = (Value.slice A6 nn c6) := hR 12 (by decide)
    have v13 : v 13 = (Value.agg #[Value.bool false, Value.int IntKind.i64 xx, Value.int IntKind.u32 (mm : Int)]) := hR 13 (by decide)
    have v15 : v 15 = (Value.string ss) := hR 15 (by decide)
    have v16 : v 16 = (Value.slice AA nn cc) := hR 16 (by decide)
    have v17 : v 17 = (Value.string ss) := hR 17 (by decide)
    have v18 : v 18 = (Value.bool true) := hR 18 (by decide)
    have v19 : v 19 = (Value.bool true) := hR 19 (by decide)
    have v20 : v 20 = (Value.bool true) := hR 20 (by decide)
    rw [hfin v, v0, v1, v2, v3, v4, v5, v6, v7, v8, v9, v10, v11, v12, v13, v15, v16, v17, v18, v19, v20]
    exact hend w (v 14) hb 
def nsp_bR (gs nn cc c6 : Nat) (AA A6 : Option Addr) (xx ff tt : Int) (mm : Nat) (ss : ByteArray) (LL : List UInt8) : Nat → Value → World → Prop
  | 0 => fun x_ _ => x_ = (Value.bool true)
  | 1 => fun x_ _ => x_ = (Value.bool true)
  | 2 => fun x_ _ => x_ = (Value.int IntKind.i64 ff)
  | 3 => fun x_ _ => x_ = (Value.bool false)
  | 4 => fun x_ _ => x_ = (Value.bool false)
  | 5 => fun x_ _ => x_ = (Value.int IntKind.i64 tt)
  | 6 => fun x_ _ => x_ = (Value.int IntKind.i64 ff)
  | 7 => fun x_ _ => x_ = (Value.int IntKind.i64 (tt - ff))
  | 8 => fun x_ _ => x_ = (Value.bool true)
  | 9 => fun x_ _ => x_ = (Value.bool true)
  | 10 => fun x_ _ => x_ = (Value.bool true)
  | 11 => fun x_ _ => x_ = (Value.bool true)
  | 12 => fun x_ _ => x_ = (Value.slice A6 nn c6)
  | 13 => fun x_ _ => x_ = (Value.agg #[Value.bool false, Value.int IntKind.i64 xx, Value.int IntKind.u32 (mm : Int)])
  | 14 => (fun u_ w_ => ∃ A_ c_, u_ = Value.slice A_ nn c_ ∧ RdC w_ A_ (u8v LL))
  | 15 => fun x_ _ => x_ = (Value.string ss)
  | 16 => fun x_ _ => x_ = (Value.slice AA nn cc)
  | 17 => fun x_ _ => x_ = (Value.string ss)
  | 18 => fun x_ _ => x_ = (Value.bool true)
  | 19 => fun x_ _ => x_ = (Value.bool true)
  | 20 => fun x_ _ => x_ = (Value.bool true)
  | _ => fun _ _ => True
theorem nsp_b_stable (gs nn cc c6 : Nat) (AA A6 : Option Addr) (xx ff tt : Int) (mm : Nat) (ss : ByteArray) (LL : List UInt8) : ∀ i_ u_ w_ w_', (nsp_bR gs nn cc c6 AA A6 xx ff tt mm ss LL) i_ u_ w_ → Below w_.heap.size w_ w_' → (nsp_bR gs nn cc c6 AA A6 xx ff tt mm ss LL) i_ u_ w_' := fun i_ u_ w_ w_' h_ hb_ => by
  match i_, h_ with
  | 0, h_ => exact h_
  | 1, h_ => exact h_
  | 2, h_ => exact h_
  | 3, h_ => exact h_
  | 4, h_ => exact h_
  | 5, h_ => exact h_
  | 6, h_ => exact h_
  | 7, h_ => exact h_
  | 8, h_ => exact h_
  | 9, h_ => exact h_
  | 10, h_ => exact h_
  | 11, h_ => exact h_
  | 12, h_ => exact h_
  | 13, h_ => exact h_
  | 14, h_ => exact ((by obtain ⟨A_, c_, h1_, h2_⟩ := h_; exact ⟨A_, c_, h1_, h2_.below hb_⟩))
  | 15, h_ => exact h_
  | 16, h_ => exact h_
  | 17, h_ => exact h_
  | 18, h_ => exact h_
  | 19, h_ => exact h_
  | 20, h_ => exact h_
  | (_ + 21), _ => trivial
section
variable (gs nn cc c6 : Nat) (AA A6 : Option Addr) (xx ff tt : Int) (mm : Nat) (ss : ByteArray) (LL : List UInt8) (w0 : World) (a0 : Act)
variable (f1 : decide (ff < 0) = false) (f3 : IntKind.i64.wrap (tt - ff) = tt - ff) (f4 : decide (tt - ff < 4) = true)
variable (hsp : ∀ W, Below w0.heap.size w0 W → Calls Try.prog 10 #[Value.slice A6 nn c6, Value.agg #[Value.bool false, Value.int IntKind.i64 xx, Value.int IntKind.u32 (mm : Int)]] W fun e w' => ∃ A_ c_, e = .returned (.slice A_ nn c_) ∧ RdC w' A_ (u8v LL) ∧ Below W.heap.size W w')
variable (hc0 : ∀ (W : World) A_ c_, RdC W A_ (u8v LL) → (convert 22 9 (.slice A_ nn c_)).run Try.prog W = .ok (.string ss) W) (cB : ∀ W, Below w0.heap.size w0 W → (convert 22 9 (.slice AA nn cc)).run Try.prog W = .ok (.string ss) W)
variable (M_gs : ∀ W, Below w0.heap.size w0 W → W.heap[gs]? = some (.cells #[Value.bool false, Value.int IntKind.i64 xx, Value.int IntKind.u32 (mm : Int)] 25 (0, 0)))
variable (i0 : a0.eval (.tmp 0) = (Value.slice AA nn cc)) (i3 : a0.eval (.tmp 3) = (Value.pointer (some ⟨gs, 0, none⟩))) (i5 : a0.eval (.tmp 5) = (Value.bool true)) (i6 : a0.eval (.tmp 6) = (Value.slice A6 nn c6)) (i7 : a0.eval (.tmp 7) = (Value.int IntKind.i64 ff)) (i8 : a0.eval (.tmp 8) = (Value.int IntKind.i64 tt)) (hsz : a0.tmps.size = 98)
include gs nn cc c6 AA A6 xx ff tt mm ss LL w0 a0 f1 f3 f4 hsp hc0 cB M_gs i0 i3 i5 i6 i7 i8 hsz
set_option maxHeartbeats 4000000 in
set_option maxRecDepth 20000 in
theorem nsp_b_h0 :
    Reg.OpOK Try.prog (Reg.opsOf Try.f3 18) a0 w0 (nsp_bR gs nn cc c6 AA A6 xx ff tt mm ss LL) (fun _ _ _ _ => True) 0 := by
    refine Reg.op_ok2 (fun af => { dst := some 78, op := Op.move (Operand.tmp 5), type := 4, pos := "outright.go:137", after := af, guard := none }) #[] (by kernel_rfl) [] (by kernel_rfl) fun af v W hb hd => ?_
    have e5 := (Reg.gfr_eval0 (ops := (Reg.opsOf Try.f3 18)) (a0 := a0) (v := v) (L := []) 5 (by kernel_rfl)).trans i5
    refine ⟨Reg.wanted_none rfl, ?_⟩
    generalize Reg.gfr (Reg.opsOf Try.f3 18) a0 v [] = G at e5 ⊢
    generalize hρ : G.eval = ρ at e5
    have hρ' : G.eval = ρ := hρ
    refine Reg.go_run (Value.bool true) W ?_ ?_
    · rw [hρ']; simp [execOp, go_sem, e5]
    · exact ⟨Below.refl _ _, rfl⟩
set_option maxHeartbeats 4000000 in
set_option maxRecDepth 20000 in
theorem nsp_b_h1 :
    Reg.OpOK Try.prog (Reg.opsOf Try.f3 18) a0 w0 (nsp_bR gs nn cc c6 AA A6 xx ff tt mm ss LL) (fun _ _ _ _ => True) 1 := by
    refine Reg.op_ok2 (fun af => { dst := some 79, op := Op.move (Operand.tmp 78), type := 4, pos := "outright.go:137", after := af, guard := none }) #[{ on := 0, ground := Ground.data }] (by kernel_rfl) [0] (by kernel_rfl) fun af v W hb hd => ?_
    have d0 : v 0 = (Value.bool true) := hd 0 (by decide)
    have e78 := (Reg.gfr_eval (ops := (Reg.opsOf Try.f3 18)) (a0 := a0) (v := v) (L := [0]) 78 0 (by kernel_rfl) (by rw [hsz]; omega)).trans d0
    refine ⟨Reg.wanted_none rfl, ?_⟩
    generalize Reg.gfr (Reg.opsOf Try.f3 18) a0 v [0] = G at e78 ⊢
    generalize hρ : G.eval = ρ at e78
    have hρ' : G.eval = ρ := hρ
    refine Reg.go_run (Value.bool true) W ?_ ?_
    · rw [hρ']; simp [execOp, go_sem, e78]
    · exact ⟨Below.refl _ _, rfl⟩
set_option maxHeartbeats 4000000 in
set_option maxRecDepth 20000 in
theorem nsp_b_h2 :
    Reg.OpOK Try.prog (Reg.opsOf Try.f3 18) a0 w0 (nsp_bR gs nn cc c6 AA A6 xx ff tt mm ss LL) (fun _ _ _ _ => True) 2 := by
    refine Reg.op_ok2 (fun af => { dst := some 80, op := Op.move (Operand.tmp 7), type := 3, pos := "outright.go:137", after := af, guard := some (1, true) }) #[{ on := 1, ground := Ground.guard }] (by kernel_rfl) [1] (by kernel_rfl) fun af v W hb hd => ?_
    have d1 : v 1 = (Value.bool true) := hd 1 (by decide)
    have e7 := (Reg.gfr_eval0 (ops := (Reg.opsOf Try.f3 18)) (a0 := a0) (v := v) (L := [1]) 7 (by kernel_rfl)).trans i7
    have e79 := (Reg.gfr_eval (ops := (Reg.opsOf Try.f3 18)) (a0 := a0) (v := v) (L := [1]) 79 1 (by kernel_rfl) (by rw [hsz]; omega)).trans d1
    refine ⟨Reg.wanted_of rfl (by kernel_rfl) e79, ?_⟩
    generalize Reg.gfr (Reg.opsOf Try.f3 18) a0 v [1] = G at e7 ⊢
    generalize hρ : G.eval = ρ at e7
    have hρ' : G.eval = ρ := hρ
    refine Reg.go_run (Value.int IntKind.i64 ff) W ?_ ?_
    · rw [hρ']; simp [execOp, go_sem, e7]
    · exact ⟨Below.refl _ _, rfl⟩
set_option maxHeartbeats 4000000 in
set_option maxRecDepth 20000 in
theorem nsp_b_h3 :
    Reg.OpOK Try.prog (Reg.opsOf Try.f3 18) a0 w0 (nsp_bR gs nn cc c6 AA A6 xx ff tt mm ss LL) (fun _ _ _ _ => True) 3 := by
    refine Reg.op_ok2 (fun af => { dst := some 81, op := Op.binOp BinOp.lss 3 (Operand.tmp 80) (Operand.const (Value.int IntKind.i64 0)) 3, type := 4, pos := "outright.go:137", after := af, guard := some (1, true) }) #[{ on := 2, ground := Ground.data }, { on := 1, ground := Ground.guard }] (by kernel_rfl) [2, 1] (by kernel_rfl) fun af v W hb hd => ?_
    have d1 : v 1 = (Value.bool true) := hd 1 (by decide)
    have d2 : v 2 = (Value.int IntKind.i64 ff) := hd 2 (by decide)
    have e80 := (Reg.gfr_eval (ops := (Reg.opsOf Try.f3 18)) (a0 := a0) (v := v) (L := [2, 1]) 80 2 (by kernel_rfl) (by rw [hsz]; omega)).trans d2
    have e79 := (Reg.gfr_eval (ops := (Reg.opsOf Try.f3 18)) (a0 := a0) (v := v) (L := [2, 1]) 79 1 (by kernel_rfl) (by rw [hsz]; omega)).trans d1
    refine ⟨Reg.wanted_of rfl (by kernel_rfl) e79, ?_⟩
    have eC : ∀ x, (Reg.gfr (Reg.opsOf Try.f3 18) a0 v [2, 1]).eval (.const x) = x := fun _ => rfl
    generalize Reg.gfr (Reg.opsOf Try.f3 18) a0 v [2, 1] = G at e80 eC ⊢
    generalize hρ : G.eval = ρ at e80 eC
    have hρ' : G.eval = ρ := hρ
    refine Reg.go_run (Value.bool false) W ?_ ?_
    · rw [hρ']; simp [execOp, go_sem, e80, eC, f1]
    · exact ⟨Below.refl _ _, rfl⟩
set_option maxHeartbeats 4000000 in
set_option maxRecDepth 20000 in
theorem nsp_b_h4 :
    Reg.OpOK Try.prog (Reg.opsOf Try.f3 18) a0 w0 (nsp_bR gs nn cc c6 AA A6 xx ff tt mm ss LL) (fun _ _ _ _ => True) 4 := by
    refine Reg.op_ok2 (fun af => { dst := some 82, op := Op.move (Operand.tmp 81), type := 4, pos := "outright.go:137", after := af, guard := some (1, true) }) #[{ on := 3, ground := Ground.data }, { on := 1, ground := Ground.chain }, { on := 1, ground := Ground.guard }] (by kernel_rfl) [3, 1, 1] (by kernel_rfl) fun af v W hb hd => ?_
    have d1 : v 1 = (Value.bool true) := hd 1 (by decide)
    have d3 : v 3 = (Value.bool false) := hd 3 (by decide)
    have e81 := (Reg.gfr_eval (ops := (Reg.opsOf Try.f3 18)) (a0 := a0) (v := v) (L := [3, 1, 1]) 81 3 (by kernel_rfl) (by rw [hsz]; omega)).trans d3
    have e79 := (Reg.gfr_eval (ops := (Reg.opsOf Try.f3 18)) (a0 := a0) (v := v) (L := [3, 1, 1]) 79 1 (by kernel_rfl) (by rw [hsz]; omega)).trans d1
    refine ⟨Reg.wanted_of rfl (by kernel_rfl) e79, ?_⟩
    generalize Reg.gfr (Reg.opsOf Try.f3 18) a0 v [3, 1, 1] = G at e81 ⊢
    generalize hρ : G.eval = ρ at e81
    have hρ' : G.eval = ρ := hρ
    refine Reg.go_run (Value.bool false) W ?_ ?_
    · rw [hρ']; simp [execOp, go_sem, e81]
    · exact ⟨Below.refl _ _, rfl⟩
set_option maxHeartbeats 4000000 in
set_option maxRecDepth 20000 in
theorem nsp_b_h5 :
    Reg.OpOK Try.prog (Reg.opsOf Try.f3 18) a0 w0 (nsp_bR gs nn cc c6 AA A6 xx ff tt mm ss LL) (fun _ _ _ _ => True) 5 := by
    refine Reg.op_ok2 (fun af => { dst := some 83, op := Op.move (Operand.tmp 8), type := 3, pos := "outright.go:137", after := af, guard := some (4, false) }) #[{ on := 4, ground := Ground.guard }] (by kernel_rfl) [4] (by kernel_rfl) fun af v W hb hd => ?_
    have d4 : v 4 = (Value.bool false) := hd 4 (by decide)
    have e8 := (Reg.gfr_eval0 (ops := (Reg.opsOf Try.f3 18)) (a0 := a0) (v := v) (L := [4]) 8 (by kernel_rfl)).trans i8
    have e82 := (Reg.gfr_eval (ops := (Reg.opsOf Try.f3 18)) (a0 := a0) (v := v) (L := [4]) 82 4 (by kernel_rfl) (by rw [hsz]; omega)).trans d4
    refine ⟨Reg.wanted_of rfl (by kernel_rfl) e82, ?_⟩
    generalize Reg.gfr (Reg.opsOf Try.f3 18) a0 v [4] = G at e8 ⊢
    generalize hρ : G.eval = ρ at e8
    have hρ' : G.eval = ρ := hρ
    refine Reg.go_run (Value.int IntKind.i64 tt) W ?_ ?_
    · rw [hρ']; simp [execOp, go_sem, e8]
    · exact ⟨Below.refl _ _, rfl⟩
set_option maxHeartbeats 4000000 in
set_option maxRecDepth 20000 in
theorem nsp_b_h6 :
    Reg.OpOK Try.prog (Reg.opsOf Try.f3 18) a0 w0 (nsp_bR gs nn cc c6 AA A6 xx ff tt mm ss LL) (fun _ _ _ _ => True) 6 := by
    refine Reg.op_ok2 (fun af => { dst := some 84, op := Op.move (Operand.tmp 7), type := 3, pos := "outright.go:137", after := af, guard := some (4, false) }) #[{ on := 4, ground := Ground.guard }] (by kernel_rfl) [4] (by kernel_rfl) fun af v W hb hd => ?_
    have d4 : v 4 = (Value.bool false) := hd 4 (by decide)
    have e7 := (Reg.gfr_eval0 (ops := (Reg.opsOf Try.f3 18)) (a0 := a0) (v := v) (L := [4]) 7 (by kernel_rfl)).trans i7
    have e82 := (Reg.gfr_eval (ops := (Reg.opsOf Try.f3 18)) (a0 := a0) (v := v) (L := [4]) 82 4 (by kernel_rfl) (by rw [hsz]; omega)).trans d4
    refine ⟨Reg.wanted_of rfl (by kernel_rfl) e82, ?_⟩
    generalize Reg.gfr (Reg.opsOf Try.f3 18) a0 v [4] = G at e7 ⊢
    generalize hρ : G.eval = ρ at e7
    have hρ' : G.eval = ρ := hρ
    refine Reg.go_run (Value.int IntKind.i64 ff) W ?_ ?_
    · rw [hρ']; simp [execOp, go_sem, e7]
    · exact ⟨Below.refl _ _, rfl⟩
set_option maxHeartbeats 4000000 in
set_option maxRecDepth 20000 in
theorem nsp_b_h7 :
    Reg.OpOK Try.prog (Reg.opsOf Try.f3 18) a0 w0 (nsp_bR gs nn cc c6 AA A6 xx ff tt mm ss LL) (fun _ _ _ _ => True) 7 := by
    refine Reg.op_ok2 (fun af => { dst := some 85, op := Op.binOp BinOp.sub 3 (Operand.tmp 83) (Operand.tmp 84) 3, type := 3, pos := "outright.go:137", after := af, guard := some (4, false) }) #[{ on := 5, ground := Ground.data }, { on := 6, ground := Ground.data }, { on := 4, ground := Ground.guard }] (by kernel_rfl) [5, 6, 4] (by kernel_rfl) fun af v W hb hd => ?_
    have d4 : v 4 = (Value.bool false) := hd 4 (by decide)
    have d5 : v 5 = (Value.int IntKind.i64 tt) := hd 5 (by decide)
    have d6 : v 6 = (Value.int IntKind.i64 ff) := hd 6 (by decide)
    have e83 := (Reg.gfr_eval (ops := (Reg.opsOf Try.f3 18)) (a0 := a0) (v := v) (L := [5, 6, 4]) 83 5 (by kernel_rfl) (by rw [hsz]; omega)).trans d5
    have e84 := (Reg.gfr_eval (ops := (Reg.opsOf Try.f3 18)) (a0 := a0) (v := v) (L := [5, 6, 4]) 84 6 (by kernel_rfl) (by rw [hsz]; omega)).trans d6
    have e82 := (Reg.gfr_eval (ops := (Reg.opsOf Try.f3 18)) (a0 := a0) (v := v) (L := [5, 6, 4]) 82 4 (by kernel_rfl) (by rw [hsz]; omega)).trans d4
    refine ⟨Reg.wanted_of rfl (by kernel_rfl) e82, ?_⟩
    generalize Reg.gfr (Reg.opsOf Try.f3 18) a0 v [5, 6, 4] = G at e83 e84 ⊢
    generalize hρ : G.eval = ρ at e83 e84
    have hρ' : G.eval = ρ := hρ
    refine Reg.go_run (Value.int IntKind.i64 (tt - ff)) W ?_ ?_
    · rw [hρ']; simp [execOp, go_sem, e83, e84, f3]
    · exact ⟨Below.refl _ _, rfl⟩
set_option maxHeartbeats 4000000 in
set_option maxRecDepth 20000 in
theorem nsp_b_h8 :
    Reg.OpOK Try.prog (Reg.opsOf Try.f3 18) a0 w0 (nsp_bR gs nn cc c6 AA A6 xx ff tt mm ss LL) (fun _ _ _ _ => True) 8 := by
    refine Reg.op_ok2 (fun af => { dst := some 86, op := Op.binOp BinOp.lss 3 (Operand.tmp 85) (Operand.const (Value.int IntKind.i64 4)) 3, type := 4, pos := "outright.go:137", after := af, guard := some (4, false) }) #[{ on := 7, ground := Ground.data }, { on := 4, ground := Ground.guard }] (by kernel_rfl) [7, 4] (by kernel_rfl) fun af v W hb hd => ?_
    have d4 : v 4 = (Value.bool false) := hd 4 (by decide)
    have d7 : v 7 = (Value.int IntKind.i64 (tt - ff)) := hd 7 (by decide)
    have e85 := (Reg.gfr_eval (ops := (Reg.opsOf Try.f3 18)) (a0 := a0) (v := v) (L := [7, 4]) 85 7 (by kernel_rfl) (by rw [hsz]; omega)).trans d7
    have e82 := (Reg.gfr_eval (ops := (Reg.opsOf Try.f3 18)) (a0 := a0) (v := v) (L := [7, 4]) 82 4 (by kernel_rfl) (by rw [hsz]; omega)).trans d4
    refine ⟨Reg.wanted_of rfl (by kernel_rfl) e82, ?_⟩
    have eC : ∀ x, (Reg.gfr (Reg.opsOf Try.f3 18) a0 v [7, 4]).eval (.const x) = x := fun _ => rfl
    generalize Reg.gfr (Reg.opsOf Try.f3 18) a0 v [7, 4] = G at e85 eC ⊢
    generalize hρ : G.eval = ρ at e85 eC
    have hρ' : G.eval = ρ := hρ
    refine Reg.go_run (Value.bool true) W ?_ ?_
    · rw [hρ']; simp [execOp, go_sem, e85, eC, f4]
    · exact ⟨Below.refl _ _, rfl⟩
set_option maxHeartbeats 4000000 in
set_option maxRecDepth 20000 in
theorem nsp_b_h9 :
    Reg.OpOK Try.prog (Reg.opsOf Try.f3 18) a0 w0 (nsp_bR gs nn cc c6 AA A6 xx ff tt mm ss LL) (fun _ _ _ _ => True) 9 := by
    refine Reg.op_ok2 (fun af => { dst := some 87, op := Op.pick (Operand.tmp 82) (Operand.const (Value.bool true)) (Operand.tmp 86), type := 4, pos := "outright.go:137", after := af, guard := some (1, true) }) #[{ on := 4, ground := Ground.data }, { on := 8, ground := Ground.data }, { on := 1, ground := Ground.guard }] (by kernel_rfl) [4, 8, 1] (by kernel_rfl) fun af v W hb hd => ?_
    have d1 : v 1 = (Value.bool true) := hd 1 (by decide)
    have d4 : v 4 = (Value.bool false) := hd 4 (by decide)
    have d8 : v 8 = (Value.bool true) := hd 8 (by decide)
    have e82 := (Reg.gfr_eval (ops := (Reg.opsOf Try.f3 18)) (a0 := a0) (v := v) (L := [4, 8, 1]) 82 4 (by kernel_rfl) (by rw [hsz]; omega)).trans d4
    have e86 := (Reg.gfr_eval (ops := (Reg.opsOf Try.f3 18)) (a0 := a0) (v := v) (L := [4, 8, 1]) 86 8 (by kernel_rfl) (by rw [hsz]; omega)).trans d8
    have e79 := (Reg.gfr_eval (ops := (Reg.opsOf Try.f3 18)) (a0 := a0) (v := v) (L := [4, 8, 1]) 79 1 (by kernel_rfl) (by rw [hsz]; omega)).trans d1
    refine ⟨Reg.wanted_of rfl (by kernel_rfl) e79, ?_⟩
    have eC : ∀ x, (Reg.gfr (Reg.opsOf Try.f3 18) a0 v [4, 8, 1]).eval (.const x) = x := fun _ => rfl
    generalize Reg.gfr (Reg.opsOf Try.f3 18) a0 v [4, 8, 1] = G at e82 e86 eC ⊢
    generalize hρ : G.eval = ρ at e82 e86 eC
    have hρ' : G.eval = ρ := hρ
    refine Reg.go_run (Value.bool true) W ?_ ?_
    · rw [hρ']; simp [execOp, go_sem, e82, e86, eC]
    · exact ⟨Below.refl _ _, rfl⟩
set_option maxHeartbeats 4000000 in
set_option maxRecDepth 20000 in
theorem nsp_b_h10 :
    Reg.OpOK Try.prog (Reg.opsOf Try.f3 18) a0 w0 (nsp_bR gs nn cc c6 AA A6 xx ff tt mm ss LL) (fun _ _ _ _ => True) 10 := by
    refine Reg.op_ok2 (fun af => { dst := some 88, op := Op.pick (Operand.tmp 79) (Operand.tmp 87) (Operand.const (Value.bool false)), type := 4, pos := "outright.go:137", after := af, guard := none }) #[{ on := 1, ground := Ground.data }, { on := 9, ground := Ground.data }] (by kernel_rfl) [1, 9] (by kernel_rfl) fun af v W hb hd => ?_
    have d1 : v 1 = (Value.bool true) := hd 1 (by decide)
    have d9 : v 9 = (Value.bool true) := hd 9 (by decide)
    have e79 := (Reg.gfr_eval (ops := (Reg.opsOf Try.f3 18)) (a0 := a0) (v := v) (L := [1, 9]) 79 1 (by kernel_rfl) (by rw [hsz]; omega)).trans d1
    have e87 := (Reg.gfr_eval (ops := (Reg.opsOf Try.f3 18)) (a0 := a0) (v := v) (L := [1, 9]) 87 9 (by kernel_rfl) (by rw [hsz]; omega)).trans d9
    refine ⟨Reg.wanted_none rfl, ?_⟩
    have eC : ∀ x, (Reg.gfr (Reg.opsOf Try.f3 18) a0 v [1, 9]).eval (.const x) = x := fun _ => rfl
    generalize Reg.gfr (Reg.opsOf Try.f3 18) a0 v [1, 9] = G at e79 e87 eC ⊢
    generalize hρ : G.eval = ρ at e79 e87 eC
    have hρ' : G.eval = ρ := hρ
    refine Reg.go_run (Value.bool true) W ?_ ?_
    · rw [hρ']; simp [execOp, go_sem, e79, e87, eC]
    · exact ⟨Below.refl _ _, rfl⟩
set_option maxHeartbeats 4000000 in
set_option maxRecDepth 20000 in
theorem nsp_b_h11 :
    Reg.OpOK Try.prog (Reg.opsOf Try.f3 18) a0 w0 (nsp_bR gs nn cc c6 AA A6 xx ff tt mm ss LL) (fun _ _ _ _ => True) 11 := by
    refine Reg.op_ok2 (fun af => { dst := some 89, op := Op.move (Operand.tmp 88), type := 4, pos := "outright.go:137", after := af, guard := none }) #[{ on := 10, ground := Ground.data }, { on := 4, ground := Ground.chain }] (by kernel_rfl) [10, 4] (by kernel_rfl) fun af v W hb hd => ?_
    have d10 : v 10 = (Value.bool true) := hd 10 (by decide)
    have e88 := (Reg.gfr_eval (ops := (Reg.opsOf Try.f3 18)) (a0 := a0) (v := v) (L := [10, 4]) 88 10 (by kernel_rfl) (by rw [hsz]; omega)).trans d10
    refine ⟨Reg.wanted_none rfl, ?_⟩
    generalize Reg.gfr (Reg.opsOf Try.f3 18) a0 v [10, 4] = G at e88 ⊢
    generalize hρ : G.eval = ρ at e88
    have hρ' : G.eval = ρ := hρ
    refine Reg.go_run (Value.bool true) W ?_ ?_
    · rw [hρ']; simp [execOp, go_sem, e88]
    · exact ⟨Below.refl _ _, rfl⟩
set_option maxHeartbeats 4000000 in
set_option maxRecDepth 20000 in
theorem nsp_b_h12 :
    Reg.OpOK Try.prog (Reg.opsOf Try.f3 18) a0 w0 (nsp_bR gs nn cc c6 AA A6 xx ff tt mm ss LL) (fun _ _ _ _ => True) 12 := by
    refine Reg.op_ok2 (fun af => { dst := some 90, op := Op.move (Operand.tmp 6), type := 22, pos := "outright.go:137", after := af, guard := some (11, true) }) #[{ on := 11, ground := Ground.guard }] (by kernel_rfl) [11] (by kernel_rfl) fun af v W hb hd => ?_
    have d11 : v 11 = (Value.bool true) := hd 11 (by decide)
    have e6 := (Reg.gfr_eval0 (ops := (Reg.opsOf Try.f3 18)) (a0 := a0) (v := v) (L := [11]) 6 (by kernel_rfl)).trans i6
    have e89 := (Reg.gfr_eval (ops := (Reg.opsOf Try.f3 18)) (a0 := a0) (v := v) (L := [11]) 89 11 (by kernel_rfl) (by rw [hsz]; omega)).trans d11
    refine ⟨Reg.wanted_of rfl (by kernel_rfl) e89, ?_⟩
    generalize Reg.gfr (Reg.opsOf Try.f3 18) a0 v [11] = G at e6 ⊢
    generalize hρ : G.eval = ρ at e6
    have hρ' : G.eval = ρ := hρ
    refine Reg.go_run (Value.slice A6 nn c6) W ?_ ?_
    · rw [hρ']; simp [execOp, go_sem, e6]
    · exact ⟨Below.refl _ _, rfl⟩
set_option maxHeartbeats 4000000 in
set_option maxRecDepth 20000 in
theorem nsp_b_h13 :
    Reg.OpOK Try.prog (Reg.opsOf Try.f3 18) a0 w0 (nsp_bR gs nn cc c6 AA A6 xx ff tt mm ss LL) (fun _ _ _ _ => True) 13 := by
    refine Reg.op_ok2 (fun af => { dst := some 91, op := Op.load 25 (Operand.tmp 3), type := 25, pos := "outright.go:137", after := af, guard := some (11, true) }) #[{ on := 11, ground := Ground.guard }] (by kernel_rfl) [11] (by kernel_rfl) fun af v W hb hd => ?_
    have d11 : v 11 = (Value.bool true) := hd 11 (by decide)
    have e3 := (Reg.gfr_eval0 (ops := (Reg.opsOf Try.f3 18)) (a0 := a0) (v := v) (L := [11]) 3 (by kernel_rfl)).trans i3
    have e89 := (Reg.gfr_eval (ops := (Reg.opsOf Try.f3 18)) (a0 := a0) (v := v) (L := [11]) 89 11 (by kernel_rfl) (by rw [hsz]; omega)).trans d11
    refine ⟨Reg.wanted_of rfl (by kernel_rfl) e89, ?_⟩
    generalize Reg.gfr (Reg.opsOf Try.f3 18) a0 v [11] = G at e3 ⊢
    generalize hρ : G.eval = ρ at e3
    have hρ' : G.eval = ρ := hρ
    exact fun K hK => wp_load_row 25 (.tmp 3) rfl gs (by rw [hρ']; exact e3) 25 #[Value.bool false, Value.int IntKind.i64 xx, Value.int IntKind.u32 (mm : Int)] (0, 0) _ (M_gs W hb) Try.underlying25 rfl size_sp (hK _ _ ⟨Below.refl _ _, rfl⟩)
set_option maxHeartbeats 4000000 in
set_option maxRecDepth 20000 in
theorem nsp_b_h14 :
    Reg.OpOK Try.prog (Reg.opsOf Try.f3 18) a0 w0 (nsp_bR gs nn cc c6 AA A6 xx ff tt mm ss LL) (fun _ _ _ _ => True) 14 := by
    refine Reg.op_ok2 (fun af => { dst := some 92, op := Op.call { callee := Callee.value (Operand.func 10), args := #[Operand.tmp 90, Operand.tmp 91], argTypes := #[22, 25] }, type := 22, pos := "outright.go:137", after := af, guard := some (11, true) }) #[{ on := 12, ground := Ground.data }, { on := 13, ground := Ground.data }, { on := 11, ground := Ground.chain }, { on := 11, ground := Ground.guard }] (by kernel_rfl) [12, 13, 11, 11] (by kernel_rfl) fun af v W hb hd => ?_
    have d11 : v 11 = (Value.bool true) := hd 11 (by decide)
    have d12 : v 12 = (Value.slice A6 nn c6) := hd 12 (by decide)
    have d13 : v 13 = (Value.agg #[Value.bool false, Value.int IntKind.i64 xx, Value.int IntKind.u32 (mm : Int)]) := hd 13 (by decide)
    have e90 := (Reg.gfr_eval (ops := (Reg.opsOf Try.f3 18)) (a0 := a0) (v := v) (L := [12, 13, 11, 11]) 90 12 (by kernel_rfl) (by rw [hsz]; omega)).trans d12
    have e91 := (Reg.gfr_eval (ops := (Reg.opsOf Try.f3 18)) (a0 := a0) (v := v) (L := [12, 13, 11, 11]) 91 13 (by kernel_rfl) (by rw [hsz]; omega)).trans d13
    have e89 := (Reg.gfr_eval (ops := (Reg.opsOf Try.f3 18)) (a0 := a0) (v := v) (L := [12, 13, 11, 11]) 89 11 (by kernel_rfl) (by rw [hsz]; omega)).trans d11
    refine ⟨Reg.wanted_of rfl (by kernel_rfl) e89, ?_⟩
    have eF : ∀ f, (Reg.gfr (Reg.opsOf Try.f3 18) a0 v [12, 13, 11, 11]).eval (.func f) = .func (.func f) #[] #[] := fun _ => rfl
    generalize Reg.gfr (Reg.opsOf Try.f3 18) a0 v [12, 13, 11, 11] = G at e90 e91 eF ⊢
    generalize hρ : G.eval = ρ at e90 e91 eF
    have hρ' : G.eval = ρ := hρ
    refine Reg.go_call 10 #[(Value.slice A6 nn c6), (Value.agg #[Value.bool false, Value.int IntKind.i64 xx, Value.int IntKind.u32 (mm : Int)])] (by rw [hρ']; simp [execOp, go_sem, e90, e91, eF]) ((hsp W hb).mono fun e w' he => ?_)
    obtain ⟨A_, c_, rfl, ho_, hb_⟩ := he
    exact ⟨_, rfl, hb_, ⟨A_, c_, rfl, ho_⟩⟩
set_option maxHeartbeats 4000000 in
set_option maxRecDepth 20000 in
theorem nsp_b_h15 :
    Reg.OpOK Try.prog (Reg.opsOf Try.f3 18) a0 w0 (nsp_bR gs nn cc c6 AA A6 xx ff tt mm ss LL) (fun _ _ _ _ => True) 15 := by
    refine Reg.op_ok2 (fun af => { dst := some 93, op := Op.convert 22 9 (Operand.tmp 92), type := 9, pos := "outright.go:137", after := af, guard := some (11, true) }) #[{ on := 14, ground := Ground.data }, { on := 11, ground := Ground.guard }] (by kernel_rfl) [14, 11] (by kernel_rfl) fun af v W hb hd => ?_
    have d11 : v 11 = (Value.bool true) := hd 11 (by decide)
    have d14 : ((fun u_ w_ => ∃ A_ c_, u_ = Value.slice A_ nn c_ ∧ RdC w_ A_ (u8v LL))) (v 14) W := hd 14 (by decide)
    have e92 := Reg.gfr_eval (ops := (Reg.opsOf Try.f3 18)) (a0 := a0) (v := v) (L := [14, 11]) 92 14 (by kernel_rfl) (by rw [hsz]; omega)
    have e89 := (Reg.gfr_eval (ops := (Reg.opsOf Try.f3 18)) (a0 := a0) (v := v) (L := [14, 11]) 89 11 (by kernel_rfl) (by rw [hsz]; omega)).trans d11
    refine ⟨Reg.wanted_of rfl (by kernel_rfl) e89, ?_⟩
    generalize Reg.gfr (Reg.opsOf Try.f3 18) a0 v [14, 11] = G at e92 ⊢
    generalize hρ : G.eval = ρ at e92
    have hρ' : G.eval = ρ := hρ
    obtain ⟨A_, c_, hv_, hr_⟩ := d14
    rw [hv_] at e92
    refine Reg.go_run (Value.string ss) W (by rw [hρ']; simp [execOp, go_sem, e92, hc0 W A_ c_ hr_]) ⟨Below.refl _ _, rfl⟩
set_option maxHeartbeats 4000000 in
set_option maxRecDepth 20000 in
theorem nsp_b_h16 :
    Reg.OpOK Try.prog (Reg.opsOf Try.f3 18) a0 w0 (nsp_bR gs nn cc c6 AA A6 xx ff tt mm ss LL) (fun _ _ _ _ => True) 16 := by
    refine Reg.op_ok2 (fun af => { dst := some 94, op := Op.move (Operand.tmp 0), type := 22, pos := "outright.go:137", after := af, guard := some (11, true) }) #[{ on := 11, ground := Ground.guard }] (by kernel_rfl) [11] (by kernel_rfl) fun af v W hb hd => ?_
    have d11 : v 11 = (Value.bool true) := hd 11 (by decide)
    have e0 := (Reg.gfr_eval0 (ops := (Reg.opsOf Try.f3 18)) (a0 := a0) (v := v) (L := [11]) 0 (by kernel_rfl)).trans i0
    have e89 := (Reg.gfr_eval (ops := (Reg.opsOf Try.f3 18)) (a0 := a0) (v := v) (L := [11]) 89 11 (by kernel_rfl) (by rw [hsz]; omega)).trans d11
    refine ⟨Reg.wanted_of rfl (by kernel_rfl) e89, ?_⟩
    generalize Reg.gfr (Reg.opsOf Try.f3 18) a0 v [11] = G at e0 ⊢
    generalize hρ : G.eval = ρ at e0
    have hρ' : G.eval = ρ := hρ
    refine Reg.go_run (Value.slice AA nn cc) W ?_ ?_
    · rw [hρ']; simp [execOp, go_sem, e0]
    · exact ⟨Below.refl _ _, rfl⟩
set_option maxHeartbeats 4000000 in
set_option maxRecDepth 20000 in
theorem nsp_b_h17 :
    Reg.OpOK Try.prog (Reg.opsOf Try.f3 18) a0 w0 (nsp_bR gs nn cc c6 AA A6 xx ff tt mm ss LL) (fun _ _ _ _ => True) 17 := by
    refine Reg.op_ok2 (fun af => { dst := some 95, op := Op.convert 22 9 (Operand.tmp 94), type := 9, pos := "outright.go:137", after := af, guard := some (11, true) }) #[{ on := 16, ground := Ground.data }, { on := 11, ground := Ground.guard }] (by kernel_rfl) [16, 11] (by kernel_rfl) fun af v W hb hd => ?_
    have d11 : v 11 = (Value.bool true) := hd 11 (by decide)
    have d16 : v 16 = (Value.slice AA nn cc) := hd 16 (by decide)
    have e94 := (Reg.gfr_eval (ops := (Reg.opsOf Try.f3 18)) (a0 := a0) (v := v) (L := [16, 11]) 94 16 (by kernel_rfl) (by rw [hsz]; omega)).trans d16
    have e89 := (Reg.gfr_eval (ops := (Reg.opsOf Try.f3 18)) (a0 := a0) (v := v) (L := [16, 11]) 89 11 (by kernel_rfl) (by rw [hsz]; omega)).trans d11
    refine ⟨Reg.wanted_of rfl (by kernel_rfl) e89, ?_⟩
    generalize Reg.gfr (Reg.opsOf Try.f3 18) a0 v [16, 11] = G at e94 ⊢
    generalize hρ : G.eval = ρ at e94
    have hρ' : G.eval = ρ := hρ
    refine Reg.go_run (Value.string ss) W ?_ ?_
    · rw [hρ']; simp [execOp, go_sem, e94, cB W hb]
    · exact ⟨Below.refl _ _, rfl⟩
set_option maxHeartbeats 4000000 in
set_option maxRecDepth 20000 in
theorem nsp_b_h18 :
    Reg.OpOK Try.prog (Reg.opsOf Try.f3 18) a0 w0 (nsp_bR gs nn cc c6 AA A6 xx ff tt mm ss LL) (fun _ _ _ _ => True) 18 := by
    refine Reg.op_ok2 (fun af => { dst := some 96, op := Op.binOp BinOp.eql 9 (Operand.tmp 93) (Operand.tmp 95) 9, type := 4, pos := "outright.go:137", after := af, guard := some (11, true) }) #[{ on := 15, ground := Ground.data }, { on := 17, ground := Ground.data }, { on := 11, ground := Ground.guard }] (by kernel_rfl) [15, 17, 11] (by kernel_rfl) fun af v W hb hd => ?_
    have d11 : v 11 = (Value.bool true) := hd 11 (by decide)
    have d15 : v 15 = (Value.string ss) := hd 15 (by decide)
    have d17 : v 17 = (Value.string ss) := hd 17 (by decide)
    have e93 := (Reg.gfr_eval (ops := (Reg.opsOf Try.f3 18)) (a0 := a0) (v := v) (L := [15, 17, 11]) 93 15 (by kernel_rfl) (by rw [hsz]; omega)).trans d15
    have e95 := (Reg.gfr_eval (ops := (Reg.opsOf Try.f3 18)) (a0 := a0) (v := v) (L := [15, 17, 11]) 95 17 (by kernel_rfl) (by rw [hsz]; omega)).trans d17
    have e89 := (Reg.gfr_eval (ops := (Reg.opsOf Try.f3 18)) (a0 := a0) (v := v) (L := [15, 17, 11]) 89 11 (by kernel_rfl) (by rw [hsz]; omega)).trans d11
    refine ⟨Reg.wanted_of rfl (by kernel_rfl) e89, ?_⟩
    generalize Reg.gfr (Reg.opsOf Try.f3 18) a0 v [15, 17, 11] = G at e93 e95 ⊢
    generalize hρ : G.eval = ρ at e93 e95
    have hρ' : G.eval = ρ := hρ
    refine Reg.go_run (Value.bool true) W ?_ ?_
    · rw [hρ']; simp [execOp, go_sem, e93, e95]
    · exact ⟨Below.refl _ _, rfl⟩
set_option maxHeartbeats 4000000 in
set_option maxRecDepth 20000 in
theorem nsp_b_h19 :
    Reg.OpOK Try.prog (Reg.opsOf Try.f3 18) a0 w0 (nsp_bR gs nn cc c6 AA A6 xx ff tt mm ss LL) (fun _ _ _ _ => True) 19 := by
    refine Reg.op_ok2 (fun af => { dst := some 97, op := Op.pick (Operand.tmp 89) (Operand.tmp 96) (Operand.const (Value.bool false)), type := 4, pos := "outright.go:137", after := af, guard := none }) #[{ on := 11, ground := Ground.data }, { on := 18, ground := Ground.data }] (by kernel_rfl) [11, 18] (by kernel_rfl) fun af v W hb hd => ?_
    have d11 : v 11 = (Value.bool true) := hd 11 (by decide)
    have d18 : v 18 = (Value.bool true) := hd 18 (by decide)
    have e89 := (Reg.gfr_eval (ops := (Reg.opsOf Try.f3 18)) (a0 := a0) (v := v) (L := [11, 18]) 89 11 (by kernel_rfl) (by rw [hsz]; omega)).trans d11
    have e96 := (Reg.gfr_eval (ops := (Reg.opsOf Try.f3 18)) (a0 := a0) (v := v) (L := [11, 18]) 96 18 (by kernel_rfl) (by rw [hsz]; omega)).trans d18
    refine ⟨Reg.wanted_none rfl, ?_⟩
    have eC : ∀ x, (Reg.gfr (Reg.opsOf Try.f3 18) a0 v [11, 18]).eval (.const x) = x := fun _ => rfl
    generalize Reg.gfr (Reg.opsOf Try.f3 18) a0 v [11, 18] = G at e89 e96 eC ⊢
    generalize hρ : G.eval = ρ at e89 e96 eC
    have hρ' : G.eval = ρ := hρ
    refine Reg.go_run (Value.bool true) W ?_ ?_
    · rw [hρ']; simp [execOp, go_sem, e89, e96, eC]
    · exact ⟨Below.refl _ _, rfl⟩
set_option maxHeartbeats 4000000 in
set_option maxRecDepth 20000 in
theorem nsp_b_h20 :
    Reg.OpOK Try.prog (Reg.opsOf Try.f3 18) a0 w0 (nsp_bR gs nn cc c6 AA A6 xx ff tt mm ss LL) (fun _ _ _ _ => True) 20 := by
    refine Reg.op_ok2 (fun af => { dst := some 4, op := Op.assign (Operand.tmp 97), type := 4, pos := "outright.go:137", after := af, guard := none }) #[{ on := 19, ground := Ground.data }, { on := 14, ground := Ground.chain }, { on := 0, ground := Ground.phase }, { on := 1, ground := Ground.phase }, { on := 2, ground := Ground.phase }, { on := 3, ground := Ground.phase }, { on := 4, ground := Ground.phase }, { on := 5, ground := Ground.phase }, { on := 6, ground := Ground.phase }, { on := 7, ground := Ground.phase }, { on := 8, ground := Ground.phase }, { on := 9, ground := Ground.phase }, { on := 10, ground := Ground.phase }, { on := 11, ground := Ground.phase }, { on := 12, ground := Ground.phase }, { on := 13, ground := Ground.phase }, { on := 14, ground := Ground.phase }, { on := 15, ground := Ground.phase }, { on := 16, ground := Ground.phase }, { on := 17, ground := Ground.phase }, { on := 18, ground := Ground.phase }, { on := 19, ground := Ground.phase }] (by kernel_rfl) [19, 14, 0, 1, 2, 3, 4, 5, 6, 7, 8, 9, 10, 11, 12, 13, 14, 15, 16, 17, 18, 19] (by kernel_rfl) fun af v W hb hd => ?_
    have d19 : v 19 = (Value.bool true) := hd 19 (by decide)
    have e97 := (Reg.gfr_eval (ops := (Reg.opsOf Try.f3 18)) (a0 := a0) (v := v) (L := [19, 14, 0, 1, 2, 3, 4, 5, 6, 7, 8, 9, 10, 11, 12, 13, 14, 15, 16, 17, 18, 19]) 97 19 (by kernel_rfl) (by rw [hsz]; omega)).trans d19
    refine ⟨Reg.wanted_none rfl, ?_⟩
    generalize Reg.gfr (Reg.opsOf Try.f3 18) a0 v [19, 14, 0, 1, 2, 3, 4, 5, 6, 7, 8, 9, 10, 11, 12, 13, 14, 15, 16, 17, 18, 19] = G at e97 ⊢
    generalize hρ : G.eval = ρ at e97
    have hρ' : G.eval = ρ := hρ
    refine Reg.go_run (Value.bool true) W ?_ ?_
    · rw [hρ']; simp [execOp, go_sem, e97]
    · exact ⟨Below.refl _ _, rfl⟩
end
set_option maxHeartbeats 4000000 in
set_option maxRecDepth 20000 in
theorem nsp_b (gs nn cc c6 : Nat) (AA A6 : Option Addr) (xx ff tt : Int) (mm : Nat) (ss : ByteArray) (LL : List UInt8) (w0 : World) {s1 s2 s4 s9 s10 s11 s12 s13 s14 s15 s16 s17 s18 s19 s20 s21 s22 s23 s24 s25 s26 s27 s28 s29 s30 s31 s32 s33 s34 s35 s36 s37 s38 s39 s40 s41 s42 s43 s44 s45 s46 s47 s48 s49 s50 s51 s52 s53 s54 s55 s56 s57 s58 s59 s60 s61 s62 s63 s64 s65 s66 s67 s68 s69 s70 s71 s72 s73 s74 s75 s76 s77 s78 s79 s80 s81 s82 s83 s84 s85 s86 s87 s88 s89 s90 s91 s92 s93 s94 s95 s96 s97 : Value}
    (f1 : decide (ff < 0) = false) (f3 : IntKind.i64.wrap (tt - ff) = tt - ff) (f4 : decide (tt - ff < 4) = true)
    (hsp : ∀ W, Below w0.heap.size w0 W → Calls Try.prog 10 #[Value.slice A6 nn c6, Value.agg #[Value.bool false, Value.int IntKind.i64 xx, Value.int IntKind.u32 (mm : Int)]] W fun e w' => ∃ A_ c_, e = .returned (.slice A_ nn c_) ∧ RdC w' A_ (u8v LL) ∧ Below W.heap.size W w')
    (hc0 : ∀ (W : World) A_ c_, RdC W A_ (u8v LL) → (convert 22 9 (.slice A_ nn c_)).run Try.prog W = .ok (.string ss) W) (cB : ∀ W, Below w0.heap.size w0 W → (convert 22 9 (.slice AA nn cc)).run Try.prog W = .ok (.string ss) W)
    (M_gs : ∀ W, Below w0.heap.size w0 W → W.heap[gs]? = some (.cells #[Value.bool false, Value.int IntKind.i64 xx, Value.int IntKind.u32 (mm : Int)] 25 (0, 0)))
    {Q : Exit → Act → World → Prop}
    (hend : ∀ (w : World) (r92 : Value), Below w0.heap.size w0 w → Q .normal { tmps := #[(Value.slice AA nn cc), s1, s2, (Value.pointer (some ⟨gs, 0, none⟩)), (Value.bool true), (Value.bool true), (Value.slice A6 nn c6), (Value.int IntKind.i64 ff), (Value.int IntKind.i64 tt), s9, s10, s11, s12, s13, s14, s15, s16, s17, s18, s19, s20, s21, s22, s23, s24, s25, s26, s27, s28, s29, s30, s31, s32, s33, s34, s35, s36, s37, s38, s39, s40, s41, s42, s43, s44, s45, s46, s47, s48, s49, s50, s51, s52, s53, s54, s55, s56, s57, s58, s59, s60, s61, s62, s63, s64, s65, s66, s67, s68, s69, s70, s71, s72, s73, s74, s75, s76, s77, (Value.bool true), (Value.bool true), (Value.int IntKind.i64 ff), (Value.bool false), (Value.bool false), (Value.int IntKind.i64 tt), (Value.int IntKind.i64 ff), (Value.int IntKind.i64 (tt - ff)), (Value.bool true), (Value.bool true), (Value.bool true), (Value.bool true), (Value.slice A6 nn c6), (Value.agg #[Value.bool false, Value.int IntKind.i64 xx, Value.int IntKind.u32 (mm : Int)]), r92, (Value.string ss), (Value.slice AA nn cc), (Value.string ss), (Value.bool true), (Value.bool true)], defers := [] } w) :
    (Code.region 18 (Reg.opsOf Try.f3 18) true).wp Try.prog Q { tmps := #[(Value.slice AA nn cc), s1, s2, (Value.pointer (some ⟨gs, 0, none⟩)), s4, (Value.bool true), (Value.slice A6 nn c6), (Value.int IntKind.i64 ff), (Value.int IntKind.i64 tt), s9, s10, s11, s12, s13, s14, s15, s16, s17, s18, s19, s20, s21, s22, s23, s24, s25, s26, s27, s28, s29, s30, s31, s32, s33, s34, s35, s36, s37, s38, s39, s40, s41, s42, s43, s44, s45, s46, s47, s48, s49, s50, s51, s52, s53, s54, s55, s56, s57, s58, s59, s60, s61, s62, s63, s64, s65, s66, s67, s68, s69, s70, s71, s72, s73, s74, s75, s76, s77, s78, s79, s80, s81, s82, s83, s84, s85, s86, s87, s88, s89, s90, s91, s92, s93, s94, s95, s96, s97], defers := [] } w0 := by
  obtain ⟨a0, ha0⟩ : ∃ a0 : Act, a0 = { tmps := #[(Value.slice AA nn cc), s1, s2, (Value.pointer (some ⟨gs, 0, none⟩)), s4, (Value.bool true), (Value.slice A6 nn c6), (Value.int IntKind.i64 ff), (Value.int IntKind.i64 tt), s9, s10, s11, s12, s13, s14, s15, s16, s17, s18, s19, s20, s21, s22, s23, s24, s25, s26, s27, s28, s29, s30, s31, s32, s33, s34, s35, s36, s37, s38, s39, s40, s41, s42, s43, s44, s45, s46, s47, s48, s49, s50, s51, s52, s53, s54, s55, s56, s57, s58, s59, s60, s61, s62, s63, s64, s65, s66, s67, s68, s69, s70, s71, s72, s73, s74, s75, s76, s77, s78, s79, s80, s81, s82, s83, s84, s85, s86, s87, s88, s89, s90, s91, s92, s93, s94, s95, s96, s97], defers := [] } := ⟨_, rfl⟩
  have hfin : ∀ v : Nat → Value, Reg.gfr (Reg.opsOf Try.f3 18) a0 v (List.range 21) = { tmps := #[(Value.slice AA nn cc), s1, s2, (Value.pointer (some ⟨gs, 0, none⟩)), v 20, (Value.bool true), (Value.slice A6 nn c6), (Value.int IntKind.i64 ff), (Value.int IntKind.i64 tt), s9, s10, s11, s12, s13, s14, s15, s16, s17, s18, s19, s20, s21, s22, s23, s24, s25, s26, s27, s28, s29, s30, s31, s32, s33, s34, s35, s36, s37, s38, s39, s40, s41, s42, s43, s44, s45, s46, s47, s48, s49, s50, s51, s52, s53, s54, s55, s56, s57, s58, s59, s60, s61, s62, s63, s64, s65, s66, s67, s68, s69, s70, s71, s72, s73, s74, s75, s76, s77, v 0, v 1, v 2, v 3, v 4, v 5, v 6, v 7, v 8, v 9, v 10, v 11, v 12, v 13, v 14, v 15, v 16, v 17, v 18, v 19], defers := [] } := fun v => by rw [ha0]; kernel_rfl
  rw [← ha0]
  have i0 : a0.eval (.tmp 0) = (Value.slice AA nn cc) := by rw [ha0]; rfl
  have i3 : a0.eval (.tmp 3) = (Value.pointer (some ⟨gs, 0, none⟩)) := by rw [ha0]; rfl
  have i5 : a0.eval (.tmp 5) = (Value.bool true) := by rw [ha0]; rfl
  have i6 : a0.eval (.tmp 6) = (Value.slice A6 nn c6) := by rw [ha0]; rfl
  have i7 : a0.eval (.tmp 7) = (Value.int IntKind.i64 ff) := by rw [ha0]; rfl
  have i8 : a0.eval (.tmp 8) = (Value.int IntKind.i64 tt) := by rw [ha0]; rfl
  have hsz : a0.tmps.size = 98 := by rw [ha0]; rfl
  clear ha0
  have hn : (Reg.opsOf Try.f3 18).size = 21 := by kernel_rfl
  have h0 := nsp_b_h0 gs nn cc c6 AA A6 xx ff tt mm ss LL w0 a0 f1 f3 f4 hsp hc0 cB M_gs i0 i3 i5 i6 i7 i8 hsz
  have h1 := nsp_b_h1 gs nn cc c6 AA A6 xx ff tt mm ss LL w0 a0 f1 f3 f4 hsp hc0 cB M_gs i0 i3 i5 i6 i7 i8 hsz
  have h2 := nsp_b_h2 gs nn cc c6 AA A6 xx ff tt mm ss LL w0 a0 f1 f3 f4 hsp hc0 cB M_gs i0 i3 i5 i6 i7 i8 hsz
  have h3 := nsp_b_h3 gs nn cc c6 AA A6 xx ff tt mm ss LL w0 a0 f1 f3 f4 hsp hc0 cB M_gs i0 i3 i5 i6 i7 i8 hsz
  have h4 := nsp_b_h4 gs nn cc c6 AA A6 xx ff tt mm ss LL w0 a0 f1 f3 f4 hsp hc0 cB M_gs i0 i3 i5 i6 i7 i8 hsz
  have h5 := nsp_b_h5 gs nn cc c6 AA A6 xx ff tt mm ss LL w0 a0 f1 f3 f4 hsp hc0 cB M_gs i0 i3 i5 i6 i7 i8 hsz
  have h6 := nsp_b_h6 gs nn cc c6 AA A6 xx ff tt mm ss LL w0 a0 f1 f3 f4 hsp hc0 cB M_gs i0 i3 i5 i6 i7 i8 hsz
  have h7 := nsp_b_h7 gs nn cc c6 AA A6 xx ff tt mm ss LL w0 a0 f1 f3 f4 hsp hc0 cB M_gs i0 i3 i5 i6 i7 i8 hsz
  have h8 := nsp_b_h8 gs nn cc c6 AA A6 xx ff tt mm ss LL w0 a0 f1 f3 f4 hsp hc0 cB M_gs i0 i3 i5 i6 i7 i8 hsz
  have h9 := nsp_b_h9 gs nn cc c6 AA A6 xx ff tt mm ss LL w0 a0 f1 f3 f4 hsp hc0 cB M_gs i0 i3 i5 i6 i7 i8 hsz
  have h10 := nsp_b_h10 gs nn cc c6 AA A6 xx ff tt mm ss LL w0 a0 f1 f3 f4 hsp hc0 cB M_gs i0 i3 i5 i6 i7 i8 hsz
  have h11 := nsp_b_h11 gs nn cc c6 AA A6 xx ff tt mm ss LL w0 a0 f1 f3 f4 hsp hc0 cB M_gs i0 i3 i5 i6 i7 i8 hsz
  have h12 := nsp_b_h12 gs nn cc c6 AA A6 xx ff tt mm ss LL w0 a0 f1 f3 f4 hsp hc0 cB M_gs i0 i3 i5 i6 i7 i8 hsz
  have h13 := nsp_b_h13 gs nn cc c6 AA A6 xx ff tt mm ss LL w0 a0 f1 f3 f4 hsp hc0 cB M_gs i0 i3 i5 i6 i7 i8 hsz
  have h14 := nsp_b_h14 gs nn cc c6 AA A6 xx ff tt mm ss LL w0 a0 f1 f3 f4 hsp hc0 cB M_gs i0 i3 i5 i6 i7 i8 hsz
  have h15 := nsp_b_h15 gs nn cc c6 AA A6 xx ff tt mm ss LL w0 a0 f1 f3 f4 hsp hc0 cB M_gs i0 i3 i5 i6 i7 i8 hsz
  have h16 := nsp_b_h16 gs nn cc c6 AA A6 xx ff tt mm ss LL w0 a0 f1 f3 f4 hsp hc0 cB M_gs i0 i3 i5 i6 i7 i8 hsz
  have h17 := nsp_b_h17 gs nn cc c6 AA A6 xx ff tt mm ss LL w0 a0 f1 f3 f4 hsp hc0 cB M_gs i0 i3 i5 i6 i7 i8 hsz
  have h18 := nsp_b_h18 gs nn cc c6 AA A6 xx ff tt mm ss LL w0 a0 f1 f3 f4 hsp hc0 cB M_gs i0 i3 i5 i6 i7 i8 hsz
  have h19 := nsp_b_h19 gs nn cc c6 AA A6 xx ff tt mm ss LL w0 a0 f1 f3 f4 hsp hc0 cB M_gs i0 i3 i5 i6 i7 i8 hsz
  have h20 := nsp_b_h20 gs nn cc c6 AA A6 xx ff tt mm ss LL w0 a0 f1 f3 f4 hsp hc0 cB M_gs i0 i3 i5 i6 i7 i8 hsz
  refine Reg.region_all (by kernel_rfl) (nsp_bR gs nn cc c6 AA A6 xx ff tt mm ss LL) (by rw [hn, hsz]; kernel_rfl) (nsp_b_stable gs nn cc c6 AA A6 xx ff tt mm ss LL) (fun i hi => ?_) (fun v w hb hR => ?_)
  · rw [hn] at hi
    match i, List.mem_range.1 hi with
    | 0, _ => exact h0
    | 1, _ => exact h1
    | 2, _ => exact h2
    | 3, _ => exact h3
    | 4, _ => exact h4
    | 5, _ => exact h5
    | 6, _ => exact h6
    | 7, _ => exact h7
    | 8, _ => exact h8
    | 9, _ => exact h9
    | 10, _ => exact h10
    | 11, _ => exact h11
    | 12, _ => exact h12
    | 13, _ => exact h13
    | 14, _ => exact h14
    | 15, _ => exact h15
    | 16, _ => exact h16
    | 17, _ => exact h17
    | 18, _ => exact h18
    | 19, _ => exact h19
    | 20, _ => exact h20
    | (_ + 21), h => omega
  · rw [hn] at hR ⊢
    have v0 : v 0 = (Value.bool true) := hR 0 (by decide)
    have v1 : v 1 = (Value.bool true) := hR 1 (by decide)
    have v2 : v 2 = (Value.int IntKind.i64 ff) := hR 2 (by decide)
    have v3 : v 3 = (Value.bool false) := hR 3 (by decide)
    have v4 : v 4 = (Value.bool false) := hR 4 (by decide)
    have v5 : v 5 = (Value.int IntKind.i64 tt) := hR 5 (by decide)
    have v6 : v 6 = (Value.int IntKind.i64 ff) := hR 6 (by decide)
    have v7 : v 7 = (Value.int IntKind.i64 (tt - ff)) := hR 7 (by decide)
    have v8 : v 8 = (Value.bool true) := hR 8 (by decide)
    have v9 : v 9 = (Value.bool true) := hR 9 (by decide)
    have v10 : v 10 = (Value.bool true) := hR 10 (by decide)
    have v11 : v 11 = (Value.bool true) := hR 11 (by decide)
    have v12 : v 12 = (Value.slice A6 nn c6) := hR 12 (by decide)
    have v13 : v 13 = (Value.agg #[Value.bool false, Value.int IntKind.i64 xx, Value.int IntKind.u32 (mm : Int)]) := hR 13 (by decide)
    have v15 : v 15 = (Value.string ss) := hR 15 (by decide)
    have v16 : v 16 = (Value.slice AA nn cc) := hR 16 (by decide)
    have v17 : v 17 = (Value.string ss) := hR 17 (by decide)
    have v18 : v 18 = (Value.bool true) := hR 18 (by decide)
    have v19 : v 19 = (Value.bool true) := hR 19 (by decide)
    have v20 : v 20 = (Value.bool true) := hR 20 (by decide)
    rw [hfin v, v0, v1, v2, v3, v4, v5, v6, v7, v8, v9, v10, v11, v12, v13, v15, v16, v17, v18, v19, v20]
    exact hend w (v 14) hb 
end Go.Proofs.Ytfojlmnlolnilaa
