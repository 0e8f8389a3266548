/- Regions that draw their order: their obligations (printed by regen2.py). -/
import Derived.Test.YtcdnbidenaljlaaDoorMHashGroups17
import Derived.Test.YtcdnbidenaljlaaDoorMHashGroups26
import Derived.Test.YtcdnbidenaljlaaDoorMHashGroups11
namespace Go.Proofs.YtcdnbidenaljlaaDoor
open Go.RowKit
set_option linter.unusedVariables false
set_option linter.unusedSimpArgs false
set_option linter.unusedSectionVars false
def hg8pR (g o m c2 h kq n c : Nat) (AA : Option Addr) (S S2 : List Value) (xv : Int) : Nat → Value → World → Prop
  | 0 => fun x_ _ => x_ = (Value.int IntKind.i64 (h : Int))
  | 1 => fun x_ _ => x_ = (Value.bool true)
  | 2 => fun x_ _ => x_ = (Value.bool true)
  | 3 => fun x_ _ => x_ = (Value.slice (some ⟨g, o, none⟩) m c2)
  | 4 => fun x_ _ => x_ = (Value.int IntKind.i64 (h : Int))
  | 5 => fun x_ _ => x_ = (Value.int IntKind.i64 (kq : Int))
  | 6 => fun x_ _ => x_ = (Value.pointer (some ⟨g, o + kq * 32, none⟩))
  | 7 => fun x_ _ => x_ = (Value.agg S2.toArray)
  | 8 => fun x_ _ => x_ = (Value.slice (some ⟨g, o, none⟩) m c2)
  | 9 => fun x_ _ => x_ = (Value.int IntKind.i64 (h : Int))
  | 10 => fun x_ _ => x_ = (Value.pointer (some ⟨g, o + h * 32, none⟩))
  | 11 => fun x_ _ => x_ = (Value.agg S.toArray)
  | 12 => fun x_ _ => x_ = (Value.int IntKind.i64 xv)
  | 13 => fun x_ _ => x_ = (Value.bool false)
  | 14 => fun x_ _ => x_ = (Value.bool false)
  | 15 => fun x_ _ => x_ = (Value.bool false)
  | 16 => fun x_ _ => x_ = (Value.slice AA n c)
  | 17 => fun x_ _ => x_ = (Value.slice (some ⟨g, o, none⟩) m c2)
  | 18 => fun x_ _ => x_ = (Value.int IntKind.i64 (h : Int))
  | 19 => fun x_ _ => x_ = (Value.pointer (some ⟨g, o + h * 32, none⟩))
  | 20 => fun x_ _ => x_ = (Value.agg S.toArray)
  | 21 => fun x_ _ => x_ = (Value.bool true)
  | 22 => fun x_ _ => x_ = (Value.bool false)
  | 23 => fun x_ _ => x_ = (Value.bool false)
  | _ => fun _ _ => True
theorem hg8p_stable (g o m c2 h kq n c : Nat) (AA : Option Addr) (S S2 : List Value) (xv : Int) : ∀ i_ u_ w_ w_', (hg8pR g o m c2 h kq n c AA S S2 xv) i_ u_ w_ → Below w_.heap.size w_ w_' → (hg8pR g o m c2 h kq n c AA S S2 xv) i_ u_ w_' := fun i_ u_ w_ w_' h_ hb_ => by
  match i_, h_ with
  | 0, h_ => exact h_
  | 1, h_ => exact h_
  | 2, h_ => exact h_
  | 3, h_ => exact h_
  | 4, h_ => exact h_
  | 5, h_ => exact h_
  | 6, h_ => exact h_
  | 7, h_ => exact h_
  | 8, h_ => exact h_
  | 9, h_ => exact h_
  | 10, h_ => exact h_
  | 11, h_ => exact h_
  | 12, h_ => exact h_
  | 13, h_ => exact h_
  | 14, h_ => exact h_
  | 15, h_ => exact h_
  | 16, h_ => exact h_
  | 17, h_ => exact h_
  | 18, h_ => exact h_
  | 19, h_ => exact h_
  | 20, h_ => exact h_
  | 21, h_ => exact h_
  | 22, h_ => exact h_
  | 23, h_ => exact h_
  | (_ + 24), _ => trivial
section
variable (g o m c2 h kq n c : Nat) (AA : Option Addr) (S S2 : List Value) (xv : Int) (w0 : World) (a0 : Act)
variable (hhm : (h : Int) < (m : Int)) (hqm : (kq : Int) < (m : Int)) (hpos : 0 < h) (hxv : xv < 0)
variable (hsub : IntKind.i64.wrap ((h : Int) - 1) = (kq : Int))
variable (hld : ∀ W, Below w0.heap.size w0 W → W.rangeAt g (o + h * 32) S)
variable (hSi : (Tryd.prog.info? 25).map (·.size) = some S.length)
variable (hld2 : ∀ W, Below w0.heap.size w0 W → W.rangeAt g (o + kq * 32) S2)
variable (hSi2 : (Tryd.prog.info? 25).map (·.size) = some S2.length)
variable (hcmp : ∀ W, Below w0.heap.size w0 W → Calls Tryd.prog 16 #[.agg S2.toArray, .agg S.toArray] W fun e w' => e = .returned (.int .i64 xv) ∧ Below W.heap.size W w')
variable (hhas : ∀ W, Below w0.heap.size w0 W → Calls Tryd.prog 18 #[.slice AA n c, .agg S.toArray] W fun e w' => e = .returned (.bool true) ∧ Below W.heap.size W w')
variable (i0 : a0.eval (.tmp 0) = (Value.slice AA n c)) (i6 : a0.eval (.tmp 6) = (Value.slice (some ⟨g, o, none⟩) m c2)) (i8 : a0.eval (.tmp 8) = (Value.int IntKind.i64 (h : Int))) (hsz : a0.tmps.size = 109)
include g o m c2 h kq n c AA S S2 xv w0 a0 hhm hqm hpos hxv hsub hld hSi hld2 hSi2 hcmp hhas i0 i6 i8 hsz
set_option maxHeartbeats 4000000 in
set_option maxRecDepth 20000 in
theorem hg8p_h0 :
    Reg.OpOK Tryd.prog (Reg.opsOf Tryd.f6 8) a0 w0 (hg8pR g o m c2 h kq n c AA S S2 xv) (fun _ _ _ _ => True) 0 := by
    refine Reg.op_ok2 (fun af => { dst := some 38, op := Op.move (Operand.tmp 8), type := 3, pos := "outright.go:82", after := af, guard := none }) #[] (by kernel_rfl) [] (by kernel_rfl) fun af v W hb hd => ?_
    have e8 := (Reg.gfr_eval0 (ops := (Reg.opsOf Tryd.f6 8)) (a0 := a0) (v := v) (L := []) 8 (by kernel_rfl)).trans i8
    refine ⟨Reg.wanted_none rfl, ?_⟩
    generalize Reg.gfr (Reg.opsOf Tryd.f6 8) a0 v [] = G at e8 ⊢
    generalize hρ : G.eval = ρ at e8
    have hρ' : G.eval = ρ := hρ
    refine Reg.go_run (Value.int IntKind.i64 (h : Int)) W ?_ ?_
    · rw [hρ']; simp [execOp, go_sem, e8]
    · exact ⟨Below.refl _ _, rfl⟩
set_option maxHeartbeats 4000000 in
set_option maxRecDepth 20000 in
theorem hg8p_h1 :
    Reg.OpOK Tryd.prog (Reg.opsOf Tryd.f6 8) a0 w0 (hg8pR g o m c2 h kq n c AA S S2 xv) (fun _ _ _ _ => True) 1 := by
    refine Reg.op_ok2 (fun af => { dst := some 39, op := Op.binOp BinOp.gtr 3 (Operand.tmp 38) (Operand.const (Value.int IntKind.i64 0)) 3, type := 4, pos := "outright.go:82", after := af, guard := none }) #[{ on := 0, ground := Ground.data }] (by kernel_rfl) [0] (by kernel_rfl) fun af v W hb hd => ?_
    have d0 : v 0 = (Value.int IntKind.i64 (h : Int)) := hd 0 (by decide)
    have e38 := (Reg.gfr_eval (ops := (Reg.opsOf Tryd.f6 8)) (a0 := a0) (v := v) (L := [0]) 38 0 (by kernel_rfl) (by rw [hsz]; omega)).trans d0
    refine ⟨Reg.wanted_none rfl, ?_⟩
    have eC : ∀ x, (Reg.gfr (Reg.opsOf Tryd.f6 8) a0 v [0]).eval (.const x) = x := fun _ => rfl
    generalize Reg.gfr (Reg.opsOf Tryd.f6 8) a0 v [0] = G at e38 eC ⊢
    generalize hρ : G.eval = ρ at e38 eC
    have hρ' : G.eval = ρ := hρ
    refine Reg.go_run (Value.bool true) W ?_ ?_
    · rw [hρ']; simp [execOp, go_sem, e38, eC, hpos]
    · exact ⟨Below.refl _ _, rfl⟩
set_option maxHeartbeats 4000000 in
set_option maxRecDepth 20000 in
theorem hg8p_h2 :
    Reg.OpOK Tryd.prog (Reg.opsOf Tryd.f6 8) a0 w0 (hg8pR g o m c2 h kq n c AA S S2 xv) (fun _ _ _ _ => True) 2 := by
    refine Reg.op_ok2 (fun af => { dst := some 40, op := Op.move (Operand.tmp 39), type := 4, pos := "outright.go:82", after := af, guard := none }) #[{ on := 1, ground := Ground.data }] (by kernel_rfl) [1] (by kernel_rfl) fun af v W hb hd => ?_
    have d1 : v 1 = (Value.bool true) := hd 1 (by decide)
    have e39 := (Reg.gfr_eval (ops := (Reg.opsOf Tryd.f6 8)) (a0 := a0) (v := v) (L := [1]) 39 1 (by kernel_rfl) (by rw [hsz]; omega)).trans d1
    refine ⟨Reg.wanted_none rfl, ?_⟩
    generalize Reg.gfr (Reg.opsOf Tryd.f6 8) a0 v [1] = G at e39 ⊢
    generalize hρ : G.eval = ρ at e39
    have hρ' : G.eval = ρ := hρ
    refine Reg.go_run (Value.bool true) W ?_ ?_
    · rw [hρ']; simp [execOp, go_sem, e39]
    · exact ⟨Below.refl _ _, rfl⟩
set_option maxHeartbeats 4000000 in
set_option maxRecDepth 20000 in
theorem hg8p_h3 :
    Reg.OpOK Tryd.prog (Reg.opsOf Tryd.f6 8) a0 w0 (hg8pR g o m c2 h kq n c AA S S2 xv) (fun _ _ _ _ => True) 3 := by
    refine Reg.op_ok2 (fun af => { dst := some 41, op := Op.move (Operand.tmp 6), type := 47, pos := "outright.go:82", after := af, guard := some (2, true) }) #[{ on := 2, ground := Ground.guard }] (by kernel_rfl) [2] (by kernel_rfl) fun af v W hb hd => ?_
    have d2 : v 2 = (Value.bool true) := hd 2 (by decide)
    have e6 := (Reg.gfr_eval0 (ops := (Reg.opsOf Tryd.f6 8)) (a0 := a0) (v := v) (L := [2]) 6 (by kernel_rfl)).trans i6
    have e40 := (Reg.gfr_eval (ops := (Reg.opsOf Tryd.f6 8)) (a0 := a0) (v := v) (L := [2]) 40 2 (by kernel_rfl) (by rw [hsz]; omega)).trans d2
    refine ⟨Reg.wanted_of rfl (by kernel_rfl) e40, ?_⟩
    generalize Reg.gfr (Reg.opsOf Tryd.f6 8) a0 v [2] = G at e6 ⊢
    generalize hρ : G.eval = ρ at e6
    have hρ' : G.eval = ρ := hρ
    refine Reg.go_run (Value.slice (some ⟨g, o, none⟩) m c2) W ?_ ?_
    · rw [hρ']; simp [execOp, go_sem, e6]
    · exact ⟨Below.refl _ _, rfl⟩
set_option maxHeartbeats 4000000 in
set_option maxRecDepth 20000 in
theorem hg8p_h4 :
    Reg.OpOK Tryd.prog (Reg.opsOf Tryd.f6 8) a0 w0 (hg8pR g o m c2 h kq n c AA S S2 xv) (fun _ _ _ _ => True) 4 := by
    refine Reg.op_ok2 (fun af => { dst := some 42, op := Op.move (Operand.tmp 8), type := 3, pos := "outright.go:82", after := af, guard := some (2, true) }) #[{ on := 2, ground := Ground.guard }] (by kernel_rfl) [2] (by kernel_rfl) fun af v W hb hd => ?_
    have d2 : v 2 = (Value.bool true) := hd 2 (by decide)
    have e8 := (Reg.gfr_eval0 (ops := (Reg.opsOf Tryd.f6 8)) (a0 := a0) (v := v) (L := [2]) 8 (by kernel_rfl)).trans i8
    have e40 := (Reg.gfr_eval (ops := (Reg.opsOf Tryd.f6 8)) (a0 := a0) (v := v) (L := [2]) 40 2 (by kernel_rfl) (by rw [hsz]; omega)).trans d2
    refine ⟨Reg.wanted_of rfl (by kernel_rfl) e40, ?_⟩
    generalize Reg.gfr (Reg.opsOf Tryd.f6 8) a0 v [2] = G at e8 ⊢
    generalize hρ : G.eval = ρ at e8
    have hρ' : G.eval = ρ := hρ
    refine Reg.go_run (Value.int IntKind.i64 (h : Int)) W ?_ ?_
    · rw [hρ']; simp [execOp, go_sem, e8]
    · exact ⟨Below.refl _ _, rfl⟩
set_option maxHeartbeats 4000000 in
set_option maxRecDepth 20000 in
theorem hg8p_h5 :
    Reg.OpOK Tryd.prog (Reg.opsOf Tryd.f6 8) a0 w0 (hg8pR g o m c2 h kq n c AA S S2 xv) (fun _ _ _ _ => True) 5 := by
    refine Reg.op_ok2 (fun af => { dst := some 43, op := Op.binOp BinOp.sub 3 (Operand.tmp 42) (Operand.const (Value.int IntKind.i64 1)) 3, type := 3, pos := "outright.go:82", after := af, guard := some (2, true) }) #[{ on := 4, ground := Ground.data }, { on := 2, ground := Ground.guard }] (by kernel_rfl) [4, 2] (by kernel_rfl) fun af v W hb hd => ?_
    have d2 : v 2 = (Value.bool true) := hd 2 (by decide)
    have d4 : v 4 = (Value.int IntKind.i64 (h : Int)) := hd 4 (by decide)
    have e42 := (Reg.gfr_eval (ops := (Reg.opsOf Tryd.f6 8)) (a0 := a0) (v := v) (L := [4, 2]) 42 4 (by kernel_rfl) (by rw [hsz]; omega)).trans d4
    have e40 := (Reg.gfr_eval (ops := (Reg.opsOf Tryd.f6 8)) (a0 := a0) (v := v) (L := [4, 2]) 40 2 (by kernel_rfl) (by rw [hsz]; omega)).trans d2
    refine ⟨Reg.wanted_of rfl (by kernel_rfl) e40, ?_⟩
    have eC : ∀ x, (Reg.gfr (Reg.opsOf Tryd.f6 8) a0 v [4, 2]).eval (.const x) = x := fun _ => rfl
    generalize Reg.gfr (Reg.opsOf Tryd.f6 8) a0 v [4, 2] = G at e42 eC ⊢
    generalize hρ : G.eval = ρ at e42 eC
    have hρ' : G.eval = ρ := hρ
    refine Reg.go_run (Value.int IntKind.i64 (kq : Int)) W ?_ ?_
    · rw [hρ']; simp [execOp, go_sem, e42, eC, hsub]
    · exact ⟨Below.refl _ _, rfl⟩
set_option maxHeartbeats 4000000 in
set_option maxRecDepth 20000 in
theorem hg8p_h6 :
    Reg.OpOK Tryd.prog (Reg.opsOf Tryd.f6 8) a0 w0 (hg8pR g o m c2 h kq n c AA S S2 xv) (fun _ _ _ _ => True) 6 := by
    refine Reg.op_ok2 (fun af => { dst := some 44, op := Op.indexAddr 47 (Operand.tmp 41) (Operand.tmp 43), type := 0, pos := "outright.go:82", after := af, guard := some (2, true) }) #[{ on := 3, ground := Ground.data }, { on := 5, ground := Ground.data }, { on := 2, ground := Ground.guard }] (by kernel_rfl) [3, 5, 2] (by kernel_rfl) fun af v W hb hd => ?_
    have d2 : v 2 = (Value.bool true) := hd 2 (by decide)
    have d3 : v 3 = (Value.slice (some ⟨g, o, none⟩) m c2) := hd 3 (by decide)
    have d5 : v 5 = (Value.int IntKind.i64 (kq : Int)) := hd 5 (by decide)
    have e41 := (Reg.gfr_eval (ops := (Reg.opsOf Tryd.f6 8)) (a0 := a0) (v := v) (L := [3, 5, 2]) 41 3 (by kernel_rfl) (by rw [hsz]; omega)).trans d3
    have e43 := (Reg.gfr_eval (ops := (Reg.opsOf Tryd.f6 8)) (a0 := a0) (v := v) (L := [3, 5, 2]) 43 5 (by kernel_rfl) (by rw [hsz]; omega)).trans d5
    have e40 := (Reg.gfr_eval (ops := (Reg.opsOf Tryd.f6 8)) (a0 := a0) (v := v) (L := [3, 5, 2]) 40 2 (by kernel_rfl) (by rw [hsz]; omega)).trans d2
    refine ⟨Reg.wanted_of rfl (by kernel_rfl) e40, ?_⟩
    generalize Reg.gfr (Reg.opsOf Tryd.f6 8) a0 v [3, 5, 2] = G at e41 e43 ⊢
    generalize hρ : G.eval = ρ at e41 e43
    have hρ' : G.eval = ρ := hρ
    refine Reg.go_run (Value.pointer (some ⟨g, o + kq * 32, none⟩)) W ?_ ?_
    · rw [hρ']; simp [execOp, go_sem, e41, e43, hqm, Tryd.underlying47, Tryd.sizeOf25]
    · exact ⟨Below.refl _ _, rfl⟩
set_option maxHeartbeats 4000000 in
set_option maxRecDepth 20000 in
theorem hg8p_h7 :
    Reg.OpOK Tryd.prog (Reg.opsOf Tryd.f6 8) a0 w0 (hg8pR g o m c2 h kq n c AA S S2 xv) (fun _ _ _ _ => True) 7 := by
    refine Reg.op_ok2 (fun af => { dst := some 45, op := Op.load 25 (Operand.tmp 44), type := 25, pos := "outright.go:82", after := af, guard := some (2, true) }) #[{ on := 6, ground := Ground.data }, { on := 2, ground := Ground.guard }] (by kernel_rfl) [6, 2] (by kernel_rfl) fun af v W hb hd => ?_
    have d2 : v 2 = (Value.bool true) := hd 2 (by decide)
    have d6 : v 6 = (Value.pointer (some ⟨g, o + kq * 32, none⟩)) := hd 6 (by decide)
    have e44 := (Reg.gfr_eval (ops := (Reg.opsOf Tryd.f6 8)) (a0 := a0) (v := v) (L := [6, 2]) 44 6 (by kernel_rfl) (by rw [hsz]; omega)).trans d6
    have e40 := (Reg.gfr_eval (ops := (Reg.opsOf Tryd.f6 8)) (a0 := a0) (v := v) (L := [6, 2]) 40 2 (by kernel_rfl) (by rw [hsz]; omega)).trans d2
    refine ⟨Reg.wanted_of rfl (by kernel_rfl) e40, ?_⟩
    generalize Reg.gfr (Reg.opsOf Tryd.f6 8) a0 v [6, 2] = G at e44 ⊢
    generalize hρ : G.eval = ρ at e44
    have hρ' : G.eval = ρ := hρ
    exact fun K hK => wp_load_mid 25 (.tmp 44) rfl g (o + kq * 32) (by rw [hρ']; exact e44) S2 _ (hld2 W hb) Tryd.underlying25 rfl hSi2 (hK _ _ ⟨Below.refl _ _, rfl⟩)
set_option maxHeartbeats 4000000 in
set_option maxRecDepth 20000 in
theorem hg8p_h8 :
    Reg.OpOK Tryd.prog (Reg.opsOf Tryd.f6 8) a0 w0 (hg8pR g o m c2 h kq n c AA S S2 xv) (fun _ _ _ _ => True) 8 := by
    refine Reg.op_ok2 (fun af => { dst := some 46, op := Op.move (Operand.tmp 6), type := 47, pos := "outright.go:82", after := af, guard := some (2, true) }) #[{ on := 2, ground := Ground.guard }] (by kernel_rfl) [2] (by kernel_rfl) fun af v W hb hd => ?_
    have d2 : v 2 = (Value.bool true) := hd 2 (by decide)
    have e6 := (Reg.gfr_eval0 (ops := (Reg.opsOf Tryd.f6 8)) (a0 := a0) (v := v) (L := [2]) 6 (by kernel_rfl)).trans i6
    have e40 := (Reg.gfr_eval (ops := (Reg.opsOf Tryd.f6 8)) (a0 := a0) (v := v) (L := [2]) 40 2 (by kernel_rfl) (by rw [hsz]; omega)).trans d2
    refine ⟨Reg.wanted_of rfl (by kernel_rfl) e40, ?_⟩
    generalize Reg.gfr (Reg.opsOf Tryd.f6 8) a0 v [2] = G at e6 ⊢
    generalize hρ : G.eval = ρ at e6
    have hρ' : G.eval = ρ := hρ
    refine Reg.go_run (Value.slice (some ⟨g, o, none⟩) m c2) W ?_ ?_
    · rw [hρ']; simp [execOp, go_sem, e6]
    · exact ⟨Below.refl _ _, rfl⟩
set_option maxHeartbeats 4000000 in
set_option maxRecDepth 20000 in
theorem hg8p_h9 :
    Reg.OpOK Tryd.prog (Reg.opsOf Tryd.f6 8) a0 w0 (hg8pR g o m c2 h kq n c AA S S2 xv) (fun _ _ _ _ => True) 9 := by
    refine Reg.op_ok2 (fun af => { dst := some 47, op := Op.move (Operand.tmp 8), type := 3, pos := "outright.go:82", after := af, guard := some (2, true) }) #[{ on := 2, ground := Ground.guard }] (by kernel_rfl) [2] (by kernel_rfl) fun af v W hb hd => ?_
    have d2 : v 2 = (Value.bool true) := hd 2 (by decide)
    have e8 := (Reg.gfr_eval0 (ops := (Reg.opsOf Tryd.f6 8)) (a0 := a0) (v := v) (L := [2]) 8 (by kernel_rfl)).trans i8
    have e40 := (Reg.gfr_eval (ops := (Reg.opsOf Tryd.f6 8)) (a0 := a0) (v := v) (L := [2]) 40 2 (by kernel_rfl) (by rw [hsz]; omega)).trans d2
    refine ⟨Reg.wanted_of rfl (by kernel_rfl) e40, ?_⟩
    generalize Reg.gfr (Reg.opsOf Tryd.f6 8) a0 v [2] = G at e8 ⊢
    generalize hρ : G.eval = ρ at e8
    have hρ' : G.eval = ρ := hρ
    refine Reg.go_run (Value.int IntKind.i64 (h : Int)) W ?_ ?_
    · rw [hρ']; simp [execOp, go_sem, e8]
    · exact ⟨Below.refl _ _, rfl⟩
set_option maxHeartbeats 4000000 in
set_option maxRecDepth 20000 in
theorem hg8p_h10 :
    Reg.OpOK Tryd.prog (Reg.opsOf Tryd.f6 8) a0 w0 (hg8pR g o m c2 h kq n c AA S S2 xv) (fun _ _ _ _ => True) 10 := by
    refine Reg.op_ok2 (fun af => { dst := some 48, op := Op.indexAddr 47 (Operand.tmp 46) (Operand.tmp 47), type := 0, pos := "outright.go:82", after := af, guard := some (2, true) }) #[{ on := 8, ground := Ground.data }, { on := 9, ground := Ground.data }, { on := 2, ground := Ground.guard }] (by kernel_rfl) [8, 9, 2] (by kernel_rfl) fun af v W hb hd => ?_
    have d2 : v 2 = (Value.bool true) := hd 2 (by decide)
    have d8 : v 8 = (Value.slice (some ⟨g, o, none⟩) m c2) := hd 8 (by decide)
    have d9 : v 9 = (Value.int IntKind.i64 (h : Int)) := hd 9 (by decide)
    have e46 := (Reg.gfr_eval (ops := (Reg.opsOf Tryd.f6 8)) (a0 := a0) (v := v) (L := [8, 9, 2]) 46 8 (by kernel_rfl) (by rw [hsz]; omega)).trans d8
    have e47 := (Reg.gfr_eval (ops := (Reg.opsOf Tryd.f6 8)) (a0 := a0) (v := v) (L := [8, 9, 2]) 47 9 (by kernel_rfl) (by rw [hsz]; omega)).trans d9
    have e40 := (Reg.gfr_eval (ops := (Reg.opsOf Tryd.f6 8)) (a0 := a0) (v := v) (L := [8, 9, 2]) 40 2 (by kernel_rfl) (by rw [hsz]; omega)).trans d2
    refine ⟨Reg.wanted_of rfl (by kernel_rfl) e40, ?_⟩
    generalize Reg.gfr (Reg.opsOf Tryd.f6 8) a0 v [8, 9, 2] = G at e46 e47 ⊢
    generalize hρ : G.eval = ρ at e46 e47
    have hρ' : G.eval = ρ := hρ
    refine Reg.go_run (Value.pointer (some ⟨g, o + h * 32, none⟩)) W ?_ ?_
    · rw [hρ']; simp [execOp, go_sem, e46, e47, hhm, Tryd.underlying47, Tryd.sizeOf25]
    · exact ⟨Below.refl _ _, rfl⟩
set_option maxHeartbeats 4000000 in
set_option maxRecDepth 20000 in
theorem hg8p_h11 :
    Reg.OpOK Tryd.prog (Reg.opsOf Tryd.f6 8) a0 w0 (hg8pR g o m c2 h kq n c AA S S2 xv) (fun _ _ _ _ => True) 11 := by
    refine Reg.op_ok2 (fun af => { dst := some 49, op := Op.load 25 (Operand.tmp 48), type := 25, pos := "outright.go:82", after := af, guard := some (2, true) }) #[{ on := 10, ground := Ground.data }, { on := 2, ground := Ground.guard }] (by kernel_rfl) [10, 2] (by kernel_rfl) fun af v W hb hd => ?_
    have d2 : v 2 = (Value.bool true) := hd 2 (by decide)
    have d10 : v 10 = (Value.pointer (some ⟨g, o + h * 32, none⟩)) := hd 10 (by decide)
    have e48 := (Reg.gfr_eval (ops := (Reg.opsOf Tryd.f6 8)) (a0 := a0) (v := v) (L := [10, 2]) 48 10 (by kernel_rfl) (by rw [hsz]; omega)).trans d10
    have e40 := (Reg.gfr_eval (ops := (Reg.opsOf Tryd.f6 8)) (a0 := a0) (v := v) (L := [10, 2]) 40 2 (by kernel_rfl) (by rw [hsz]; omega)).trans d2
    refine ⟨Reg.wanted_of rfl (by kernel_rfl) e40, ?_⟩
    generalize Reg.gfr (Reg.opsOf Tryd.f6 8) a0 v [10, 2] = G at e48 ⊢
    generalize hρ : G.eval = ρ at e48
    have hρ' : G.eval = ρ := hρ
    exact fun K hK => wp_load_mid 25 (.tmp 48) rfl g (o + h * 32) (by rw [hρ']; exact e48) S _ (hld W hb) Tryd.underlying25 rfl hSi (hK _ _ ⟨Below.refl _ _, rfl⟩)
set_option maxHeartbeats 4000000 in
set_option maxRecDepth 20000 in
theorem hg8p_h12 :
    Reg.OpOK Tryd.prog (Reg.opsOf Tryd.f6 8) a0 w0 (hg8pR g o m c2 h kq n c AA S S2 xv) (fun _ _ _ _ => True) 12 := by
    refine Reg.op_ok2 (fun af => { dst := some 50, op := Op.call { callee := Callee.value (Operand.func 16), args := #[Operand.tmp 45, Operand.tmp 49], argTypes := #[25, 25] }, type := 3, pos := "outright.go:82", after := af, guard := some (2, true) }) #[{ on := 7, ground := Ground.data }, { on := 11, ground := Ground.data }, { on := 2, ground := Ground.chain }, { on := 2, ground := Ground.guard }] (by kernel_rfl) [7, 11, 2, 2] (by kernel_rfl) fun af v W hb hd => ?_
    have d2 : v 2 = (Value.bool true) := hd 2 (by decide)
    have d7 : v 7 = (Value.agg S2.toArray) := hd 7 (by decide)
    have d11 : v 11 = (Value.agg S.toArray) := hd 11 (by decide)
    have e45 := (Reg.gfr_eval (ops := (Reg.opsOf Tryd.f6 8)) (a0 := a0) (v := v) (L := [7, 11, 2, 2]) 45 7 (by kernel_rfl) (by rw [hsz]; omega)).trans d7
    have e49 := (Reg.gfr_eval (ops := (Reg.opsOf Tryd.f6 8)) (a0 := a0) (v := v) (L := [7, 11, 2, 2]) 49 11 (by kernel_rfl) (by rw [hsz]; omega)).trans d11
    have e40 := (Reg.gfr_eval (ops := (Reg.opsOf Tryd.f6 8)) (a0 := a0) (v := v) (L := [7, 11, 2, 2]) 40 2 (by kernel_rfl) (by rw [hsz]; omega)).trans d2
    refine ⟨Reg.wanted_of rfl (by kernel_rfl) e40, ?_⟩
    have eF : ∀ f, (Reg.gfr (Reg.opsOf Tryd.f6 8) a0 v [7, 11, 2, 2]).eval (.func f) = .func (.func f) #[] #[] := fun _ => rfl
    generalize Reg.gfr (Reg.opsOf Tryd.f6 8) a0 v [7, 11, 2, 2] = G at e45 e49 eF ⊢
    generalize hρ : G.eval = ρ at e45 e49 eF
    have hρ' : G.eval = ρ := hρ
    refine Reg.go_call 16 #[(Value.agg S2.toArray), (Value.agg S.toArray)] (by rw [hρ']; simp [execOp, go_sem, e45, e49, eF]) ((hcmp W hb).mono fun e w' he => ?_)
    obtain ⟨rfl, hbb⟩ := he
    exact ⟨_, rfl, hbb, rfl⟩
set_option maxHeartbeats 4000000 in
set_option maxRecDepth 20000 in
theorem hg8p_h13 :
    Reg.OpOK Tryd.prog (Reg.opsOf Tryd.f6 8) a0 w0 (hg8pR g o m c2 h kq n c AA S S2 xv) (fun _ _ _ _ => True) 13 := by
    refine Reg.op_ok2 (fun af => { dst := some 51, op := Op.binOp BinOp.geq 3 (Operand.tmp 50) (Operand.const (Value.int IntKind.i64 0)) 3, type := 4, pos := "outright.go:82", after := af, guard := some (2, true) }) #[{ on := 12, ground := Ground.data }, { on := 2, ground := Ground.guard }] (by kernel_rfl) [12, 2] (by kernel_rfl) fun af v W hb hd => ?_
    have d2 : v 2 = (Value.bool true) := hd 2 (by decide)
    have d12 : v 12 = (Value.int IntKind.i64 xv) := hd 12 (by decide)
    have e50 := (Reg.gfr_eval (ops := (Reg.opsOf Tryd.f6 8)) (a0 := a0) (v := v) (L := [12, 2]) 50 12 (by kernel_rfl) (by rw [hsz]; omega)).trans d12
    have e40 := (Reg.gfr_eval (ops := (Reg.opsOf Tryd.f6 8)) (a0 := a0) (v := v) (L := [12, 2]) 40 2 (by kernel_rfl) (by rw [hsz]; omega)).trans d2
    refine ⟨Reg.wanted_of rfl (by kernel_rfl) e40, ?_⟩
    have eC : ∀ x, (Reg.gfr (Reg.opsOf Tryd.f6 8) a0 v [12, 2]).eval (.const x) = x := fun _ => rfl
    generalize Reg.gfr (Reg.opsOf Tryd.f6 8) a0 v [12, 2] = G at e50 eC ⊢
    generalize hρ : G.eval = ρ at e50 eC
    have hρ' : G.eval = ρ := hρ
    refine Reg.go_run (Value.bool false) W ?_ ?_
    · rw [hρ']; simp [execOp, go_sem, e50, eC, hxv]
    · exact ⟨Below.refl _ _, rfl⟩
set_option maxHeartbeats 4000000 in
set_option maxRecDepth 20000 in
theorem hg8p_h14 :
    Reg.OpOK Tryd.prog (Reg.opsOf Tryd.f6 8) a0 w0 (hg8pR g o m c2 h kq n c AA S S2 xv) (fun _ _ _ _ => True) 14 := by
    refine Reg.op_ok2 (fun af => { dst := some 52, op := Op.pick (Operand.tmp 40) (Operand.tmp 51) (Operand.const (Value.bool false)), type := 4, pos := "outright.go:82", after := af, guard := none }) #[{ on := 2, ground := Ground.data }, { on := 13, ground := Ground.data }] (by kernel_rfl) [2, 13] (by kernel_rfl) fun af v W hb hd => ?_
    have d2 : v 2 = (Value.bool true) := hd 2 (by decide)
    have d13 : v 13 = (Value.bool false) := hd 13 (by decide)
    have e40 := (Reg.gfr_eval (ops := (Reg.opsOf Tryd.f6 8)) (a0 := a0) (v := v) (L := [2, 13]) 40 2 (by kernel_rfl) (by rw [hsz]; omega)).trans d2
    have e51 := (Reg.gfr_eval (ops := (Reg.opsOf Tryd.f6 8)) (a0 := a0) (v := v) (L := [2, 13]) 51 13 (by kernel_rfl) (by rw [hsz]; omega)).trans d13
    refine ⟨Reg.wanted_none rfl, ?_⟩
    have eC : ∀ x, (Reg.gfr (Reg.opsOf Tryd.f6 8) a0 v [2, 13]).eval (.const x) = x := fun _ => rfl
    generalize Reg.gfr (Reg.opsOf Tryd.f6 8) a0 v [2, 13] = G at e40 e51 eC ⊢
    generalize hρ : G.eval = ρ at e40 e51 eC
    have hρ' : G.eval = ρ := hρ
    refine Reg.go_run (Value.bool false) W ?_ ?_
    · rw [hρ']; simp [execOp, go_sem, e40, e51, eC]
    · exact ⟨Below.refl _ _, rfl⟩
set_option maxHeartbeats 4000000 in
set_option maxRecDepth 20000 in
theorem hg8p_h15 :
    Reg.OpOK Tryd.prog (Reg.opsOf Tryd.f6 8) a0 w0 (hg8pR g o m c2 h kq n c AA S S2 xv) (fun _ _ _ _ => True) 15 := by
    refine Reg.op_ok2 (fun af => { dst := some 53, op := Op.move (Operand.tmp 52), type := 4, pos := "outright.go:82", after := af, guard := none }) #[{ on := 14, ground := Ground.data }, { on := 12, ground := Ground.chain }] (by kernel_rfl) [14, 12] (by kernel_rfl) fun af v W hb hd => ?_
    have d14 : v 14 = (Value.bool false) := hd 14 (by decide)
    have e52 := (Reg.gfr_eval (ops := (Reg.opsOf Tryd.f6 8)) (a0 := a0) (v := v) (L := [14, 12]) 52 14 (by kernel_rfl) (by rw [hsz]; omega)).trans d14
    refine ⟨Reg.wanted_none rfl, ?_⟩
    generalize Reg.gfr (Reg.opsOf Tryd.f6 8) a0 v [14, 12] = G at e52 ⊢
    generalize hρ : G.eval = ρ at e52
    have hρ' : G.eval = ρ := hρ
    refine Reg.go_run (Value.bool false) W ?_ ?_
    · rw [hρ']; simp [execOp, go_sem, e52]
    · exact ⟨Below.refl _ _, rfl⟩
set_option maxHeartbeats 4000000 in
set_option maxRecDepth 20000 in
theorem hg8p_h16 :
    Reg.OpOK Tryd.prog (Reg.opsOf Tryd.f6 8) a0 w0 (hg8pR g o m c2 h kq n c AA S S2 xv) (fun _ _ _ _ => True) 16 := by
    refine Reg.op_ok2 (fun af => { dst := some 54, op := Op.move (Operand.tmp 0), type := 47, pos := "outright.go:82", after := af, guard := some (15, false) }) #[{ on := 15, ground := Ground.guard }] (by kernel_rfl) [15] (by kernel_rfl) fun af v W hb hd => ?_
    have d15 : v 15 = (Value.bool false) := hd 15 (by decide)
    have e0 := (Reg.gfr_eval0 (ops := (Reg.opsOf Tryd.f6 8)) (a0 := a0) (v := v) (L := [15]) 0 (by kernel_rfl)).trans i0
    have e53 := (Reg.gfr_eval (ops := (Reg.opsOf Tryd.f6 8)) (a0 := a0) (v := v) (L := [15]) 53 15 (by kernel_rfl) (by rw [hsz]; omega)).trans d15
    refine ⟨Reg.wanted_of rfl (by kernel_rfl) e53, ?_⟩
    generalize Reg.gfr (Reg.opsOf Tryd.f6 8) a0 v [15] = G at e0 ⊢
    generalize hρ : G.eval = ρ at e0
    have hρ' : G.eval = ρ := hρ
    refine Reg.go_run (Value.slice AA n c) W ?_ ?_
    · rw [hρ']; simp [execOp, go_sem, e0]
    · exact ⟨Below.refl _ _, rfl⟩
set_option maxHeartbeats 4000000 in
set_option maxRecDepth 20000 in
theorem hg8p_h17 :
    Reg.OpOK Tryd.prog (Reg.opsOf Tryd.f6 8) a0 w0 (hg8pR g o m c2 h kq n c AA S S2 xv) (fun _ _ _ _ => True) 17 := by
    refine Reg.op_ok2 (fun af => { dst := some 55, op := Op.move (Operand.tmp 6), type := 47, pos := "outright.go:82", after := af, guard := some (15, false) }) #[{ on := 15, ground := Ground.guard }] (by kernel_rfl) [15] (by kernel_rfl) fun af v W hb hd => ?_
    have d15 : v 15 = (Value.bool false) := hd 15 (by decide)
    have e6 := (Reg.gfr_eval0 (ops := (Reg.opsOf Tryd.f6 8)) (a0 := a0) (v := v) (L := [15]) 6 (by kernel_rfl)).trans i6
    have e53 := (Reg.gfr_eval (ops := (Reg.opsOf Tryd.f6 8)) (a0 := a0) (v := v) (L := [15]) 53 15 (by kernel_rfl) (by rw [hsz]; omega)).trans d15
    refine ⟨Reg.wanted_of rfl (by kernel_rfl) e53, ?_⟩
    generalize Reg.gfr (Reg.opsOf Tryd.f6 8) a0 v [15] = G at e6 ⊢
    generalize hρ : G.eval = ρ at e6
    have hρ' : G.eval = ρ := hρ
    refine Reg.go_run (Value.slice (some ⟨g, o, none⟩) m c2) W ?_ ?_
    · rw [hρ']; simp [execOp, go_sem, e6]
    · exact ⟨Below.refl _ _, rfl⟩
set_option maxHeartbeats 4000000 in
set_option maxRecDepth 20000 in
theorem hg8p_h18 :
    Reg.OpOK Tryd.prog (Reg.opsOf Tryd.f6 8) a0 w0 (hg8pR g o m c2 h kq n c AA S S2 xv) (fun _ _ _ _ => True) 18 := by
    refine Reg.op_ok2 (fun af => { dst := some 56, op := Op.move (Operand.tmp 8), type := 3, pos := "outright.go:82", after := af, guard := some (15, false) }) #[{ on := 15, ground := Ground.guard }] (by kernel_rfl) [15] (by kernel_rfl) fun af v W hb hd => ?_
    have d15 : v 15 = (Value.bool false) := hd 15 (by decide)
    have e8 := (Reg.gfr_eval0 (ops := (Reg.opsOf Tryd.f6 8)) (a0 := a0) (v := v) (L := [15]) 8 (by kernel_rfl)).trans i8
    have e53 := (Reg.gfr_eval (ops := (Reg.opsOf Tryd.f6 8)) (a0 := a0) (v := v) (L := [15]) 53 15 (by kernel_rfl) (by rw [hsz]; omega)).trans d15
    refine ⟨Reg.wanted_of rfl (by kernel_rfl) e53, ?_⟩
    generalize Reg.gfr (Reg.opsOf Tryd.f6 8) a0 v [15] = G at e8 ⊢
    generalize hρ : G.eval = ρ at e8
    have hρ' : G.eval = ρ := hρ
    refine Reg.go_run (Value.int IntKind.i64 (h : Int)) W ?_ ?_
    · rw [hρ']; simp [execOp, go_sem, e8]
    · exact ⟨Below.refl _ _, rfl⟩
set_option maxHeartbeats 4000000 in
set_option maxRecDepth 20000 in
theorem hg8p_h19 :
    Reg.OpOK Tryd.prog (Reg.opsOf Tryd.f6 8) a0 w0 (hg8pR g o m c2 h kq n c AA S S2 xv) (fun _ _ _ _ => True) 19 := by
    refine Reg.op_ok2 (fun af => { dst := some 57, op := Op.indexAddr 47 (Operand.tmp 55) (Operand.tmp 56), type := 0, pos := "outright.go:82", after := af, guard := some (15, false) }) #[{ on := 17, ground := Ground.data }, { on := 18, ground := Ground.data }, { on := 15, ground := Ground.guard }] (by kernel_rfl) [17, 18, 15] (by kernel_rfl) fun af v W hb hd => ?_
    have d15 : v 15 = (Value.bool false) := hd 15 (by decide)
    have d17 : v 17 = (Value.slice (some ⟨g, o, none⟩) m c2) := hd 17 (by decide)
    have d18 : v 18 = (Value.int IntKind.i64 (h : Int)) := hd 18 (by decide)
    have e55 := (Reg.gfr_eval (ops := (Reg.opsOf Tryd.f6 8)) (a0 := a0) (v := v) (L := [17, 18, 15]) 55 17 (by kernel_rfl) (by rw [hsz]; omega)).trans d17
    have e56 := (Reg.gfr_eval (ops := (Reg.opsOf Tryd.f6 8)) (a0 := a0) (v := v) (L := [17, 18, 15]) 56 18 (by kernel_rfl) (by rw [hsz]; omega)).trans d18
    have e53 := (Reg.gfr_eval (ops := (Reg.opsOf Tryd.f6 8)) (a0 := a0) (v := v) (L := [17, 18, 15]) 53 15 (by kernel_rfl) (by rw [hsz]; omega)).trans d15
    refine ⟨Reg.wanted_of rfl (by kernel_rfl) e53, ?_⟩
    generalize Reg.gfr (Reg.opsOf Tryd.f6 8) a0 v [17, 18, 15] = G at e55 e56 ⊢
    generalize hρ : G.eval = ρ at e55 e56
    have hρ' : G.eval = ρ := hρ
    refine Reg.go_run (Value.pointer (some ⟨g, o + h * 32, none⟩)) W ?_ ?_
    · rw [hρ']; simp [execOp, go_sem, e55, e56, hhm, Tryd.underlying47, Tryd.sizeOf25]
    · exact ⟨Below.refl _ _, rfl⟩
set_option maxHeartbeats 4000000 in
set_option maxRecDepth 20000 in
theorem hg8p_h20 :
    Reg.OpOK Tryd.prog (Reg.opsOf Tryd.f6 8) a0 w0 (hg8pR g o m c2 h kq n c AA S S2 xv) (fun _ _ _ _ => True) 20 := by
    refine Reg.op_ok2 (fun af => { dst := some 58, op := Op.load 25 (Operand.tmp 57), type := 25, pos := "outright.go:82", after := af, guard := some (15, false) }) #[{ on := 19, ground := Ground.data }, { on := 15, ground := Ground.guard }] (by kernel_rfl) [19, 15] (by kernel_rfl) fun af v W hb hd => ?_
    have d15 : v 15 = (Value.bool false) := hd 15 (by decide)
    have d19 : v 19 = (Value.pointer (some ⟨g, o + h * 32, none⟩)) := hd 19 (by decide)
    have e57 := (Reg.gfr_eval (ops := (Reg.opsOf Tryd.f6 8)) (a0 := a0) (v := v) (L := [19, 15]) 57 19 (by kernel_rfl) (by rw [hsz]; omega)).trans d19
    have e53 := (Reg.gfr_eval (ops := (Reg.opsOf Tryd.f6 8)) (a0 := a0) (v := v) (L := [19, 15]) 53 15 (by kernel_rfl) (by rw [hsz]; omega)).trans d15
    refine ⟨Reg.wanted_of rfl (by kernel_rfl) e53, ?_⟩
    generalize Reg.gfr (Reg.opsOf Tryd.f6 8) a0 v [19, 15] = G at e57 ⊢
    generalize hρ : G.eval = ρ at e57
    have hρ' : G.eval = ρ := hρ
    exact fun K hK => wp_load_mid 25 (.tmp 57) rfl g (o + h * 32) (by rw [hρ']; exact e57) S _ (hld W hb) Tryd.underlying25 rfl hSi (hK _ _ ⟨Below.refl _ _, rfl⟩)
set_option maxHeartbeats 4000000 in
set_option maxRecDepth 20000 in
theorem hg8p_h21 :
    Reg.OpOK Tryd.prog (Reg.opsOf Tryd.f6 8) a0 w0 (hg8pR g o m c2 h kq n c AA S S2 xv) (fun _ _ _ _ => True) 21 := by
    refine Reg.op_ok2 (fun af => { dst := some 59, op := Op.call { callee := Callee.value (Operand.func 18), args := #[Operand.tmp 54, Operand.tmp 58], argTypes := #[47, 25] }, type := 4, pos := "outright.go:82", after := af, guard := some (15, false) }) #[{ on := 16, ground := Ground.data }, { on := 20, ground := Ground.data }, { on := 15, ground := Ground.chain }, { on := 15, ground := Ground.guard }] (by kernel_rfl) [16, 20, 15, 15] (by kernel_rfl) fun af v W hb hd => ?_
    have d15 : v 15 = (Value.bool false) := hd 15 (by decide)
    have d16 : v 16 = (Value.slice AA n c) := hd 16 (by decide)
    have d20 : v 20 = (Value.agg S.toArray) := hd 20 (by decide)
    have e54 := (Reg.gfr_eval (ops := (Reg.opsOf Tryd.f6 8)) (a0 := a0) (v := v) (L := [16, 20, 15, 15]) 54 16 (by kernel_rfl) (by rw [hsz]; omega)).trans d16
    have e58 := (Reg.gfr_eval (ops := (Reg.opsOf Tryd.f6 8)) (a0 := a0) (v := v) (L := [16, 20, 15, 15]) 58 20 (by kernel_rfl) (by rw [hsz]; omega)).trans d20
    have e53 := (Reg.gfr_eval (ops := (Reg.opsOf Tryd.f6 8)) (a0 := a0) (v := v) (L := [16, 20, 15, 15]) 53 15 (by kernel_rfl) (by rw [hsz]; omega)).trans d15
    refine ⟨Reg.wanted_of rfl (by kernel_rfl) e53, ?_⟩
    have eF : ∀ f, (Reg.gfr (Reg.opsOf Tryd.f6 8) a0 v [16, 20, 15, 15]).eval (.func f) = .func (.func f) #[] #[] := fun _ => rfl
    generalize Reg.gfr (Reg.opsOf Tryd.f6 8) a0 v [16, 20, 15, 15] = G at e54 e58 eF ⊢
    generalize hρ : G.eval = ρ at e54 e58 eF
    have hρ' : G.eval = ρ := hρ
    refine Reg.go_call 18 #[(Value.slice AA n c), (Value.agg S.toArray)] (by rw [hρ']; simp [execOp, go_sem, e54, e58, eF]) ((hhas W hb).mono fun e w' he => ?_)
    obtain ⟨rfl, hbb⟩ := he
    exact ⟨_, rfl, hbb, rfl⟩
set_option maxHeartbeats 4000000 in
set_option maxRecDepth 20000 in
theorem hg8p_h22 :
    Reg.OpOK Tryd.prog (Reg.opsOf Tryd.f6 8) a0 w0 (hg8pR g o m c2 h kq n c AA S S2 xv) (fun _ _ _ _ => True) 22 := by
    refine Reg.op_ok2 (fun af => { dst := some 60, op := Op.unOp UnOp.not 4 (Operand.tmp 59), type := 4, pos := "outright.go:82", after := af, guard := some (15, false) }) #[{ on := 21, ground := Ground.data }, { on := 15, ground := Ground.guard }] (by kernel_rfl) [21, 15] (by kernel_rfl) fun af v W hb hd => ?_
    have d15 : v 15 = (Value.bool false) := hd 15 (by decide)
    have d21 : v 21 = (Value.bool true) := hd 21 (by decide)
    have e59 := (Reg.gfr_eval (ops := (Reg.opsOf Tryd.f6 8)) (a0 := a0) (v := v) (L := [21, 15]) 59 21 (by kernel_rfl) (by rw [hsz]; omega)).trans d21
    have e53 := (Reg.gfr_eval (ops := (Reg.opsOf Tryd.f6 8)) (a0 := a0) (v := v) (L := [21, 15]) 53 15 (by kernel_rfl) (by rw [hsz]; omega)).trans d15
    refine ⟨Reg.wanted_of rfl (by kernel_rfl) e53, ?_⟩
    generalize Reg.gfr (Reg.opsOf Tryd.f6 8) a0 v [21, 15] = G at e59 ⊢
    generalize hρ : G.eval = ρ at e59
    have hρ' : G.eval = ρ := hρ
    refine Reg.go_run (Value.bool false) W ?_ ?_
    · rw [hρ']; simp [execOp, go_sem, e59]
    · exact ⟨Below.refl _ _, rfl⟩
set_option maxHeartbeats 4000000 in
set_option maxRecDepth 20000 in
theorem hg8p_h23 :
    Reg.OpOK Tryd.prog (Reg.opsOf Tryd.f6 8) a0 w0 (hg8pR g o m c2 h kq n c AA S S2 xv) (fun _ _ _ _ => True) 23 := by
    refine Reg.op_ok2 (fun af => { dst := some 61, op := Op.pick (Operand.tmp 53) (Operand.const (Value.bool true)) (Operand.tmp 60), type := 4, pos := "outright.go:82", after := af, guard := none }) #[{ on := 15, ground := Ground.data }, { on := 22, ground := Ground.data }] (by kernel_rfl) [15, 22] (by kernel_rfl) fun af v W hb hd => ?_
    have d15 : v 15 = (Value.bool false) := hd 15 (by decide)
    have d22 : v 22 = (Value.bool false) := hd 22 (by decide)
    have e53 := (Reg.gfr_eval (ops := (Reg.opsOf Tryd.f6 8)) (a0 := a0) (v := v) (L := [15, 22]) 53 15 (by kernel_rfl) (by rw [hsz]; omega)).trans d15
    have e60 := (Reg.gfr_eval (ops := (Reg.opsOf Tryd.f6 8)) (a0 := a0) (v := v) (L := [15, 22]) 60 22 (by kernel_rfl) (by rw [hsz]; omega)).trans d22
    refine ⟨Reg.wanted_none rfl, ?_⟩
    have eC : ∀ x, (Reg.gfr (Reg.opsOf Tryd.f6 8) a0 v [15, 22]).eval (.const x) = x := fun _ => rfl
    generalize Reg.gfr (Reg.opsOf Tryd.f6 8) a0 v [15, 22] = G at e53 e60 eC ⊢
    generalize hρ : G.eval = ρ at e53 e60 eC
    have hρ' : G.eval = ρ := hρ
    refine Reg.go_run (Value.bool false) W ?_ ?_
    · rw [hρ']; simp [execOp, go_sem, e53, e60, eC]
    · exact ⟨Below.refl _ _, rfl⟩
end
set_option maxHeartbeats 4000000 in
set_option maxRecDepth 20000 in
theorem hg8p (g o m c2 h kq n c : Nat) (AA : Option Addr) (S S2 : List Value) (xv : Int) (w0 : World) {s1 s2 s3 s4 s5 s7 s9 s10 s11 s12 s13 s14 s15 s16 s17 s18 s19 s20 s21 s22 s23 s24 s25 s26 s27 s28 s29 s30 s31 s32 s33 s34 s35 s36 s37 s38 s39 s40 s41 s42 s43 s44 s45 s46 s47 s48 s49 s50 s51 s52 s53 s54 s55 s56 s57 s58 s59 s60 s61 s62 s63 s64 s65 s66 s67 s68 s69 s70 s71 s72 s73 s74 s75 s76 s77 s78 s79 s80 s81 s82 s83 s84 s85 s86 s87 s88 s89 s90 s91 s92 s93 s94 s95 s96 s97 s98 s99 s100 s101 s102 s103 s104 s105 s106 s107 s108 : Value}
    (hhm : (h : Int) < (m : Int)) (hqm : (kq : Int) < (m : Int)) (hpos : 0 < h) (hxv : xv < 0)
    (hsub : IntKind.i64.wrap ((h : Int) - 1) = (kq : Int))
    (hld : ∀ W, Below w0.heap.size w0 W → W.rangeAt g (o + h * 32) S)
    (hSi : (Tryd.prog.info? 25).map (·.size) = some S.length)
    (hld2 : ∀ W, Below w0.heap.size w0 W → W.rangeAt g (o + kq * 32) S2)
    (hSi2 : (Tryd.prog.info? 25).map (·.size) = some S2.length)
    (hcmp : ∀ W, Below w0.heap.size w0 W → Calls Tryd.prog 16 #[.agg S2.toArray, .agg S.toArray] W fun e w' => e = .returned (.int .i64 xv) ∧ Below W.heap.size W w')
    (hhas : ∀ W, Below w0.heap.size w0 W → Calls Tryd.prog 18 #[.slice AA n c, .agg S.toArray] W fun e w' => e = .returned (.bool true) ∧ Below W.heap.size W w')
    {Q : Exit → Act → World → Prop}
    (hend : ∀ (w : World), Below w0.heap.size w0 w → Q .normal { tmps := #[(Value.slice AA n c), s1, s2, s3, s4, s5, (Value.slice (some ⟨g, o, none⟩) m c2), s7, (Value.int IntKind.i64 (h : Int)), s9, s10, s11, s12, s13, s14, s15, s16, s17, s18, s19, s20, s21, s22, s23, s24, s25, s26, s27, s28, s29, s30, s31, s32, s33, s34, s35, s36, s37, (Value.int IntKind.i64 (h : Int)), (Value.bool true), (Value.bool true), (Value.slice (some ⟨g, o, none⟩) m c2), (Value.int IntKind.i64 (h : Int)), (Value.int IntKind.i64 (kq : Int)), (Value.pointer (some ⟨g, o + kq * 32, none⟩)), (Value.agg S2.toArray), (Value.slice (some ⟨g, o, none⟩) m c2), (Value.int IntKind.i64 (h : Int)), (Value.pointer (some ⟨g, o + h * 32, none⟩)), (Value.agg S.toArray), (Value.int IntKind.i64 xv), (Value.bool false), (Value.bool false), (Value.bool false), (Value.slice AA n c), (Value.slice (some ⟨g, o, none⟩) m c2), (Value.int IntKind.i64 (h : Int)), (Value.pointer (some ⟨g, o + h * 32, none⟩)), (Value.agg S.toArray), (Value.bool true), (Value.bool false), (Value.bool false), s62, s63, s64, s65, s66, s67, s68, s69, s70, s71, s72, s73, s74, s75, s76, s77, s78, s79, s80, s81, s82, s83, s84, s85, s86, s87, s88, s89, s90, s91, s92, s93, s94, s95, s96, s97, s98, s99, s100, s101, s102, s103, s104, s105, s106, s107, s108], defers := [] } w) :
    (Code.region 8 (Reg.opsOf Tryd.f6 8) true).wp Tryd.prog Q { tmps := #[(Value.slice AA n c), s1, s2, s3, s4, s5, (Value.slice (some ⟨g, o, none⟩) m c2), s7, (Value.int IntKind.i64 (h : Int)), s9, s10, s11, s12, s13, s14, s15, s16, s17, s18, s19, s20, s21, s22, s23, s24, s25, s26, s27, s28, s29, s30, s31, s32, s33, s34, s35, s36, s37, s38, s39, s40, s41, s42, s43, s44, s45, s46, s47, s48, s49, s50, s51, s52, s53, s54, s55, s56, s57, s58, s59, s60, s61, s62, s63, s64, s65, s66, s67, s68, s69, s70, s71, s72, s73, s74, s75, s76, s77, s78, s79, s80, s81, s82, s83, s84, s85, s86, s87, s88, s89, s90, s91, s92, s93, s94, s95, s96, s97, s98, s99, s100, s101, s102, s103, s104, s105, s106, s107, s108], defers := [] } w0 := by
  obtain ⟨a0, ha0⟩ : ∃ a0 : Act, a0 = { tmps := #[(Value.slice AA n c), s1, s2, s3, s4, s5, (Value.slice (some ⟨g, o, none⟩) m c2), s7, (Value.int IntKind.i64 (h : Int)), s9, s10, s11, s12, s13, s14, s15, s16, s17, s18, s19, s20, s21, s22, s23, s24, s25, s26, s27, s28, s29, s30, s31, s32, s33, s34, s35, s36, s37, s38, s39, s40, s41, s42, s43, s44, s45, s46, s47, s48, s49, s50, s51, s52, s53, s54, s55, s56, s57, s58, s59, s60, s61, s62, s63, s64, s65, s66, s67, s68, s69, s70, s71, s72, s73, s74, s75, s76, s77, s78, s79, s80, s81, s82, s83, s84, s85, s86, s87, s88, s89, s90, s91, s92, s93, s94, s95, s96, s97, s98, s99, s100, s101, s102, s103, s104, s105, s106, s107, s108], defers := [] } := ⟨_, rfl⟩
  have hfin : ∀ v : Nat → Value, Reg.gfr (Reg.opsOf Tryd.f6 8) a0 v (List.range 24) = { tmps := #[(Value.slice AA n c), s1, s2, s3, s4, s5, (Value.slice (some ⟨g, o, none⟩) m c2), s7, (Value.int IntKind.i64 (h : Int)), s9, s10, s11, s12, s13, s14, s15, s16, s17, s18, s19, s20, s21, s22, s23, s24, s25, s26, s27, s28, s29, s30, s31, s32, s33, s34, s35, s36, s37, v 0, v 1, v 2, v 3, v 4, v 5, v 6, v 7, v 8, v 9, v 10, v 11, v 12, v 13, v 14, v 15, v 16, v 17, v 18, v 19, v 20, v 21, v 22, v 23, s62, s63, s64, s65, s66, s67, s68, s69, s70, s71, s72, s73, s74, s75, s76, s77, s78, s79, s80, s81, s82, s83, s84, s85, s86, s87, s88, s89, s90, s91, s92, s93, s94, s95, s96, s97, s98, s99, s100, s101, s102, s103, s104, s105, s106, s107, s108], defers := [] } := fun v => by rw [ha0]; kernel_rfl
  rw [← ha0]
  have i0 : a0.eval (.tmp 0) = (Value.slice AA n c) := by rw [ha0]; rfl
  have i6 : a0.eval (.tmp 6) = (Value.slice (some ⟨g, o, none⟩) m c2) := by rw [ha0]; rfl
  have i8 : a0.eval (.tmp 8) = (Value.int IntKind.i64 (h : Int)) := by rw [ha0]; rfl
  have hsz : a0.tmps.size = 109 := by rw [ha0]; rfl
  clear ha0
  have hn : (Reg.opsOf Tryd.f6 8).size = 24 := by kernel_rfl
  have h0 := hg8p_h0 g o m c2 h kq n c AA S S2 xv w0 a0 hhm hqm hpos hxv hsub hld hSi hld2 hSi2 hcmp hhas i0 i6 i8 hsz
  have h1 := hg8p_h1 g o m c2 h kq n c AA S S2 xv w0 a0 hhm hqm hpos hxv hsub hld hSi hld2 hSi2 hcmp hhas i0 i6 i8 hsz
  have h2 := hg8p_h2 g o m c2 h kq n c AA S S2 xv w0 a0 hhm hqm hpos hxv hsub hld hSi hld2 hSi2 hcmp hhas i0 i6 i8 hsz
  have h3 := hg8p_h3 g o m c2 h kq n c AA S S2 xv w0 a0 hhm hqm hpos hxv hsub hld hSi hld2 hSi2 hcmp hhas i0 i6 i8 hsz
  have h4 := hg8p_h4 g o m c2 h kq n c AA S S2 xv w0 a0 hhm hqm hpos hxv hsub hld hSi hld2 hSi2 hcmp hhas i0 i6 i8 hsz
  have h5 := hg8p_h5 g o m c2 h kq n c AA S S2 xv w0 a0 hhm hqm hpos hxv hsub hld hSi hld2 hSi2 hcmp hhas i0 i6 i8 hsz
  have h6 := hg8p_h6 g o m c2 h kq n c AA S S2 xv w0 a0 hhm hqm hpos hxv hsub hld hSi hld2 hSi2 hcmp hhas i0 i6 i8 hsz
  have h7 := hg8p_h7 g o m c2 h kq n c AA S S2 xv w0 a0 hhm hqm hpos hxv hsub hld hSi hld2 hSi2 hcmp hhas i0 i6 i8 hsz
  have h8 := hg8p_h8 g o m c2 h kq n c AA S S2 xv w0 a0 hhm hqm hpos hxv hsub hld hSi hld2 hSi2 hcmp hhas i0 i6 i8 hsz
  have h9 := hg8p_h9 g o m c2 h kq n c AA S S2 xv w0 a0 hhm hqm hpos hxv hsub hld hSi hld2 hSi2 hcmp hhas i0 i6 i8 hsz
  have h10 := hg8p_h10 g o m c2 h kq n c AA S S2 xv w0 a0 hhm hqm hpos hxv hsub hld hSi hld2 hSi2 hcmp hhas i0 i6 i8 hsz
  have h11 := hg8p_h11 g o m c2 h kq n c AA S S2 xv w0 a0 hhm hqm hpos hxv hsub hld hSi hld2 hSi2 hcmp hhas i0 i6 i8 hsz
  have h12 := hg8p_h12 g o m c2 h kq n c AA S S2 xv w0 a0 hhm hqm hpos hxv hsub hld hSi hld2 hSi2 hcmp hhas i0 i6 i8 hsz
  have h13 := hg8p_h13 g o m c2 h kq n c AA S S2 xv w0 a0 hhm hqm hpos hxv hsub hld hSi hld2 hSi2 hcmp hhas i0 i6 i8 hsz
  have h14 := hg8p_h14 g o m c2 h kq n c AA S S2 xv w0 a0 hhm hqm hpos hxv hsub hld hSi hld2 hSi2 hcmp hhas i0 i6 i8 hsz
  have h15 := hg8p_h15 g o m c2 h kq n c AA S S2 xv w0 a0 hhm hqm hpos hxv hsub hld hSi hld2 hSi2 hcmp hhas i0 i6 i8 hsz
  have h16 := hg8p_h16 g o m c2 h kq n c AA S S2 xv w0 a0 hhm hqm hpos hxv hsub hld hSi hld2 hSi2 hcmp hhas i0 i6 i8 hsz
  have h17 := hg8p_h17 g o m c2 h kq n c AA S S2 xv w0 a0 hhm hqm hpos hxv hsub hld hSi hld2 hSi2 hcmp hhas i0 i6 i8 hsz
  have h18 := hg8p_h18 g o m c2 h kq n c AA S S2 xv w0 a0 hhm hqm hpos hxv hsub hld hSi hld2 hSi2 hcmp hhas i0 i6 i8 hsz
  have h19 := hg8p_h19 g o m c2 h kq n c AA S S2 xv w0 a0 hhm hqm hpos hxv hsub hld hSi hld2 hSi2 hcmp hhas i0 i6 i8 hsz
  have h20 := hg8p_h20 g o m c2 h kq n c AA S S2 xv w0 a0 hhm hqm hpos hxv hsub hld hSi hld2 hSi2 hcmp hhas i0 i6 i8 hsz
  have h21 := hg8p_h21 g o m c2 h kq n c AA S S2 xv w0 a0 hhm hqm hpos hxv hsub hld hSi hld2 hSi2 hcmp hhas i0 i6 i8 hsz
  have h22 := hg8p_h22 g o m c2 h kq n c AA S S2 xv w0 a0 hhm hqm hpos hxv hsub hld hSi hld2 hSi2 hcmp hhas i0 i6 i8 hsz
  have h23 := hg8p_h23 g o m c2 h kq n c AA S S2 xv w0 a0 hhm hqm hpos hxv hsub hld hSi hld2 hSi2 hcmp hhas i0 i6 i8 hsz
  refine Reg.region_all (by kernel_rfl) (hg8pR g o m c2 h kq n c AA S S2 xv) (by rw [hn, hsz]; kernel_rfl) (hg8p_stable g o m c2 h kq n c AA S S2 xv) (fun i hi => ?_) (fun v w hb hR => ?_)
  · rw [hn] at hi
    match i, List.mem_range.1 hi with
    | 0, _ => exact h0
    | 1, _ => exact h1
    | 2, _ => exact h2
    | 3, _ => exact h3
    | 4, _ => exact h4
    | 5, _ => exact h5
    | 6, _ => exact h6
    | 7, _ => exact h7
    | 8, _ => exact h8
    | 9, _ => exact h9
    | 10, _ => exact h10
    | 11, _ => exact h11
    | 12, _ => exact h12
    | 13, _ => exact h13
    | 14, _ => exact h14
    | 15, _ => exact h15
    | 16, _ => exact h16
    | 17, _ => exact h17
    | 18, _ => exact h18
    | 19, _ => exact h19
    | 20, _ => exact h20
    | 21, _ => exact h21
    | 22, _ => exact h22
    | 23, _ => exact h23
    | (_ + 24), h => omega
  · rw [hn] at hR ⊢
    have v0 : v 0 = (Value.int IntKind.i64 (h : Int)) := hR 0 (by decide)
    have v1 : v 1 = (Value.bool true) := hR 1 (by decide)
    have v2 : v 2 = (Value.bool true) := hR 2 (by decide)
    have v3 : v 3 = (Value.slice (some ⟨g, o, none⟩) m c2) := hR 3 (by decide)
    have v4 : v 4 = (Value.int IntKind.i64 (h : Int)) := hR 4 (by decide)
    have v5 : v 5 = (Value.int IntKind.i64 (kq : Int)) := hR 5 (by decide)
    have v6 : v 6 = (Value.pointer (some ⟨g, o + kq * 32, none⟩)) := hR 6 (by decide)
    have v7 : v 7 = (Value.agg S2.toArray) := hR 7 (by decide)
    have v8 : v 8 = (Value.slice (some ⟨g, o, none⟩) m c2) := hR 8 (by decide)
    have v9 : v 9 = (Value.int IntKind.i64 (h : Int)) := hR 9 (by decide)
    have v10 : v 10 = (Value.pointer (some ⟨g, o + h * 32, none⟩)) := hR 10 (by decide)
    have v11 : v 11 = (Value.agg S.toArray) := hR 11 (by decide)
    have v12 : v 12 = (Value.int IntKind.i64 xv) := hR 12 (by decide)
    have v13 : v 13 = (Value.bool false) := hR 13 (by decide)
    have v14 : v 14 = (Value.bool false) := hR 14 (by decide)
    have v15 : v 15 = (Value.bool false) := hR 15 (by decide)
    have v16 : v 16 = (Value.slice AA n c) := hR 16 (by decide)
    have v17 : v 17 = (Value.slice (some ⟨g, o, none⟩) m c2) := hR 17 (by decide)
    have v18 : v 18 = (Value.int IntKind.i64 (h : Int)) := hR 18 (by decide)
    have v19 : v 19 = (Value.pointer (some ⟨g, o + h * 32, none⟩)) := hR 19 (by decide)
    have v20 : v 20 = (Value.agg S.toArray) := hR 20 (by decide)
    have v21 : v 21 = (Value.bool true) := hR 21 (by decide)
    have v22 : v 22 = (Value.bool false) := hR 22 (by decide)
    have v23 : v 23 = (Value.bool false) := hR 23 (by decide)
    rw [hfin v, v0, v1, v2, v3, v4, v5, v6, v7, v8, v9, v10, v11, v12, v13, v14, v15, v16, v17, v18, v19, v20, v21, v22, v23]
    exact hend w  hb 
def hg8zR (g o m c2 n c : Nat) (AA : Option Addr) (S : List Value) : Nat → Value → World → Prop
  | 0 => fun x_ _ => x_ = (Value.int IntKind.i64 ((0 : Nat) : Int))
  | 1 => fun x_ _ => x_ = (Value.bool false)
  | 2 => fun x_ _ => x_ = (Value.bool false)
  | 3 => fun x_ _ => x_ = undef
  | 4 => fun x_ _ => x_ = undef
  | 5 => fun x_ _ => x_ = undef
  | 6 => fun x_ _ => x_ = undef
  | 7 => fun x_ _ => x_ = undef
  | 8 => fun x_ _ => x_ = undef
  | 9 => fun x_ _ => x_ = undef
  | 10 => fun x_ _ => x_ = undef
  | 11 => fun x_ _ => x_ = undef
  | 12 => fun x_ _ => x_ = undef
  | 13 => fun x_ _ => x_ = undef
  | 14 => fun x_ _ => x_ = (Value.bool false)
  | 15 => fun x_ _ => x_ = (Value.bool false)
  | 16 => fun x_ _ => x_ = (Value.slice AA n c)
  | 17 => fun x_ _ => x_ = (Value.slice (some ⟨g, o, none⟩) m c2)
  | 18 => fun x_ _ => x_ = (Value.int IntKind.i64 ((0 : Nat) : Int))
  | 19 => fun x_ _ => x_ = (Value.pointer (some ⟨g, o + 0 * 32, none⟩))
  | 20 => fun x_ _ => x_ = (Value.agg S.toArray)
  | 21 => fun x_ _ => x_ = (Value.bool true)
  | 22 => fun x_ _ => x_ = (Value.bool false)
  | 23 => fun x_ _ => x_ = (Value.bool false)
  | _ => fun _ _ => True
theorem hg8z_stable (g o m c2 n c : Nat) (AA : Option Addr) (S : List Value) : ∀ i_ u_ w_ w_', (hg8zR g o m c2 n c AA S) i_ u_ w_ → Below w_.heap.size w_ w_' → (hg8zR g o m c2 n c AA S) i_ u_ w_' := fun i_ u_ w_ w_' h_ hb_ => by
  match i_, h_ with
  | 0, h_ => exact h_
  | 1, h_ => exact h_
  | 2, h_ => exact h_
  | 3, h_ => exact h_
  | 4, h_ => exact h_
  | 5, h_ => exact h_
  | 6, h_ => exact h_
  | 7, h_ => exact h_
  | 8, h_ => exact h_
  | 9, h_ => exact h_
  | 10, h_ => exact h_
  | 11, h_ => exact h_
  | 12, h_ => exact h_
  | 13, h_ => exact h_
  | 14, h_ => exact h_
  | 15, h_ => exact h_
  | 16, h_ => exact h_
  | 17, h_ => exact h_
  | 18, h_ => exact h_
  | 19, h_ => exact h_
  | 20, h_ => exact h_
  | 21, h_ => exact h_
  | 22, h_ => exact h_
  | 23, h_ => exact h_
  | (_ + 24), _ => trivial
section
variable (g o m c2 n c : Nat) (AA : Option Addr) (S : List Value) (w0 : World) (a0 : Act)
variable (hhm : 0 < m)
variable (hld : ∀ W, Below w0.heap.size w0 W → W.rangeAt g (o + 0 * 32) S)
variable (hSi : (Tryd.prog.info? 25).map (·.size) = some S.length)
variable (hhas : ∀ W, Below w0.heap.size w0 W → Calls Tryd.prog 18 #[.slice AA n c, .agg S.toArray] W fun e w' => e = .returned (.bool true) ∧ Below W.heap.size W w')
variable (i0 : a0.eval (.tmp 0) = (Value.slice AA n c)) (i6 : a0.eval (.tmp 6) = (Value.slice (some ⟨g, o, none⟩) m c2)) (i8 : a0.eval (.tmp 8) = (Value.int IntKind.i64 ((0 : Nat) : Int))) (hsz : a0.tmps.size = 109)
include g o m c2 n c AA S w0 a0 hhm hld hSi hhas i0 i6 i8 hsz
set_option maxHeartbeats 4000000 in
set_option maxRecDepth 20000 in
theorem hg8z_h0 :
    Reg.OpOK Tryd.prog (Reg.opsOf Tryd.f6 8) a0 w0 (hg8zR g o m c2 n c AA S) (fun _ _ _ _ => True) 0 := by
    refine Reg.op_ok2 (fun af => { dst := some 38, op := Op.move (Operand.tmp 8), type := 3, pos := "outright.go:82", after := af, guard := none }) #[] (by kernel_rfl) [] (by kernel_rfl) fun af v W hb hd => ?_
    have e8 := (Reg.gfr_eval0 (ops := (Reg.opsOf Tryd.f6 8)) (a0 := a0) (v := v) (L := []) 8 (by kernel_rfl)).trans i8
    refine ⟨Reg.wanted_none rfl, ?_⟩
    generalize Reg.gfr (Reg.opsOf Tryd.f6 8) a0 v [] = G at e8 ⊢
    generalize hρ : G.eval = ρ at e8
    have hρ' : G.eval = ρ := hρ
    refine Reg.go_run (Value.int IntKind.i64 ((0 : Nat) : Int)) W ?_ ?_
    · rw [hρ']; simp [execOp, go_sem, e8]
    · exact ⟨Below.refl _ _, rfl⟩
set_option maxHeartbeats 4000000 in
set_option maxRecDepth 20000 in
theorem hg8z_h1 :
    Reg.OpOK Tryd.prog (Reg.opsOf Tryd.f6 8) a0 w0 (hg8zR g o m c2 n c AA S) (fun _ _ _ _ => True) 1 := by
    refine Reg.op_ok2 (fun af => { dst := some 39, op := Op.binOp BinOp.gtr 3 (Operand.tmp 38) (Operand.const (Value.int IntKind.i64 0)) 3, type := 4, pos := "outright.go:82", after := af, guard := none }) #[{ on := 0, ground := Ground.data }] (by kernel_rfl) [0] (by kernel_rfl) fun af v W hb hd => ?_
    have d0 : v 0 = (Value.int IntKind.i64 ((0 : Nat) : Int)) := hd 0 (by decide)
    have e38 := (Reg.gfr_eval (ops := (Reg.opsOf Tryd.f6 8)) (a0 := a0) (v := v) (L := [0]) 38 0 (by kernel_rfl) (by rw [hsz]; omega)).trans d0
    refine ⟨Reg.wanted_none rfl, ?_⟩
    have eC : ∀ x, (Reg.gfr (Reg.opsOf Tryd.f6 8) a0 v [0]).eval (.const x) = x := fun _ => rfl
    generalize Reg.gfr (Reg.opsOf Tryd.f6 8) a0 v [0] = G at e38 eC ⊢
    generalize hρ : G.eval = ρ at e38 eC
    have hρ' : G.eval = ρ := hρ
    refine Reg.go_run (Value.bool false) W ?_ ?_
    · rw [hρ']; simp [execOp, go_sem, e38, eC]
    · exact ⟨Below.refl _ _, rfl⟩
set_option maxHeartbeats 4000000 in
set_option maxRecDepth 20000 in
theorem hg8z_h2 :
    Reg.OpOK Tryd.prog (Reg.opsOf Tryd.f6 8) a0 w0 (hg8zR g o m c2 n c AA S) (fun _ _ _ _ => True) 2 := by
    refine Reg.op_ok2 (fun af => { dst := some 40, op := Op.move (Operand.tmp 39), type := 4, pos := "outright.go:82", after := af, guard := none }) #[{ on := 1, ground := Ground.data }] (by kernel_rfl) [1] (by kernel_rfl) fun af v W hb hd => ?_
    have d1 : v 1 = (Value.bool false) := hd 1 (by decide)
    have e39 := (Reg.gfr_eval (ops := (Reg.opsOf Tryd.f6 8)) (a0 := a0) (v := v) (L := [1]) 39 1 (by kernel_rfl) (by rw [hsz]; omega)).trans d1
    refine ⟨Reg.wanted_none rfl, ?_⟩
    generalize Reg.gfr (Reg.opsOf Tryd.f6 8) a0 v [1] = G at e39 ⊢
    generalize hρ : G.eval = ρ at e39
    have hρ' : G.eval = ρ := hρ
    refine Reg.go_run (Value.bool false) W ?_ ?_
    · rw [hρ']; simp [execOp, go_sem, e39]
    · exact ⟨Below.refl _ _, rfl⟩
set_option maxHeartbeats 4000000 in
set_option maxRecDepth 20000 in
theorem hg8z_h3 :
    Reg.OpOK Tryd.prog (Reg.opsOf Tryd.f6 8) a0 w0 (hg8zR g o m c2 n c AA S) (fun _ _ _ _ => True) 3 := by
    refine Reg.op_no2 (fun af => { dst := some 41, op := Op.move (Operand.tmp 6), type := 47, pos := "outright.go:82", after := af, guard := some (2, true) }) #[{ on := 2, ground := Ground.guard }] (by kernel_rfl) [2] (by kernel_rfl) fun af v W hb hd => ?_
    have d2 : v 2 = (Value.bool false) := hd 2 (by decide)
    have e40 := (Reg.gfr_eval (ops := (Reg.opsOf Tryd.f6 8)) (a0 := a0) (v := v) (L := [2]) 40 2 (by kernel_rfl) (by rw [hsz]; omega)).trans d2
    exact ⟨Reg.wanted_not rfl (by kernel_rfl) e40, rfl, fun _ _ _ _ => ⟨trivial, trivial⟩⟩
set_option maxHeartbeats 4000000 in
set_option maxRecDepth 20000 in
theorem hg8z_h4 :
    Reg.OpOK Tryd.prog (Reg.opsOf Tryd.f6 8) a0 w0 (hg8zR g o m c2 n c AA S) (fun _ _ _ _ => True) 4 := by
    refine Reg.op_no2 (fun af => { dst := some 42, op := Op.move (Operand.tmp 8), type := 3, pos := "outright.go:82", after := af, guard := some (2, true) }) #[{ on := 2, ground := Ground.guard }] (by kernel_rfl) [2] (by kernel_rfl) fun af v W hb hd => ?_
    have d2 : v 2 = (Value.bool false) := hd 2 (by decide)
    have e40 := (Reg.gfr_eval (ops := (Reg.opsOf Tryd.f6 8)) (a0 := a0) (v := v) (L := [2]) 40 2 (by kernel_rfl) (by rw [hsz]; omega)).trans d2
    exact ⟨Reg.wanted_not rfl (by kernel_rfl) e40, rfl, fun _ _ _ _ => ⟨trivial, trivial⟩⟩
set_option maxHeartbeats 4000000 in
set_option maxRecDepth 20000 in
theorem hg8z_h5 :
    Reg.OpOK Tryd.prog (Reg.opsOf Tryd.f6 8) a0 w0 (hg8zR g o m c2 n c AA S) (fun _ _ _ _ => True) 5 := by
    refine Reg.op_no2 (fun af => { dst := some 43, op := Op.binOp BinOp.sub 3 (Operand.tmp 42) (Operand.const (Value.int IntKind.i64 1)) 3, type := 3, pos := "outright.go:82", after := af, guard := some (2, true) }) #[{ on := 4, ground := Ground.data }, { on := 2, ground := Ground.guard }] (by kernel_rfl) [4, 2] (by kernel_rfl) fun af v W hb hd => ?_
    have d2 : v 2 = (Value.bool false) := hd 2 (by decide)
    have e40 := (Reg.gfr_eval (ops := (Reg.opsOf Tryd.f6 8)) (a0 := a0) (v := v) (L := [4, 2]) 40 2 (by kernel_rfl) (by rw [hsz]; omega)).trans d2
    exact ⟨Reg.wanted_not rfl (by kernel_rfl) e40, rfl, fun _ _ _ _ => ⟨trivial, trivial⟩⟩
set_option maxHeartbeats 4000000 in
set_option maxRecDepth 20000 in
theorem hg8z_h6 :
    Reg.OpOK Tryd.prog (Reg.opsOf Tryd.f6 8) a0 w0 (hg8zR g o m c2 n c AA S) (fun _ _ _ _ => True) 6 := by
    refine Reg.op_no2 (fun af => { dst := some 44, op := Op.indexAddr 47 (Operand.tmp 41) (Operand.tmp 43), type := 0, pos := "outright.go:82", after := af, guard := some (2, true) }) #[{ on := 3, ground := Ground.data }, { on := 5, ground := Ground.data }, { on := 2, ground := Ground.guard }] (by kernel_rfl) [3, 5, 2] (by kernel_rfl) fun af v W hb hd => ?_
    have d2 : v 2 = (Value.bool false) := hd 2 (by decide)
    have e40 := (Reg.gfr_eval (ops := (Reg.opsOf Tryd.f6 8)) (a0 := a0) (v := v) (L := [3, 5, 2]) 40 2 (by kernel_rfl) (by rw [hsz]; omega)).trans d2
    exact ⟨Reg.wanted_not rfl (by kernel_rfl) e40, rfl, fun _ _ _ _ => ⟨trivial, trivial⟩⟩
set_option maxHeartbeats 4000000 in
set_option maxRecDepth 20000 in
theorem hg8z_h7 :
    Reg.OpOK Tryd.prog (Reg.opsOf Tryd.f6 8) a0 w0 (hg8zR g o m c2 n c AA S) (fun _ _ _ _ => True) 7 := by
    refine Reg.op_no2 (fun af => { dst := some 45, op := Op.load 25 (Operand.tmp 44), type := 25, pos := "outright.go:82", after := af, guard := some (2, true) }) #[{ on := 6, ground := Ground.data }, { on := 2, ground := Ground.guard }] (by kernel_rfl) [6, 2] (by kernel_rfl) fun af v W hb hd => ?_
    have d2 : v 2 = (Value.bool false) := hd 2 (by decide)
    have e40 := (Reg.gfr_eval (ops := (Reg.opsOf Tryd.f6 8)) (a0 := a0) (v := v) (L := [6, 2]) 40 2 (by kernel_rfl) (by rw [hsz]; omega)).trans d2
    exact ⟨Reg.wanted_not rfl (by kernel_rfl) e40, rfl, fun _ _ _ _ => ⟨trivial, trivial⟩⟩
set_option maxHeartbeats 4000000 in
set_option maxRecDepth 20000 in
theorem hg8z_h8 :
    Reg.OpOK Tryd.prog (Reg.opsOf Tryd.f6 8) a0 w0 (hg8zR g o m c2 n c AA S) (fun _ _ _ _ => True) 8 := by
    refine Reg.op_no2 (fun af => { dst := some 46, op := Op.move (Operand.tmp 6), type := 47, pos := "outright.go:82", after := af, guard := some (2, true) }) #[{ on := 2, ground := Ground.guard }] (by kernel_rfl) [2] (by kernel_rfl) fun af v W hb hd => ?_
    have d2 : v 2 = (Value.bool false) := hd 2 (by decide)
    have e40 := (Reg.gfr_eval (ops := (Reg.opsOf Tryd.f6 8)) (a0 := a0) (v := v) (L := [2]) 40 2 (by kernel_rfl) (by rw [hsz]; omega)).trans d2
    exact ⟨Reg.wanted_not rfl (by kernel_rfl) e40, rfl, fun _ _ _ _ => ⟨trivial, trivial⟩⟩
set_option maxHeartbeats 4000000 in
set_option maxRecDepth 20000 in
theorem hg8z_h9 :
    Reg.OpOK Tryd.prog (Reg.opsOf Tryd.f6 8) a0 w0 (hg8zR g o m c2 n c AA S) (fun _ _ _ _ => True) 9 := by
    refine Reg.op_no2 (fun af => { dst := some 47, op := Op.move (Operand.tmp 8), type := 3, pos := "outright.go:82", after := af, guard := some (2, true) }) #[{ on := 2, ground := Ground.guard }] (by kernel_rfl) [2] (by kernel_rfl) fun af v W hb hd => ?_
    have d2 : v 2 = (Value.bool false) := hd 2 (by decide)
    have e40 := (Reg.gfr_eval (ops := (Reg.opsOf Tryd.f6 8)) (a0 := a0) (v := v) (L := [2]) 40 2 (by kernel_rfl) (by rw [hsz]; omega)).trans d2
    exact ⟨Reg.wanted_not rfl (by kernel_rfl) e40, rfl, fun _ _ _ _ => ⟨trivial, trivial⟩⟩
set_option maxHeartbeats 4000000 in
set_option maxRecDepth 20000 in
theorem hg8z_h10 :
    Reg.OpOK Tryd.prog (Reg.opsOf Tryd.f6 8) a0 w0 (hg8zR g o m c2 n c AA S) (fun _ _ _ _ => True) 10 := by
    refine Reg.op_no2 (fun af => { dst := some 48, op := Op.indexAddr 47 (Operand.tmp 46) (Operand.tmp 47), type := 0, pos := "outright.go:82", after := af, guard := some (2, true) }) #[{ on := 8, ground := Ground.data }, { on := 9, ground := Ground.data }, { on := 2, ground := Ground.guard }] (by kernel_rfl) [8, 9, 2] (by kernel_rfl) fun af v W hb hd => ?_
    have d2 : v 2 = (Value.bool false) := hd 2 (by decide)
    have e40 := (Reg.gfr_eval (ops := (Reg.opsOf Tryd.f6 8)) (a0 := a0) (v := v) (L := [8, 9, 2]) 40 2 (by kernel_rfl) (by rw [hsz]; omega)).trans d2
    exact ⟨Reg.wanted_not rfl (by kernel_rfl) e40, rfl, fun _ _ _ _ => ⟨trivial, trivial⟩⟩
set_option maxHeartbeats 4000000 in
set_option maxRecDepth 20000 in
theorem hg8z_h11 :
    Reg.OpOK Tryd.prog (Reg.opsOf Tryd.f6 8) a0 w0 (hg8zR g o m c2 n c AA S) (fun _ _ _ _ => True) 11 := by
    refine Reg.op_no2 (fun af => { dst := some 49, op := Op.load 25 (Operand.tmp 48), type := 25, pos := "outright.go:82", after := af, guard := some (2, true) }) #[{ on := 10, ground := Ground.data }, { on := 2, ground := Ground.guard }] (by kernel_rfl) [10, 2] (by kernel_rfl) fun af v W hb hd => ?_
    have d2 : v 2 = (Value.bool false) := hd 2 (by decide)
    have e40 := (Reg.gfr_eval (ops := (Reg.opsOf Tryd.f6 8)) (a0 := a0) (v := v) (L := [10, 2]) 40 2 (by kernel_rfl) (by rw [hsz]; omega)).trans d2
    exact ⟨Reg.wanted_not rfl (by kernel_rfl) e40, rfl, fun _ _ _ _ => ⟨trivial, trivial⟩⟩
set_option maxHeartbeats 4000000 in
set_option maxRecDepth 20000 in
theorem hg8z_h12 :
    Reg.OpOK Tryd.prog (Reg.opsOf Tryd.f6 8) a0 w0 (hg8zR g o m c2 n c AA S) (fun _ _ _ _ => True) 12 := by
    refine Reg.op_no2 (fun af => { dst := some 50, op := Op.call { callee := Callee.value (Operand.func 16), args := #[Operand.tmp 45, Operand.tmp 49], argTypes := #[25, 25] }, type := 3, pos := "outright.go:82", after := af, guard := some (2, true) }) #[{ on := 7, ground := Ground.data }, { on := 11, ground := Ground.data }, { on := 2, ground := Ground.chain }, { on := 2, ground := Ground.guard }] (by kernel_rfl) [7, 11, 2, 2] (by kernel_rfl) fun af v W hb hd => ?_
    have d2 : v 2 = (Value.bool false) := hd 2 (by decide)
    have e40 := (Reg.gfr_eval (ops := (Reg.opsOf Tryd.f6 8)) (a0 := a0) (v := v) (L := [7, 11, 2, 2]) 40 2 (by kernel_rfl) (by rw [hsz]; omega)).trans d2
    exact ⟨Reg.wanted_not rfl (by kernel_rfl) e40, rfl, fun _ _ _ _ => ⟨trivial, trivial⟩⟩
set_option maxHeartbeats 4000000 in
set_option maxRecDepth 20000 in
theorem hg8z_h13 :
    Reg.OpOK Tryd.prog (Reg.opsOf Tryd.f6 8) a0 w0 (hg8zR g o m c2 n c AA S) (fun _ _ _ _ => True) 13 := by
    refine Reg.op_no2 (fun af => { dst := some 51, op := Op.binOp BinOp.geq 3 (Operand.tmp 50) (Operand.const (Value.int IntKind.i64 0)) 3, type := 4, pos := "outright.go:82", after := af, guard := some (2, true) }) #[{ on := 12, ground := Ground.data }, { on := 2, ground := Ground.guard }] (by kernel_rfl) [12, 2] (by kernel_rfl) fun af v W hb hd => ?_
    have d2 : v 2 = (Value.bool false) := hd 2 (by decide)
    have e40 := (Reg.gfr_eval (ops := (Reg.opsOf Tryd.f6 8)) (a0 := a0) (v := v) (L := [12, 2]) 40 2 (by kernel_rfl) (by rw [hsz]; omega)).trans d2
    exact ⟨Reg.wanted_not rfl (by kernel_rfl) e40, rfl, fun _ _ _ _ => ⟨trivial, trivial⟩⟩
set_option maxHeartbeats 4000000 in
set_option maxRecDepth 20000 in
theorem hg8z_h14 :
    Reg.OpOK Tryd.prog (Reg.opsOf Tryd.f6 8) a0 w0 (hg8zR g o m c2 n c AA S) (fun _ _ _ _ => True) 14 := by
    refine Reg.op_ok2 (fun af => { dst := some 52, op := Op.pick (Operand.tmp 40) (Operand.tmp 51) (Operand.const (Value.bool false)), type := 4, pos := "outright.go:82", after := af, guard := none }) #[{ on := 2, ground := Ground.data }, { on := 13, ground := Ground.data }] (by kernel_rfl) [2, 13] (by kernel_rfl) fun af v W hb hd => ?_
    have d2 : v 2 = (Value.bool false) := hd 2 (by decide)
    have d13 : v 13 = undef := hd 13 (by decide)
    have e40 := (Reg.gfr_eval (ops := (Reg.opsOf Tryd.f6 8)) (a0 := a0) (v := v) (L := [2, 13]) 40 2 (by kernel_rfl) (by rw [hsz]; omega)).trans d2
    have e51 := (Reg.gfr_eval (ops := (Reg.opsOf Tryd.f6 8)) (a0 := a0) (v := v) (L := [2, 13]) 51 13 (by kernel_rfl) (by rw [hsz]; omega)).trans d13
    refine ⟨Reg.wanted_none rfl, ?_⟩
    have eC : ∀ x, (Reg.gfr (Reg.opsOf Tryd.f6 8) a0 v [2, 13]).eval (.const x) = x := fun _ => rfl
    generalize Reg.gfr (Reg.opsOf Tryd.f6 8) a0 v [2, 13] = G at e40 e51 eC ⊢
    generalize hρ : G.eval = ρ at e40 e51 eC
    have hρ' : G.eval = ρ := hρ
    refine Reg.go_run (Value.bool false) W ?_ ?_
    · rw [hρ']; simp [execOp, go_sem, e40, e51, eC]
    · exact ⟨Below.refl _ _, rfl⟩
set_option maxHeartbeats 4000000 in
set_option maxRecDepth 20000 in
theorem hg8z_h15 :
    Reg.OpOK Tryd.prog (Reg.opsOf Tryd.f6 8) a0 w0 (hg8zR g o m c2 n c AA S) (fun _ _ _ _ => True) 15 := by
    refine Reg.op_ok2 (fun af => { dst := some 53, op := Op.move (Operand.tmp 52), type := 4, pos := "outright.go:82", after := af, guard := none }) #[{ on := 14, ground := Ground.data }, { on := 12, ground := Ground.chain }] (by kernel_rfl) [14, 12] (by kernel_rfl) fun af v W hb hd => ?_
    have d14 : v 14 = (Value.bool false) := hd 14 (by decide)
    have e52 := (Reg.gfr_eval (ops := (Reg.opsOf Tryd.f6 8)) (a0 := a0) (v := v) (L := [14, 12]) 52 14 (by kernel_rfl) (by rw [hsz]; omega)).trans d14
    refine ⟨Reg.wanted_none rfl, ?_⟩
    generalize Reg.gfr (Reg.opsOf Tryd.f6 8) a0 v [14, 12] = G at e52 ⊢
    generalize hρ : G.eval = ρ at e52
    have hρ' : G.eval = ρ := hρ
    refine Reg.go_run (Value.bool false) W ?_ ?_
    · rw [hρ']; simp [execOp, go_sem, e52]
    · exact ⟨Below.refl _ _, rfl⟩
set_option maxHeartbeats 4000000 in
set_option maxRecDepth 20000 in
theorem hg8z_h16 :
    Reg.OpOK Tryd.prog (Reg.opsOf Tryd.f6 8) a0 w0 (hg8zR g o m c2 n c AA S) (fun _ _ _ _ => True) 16 := by
    refine Reg.op_ok2 (fun af => { dst := some 54, op := Op.move (Operand.tmp 0), type := 47, pos := "outright.go:82", after := af, guard := some (15, false) }) #[{ on := 15, ground := Ground.guard }] (by kernel_rfl) [15] (by kernel_rfl) fun af v W hb hd => ?_
    have d15 : v 15 = (Value.bool false) := hd 15 (by decide)
    have e0 := (Reg.gfr_eval0 (ops := (Reg.opsOf Tryd.f6 8)) (a0 := a0) (v := v) (L := [15]) 0 (by kernel_rfl)).trans i0
    have e53 := (Reg.gfr_eval (ops := (Reg.opsOf Tryd.f6 8)) (a0 := a0) (v := v) (L := [15]) 53 15 (by kernel_rfl) (by rw [hsz]; omega)).trans d15
    refine ⟨Reg.wanted_of rfl (by kernel_rfl) e53, ?_⟩
    generalize Reg.gfr (Reg.opsOf Tryd.f6 8) a0 v [15] = G at e0 ⊢
    generalize hρ : G.eval = ρ at e0
    have hρ' : G.eval = ρ := hρ
    refine Reg.go_run (Value.slice AA n c) W ?_ ?_
    · rw [hρ']; simp [execOp, go_sem, e0]
    · exact ⟨Below.refl _ _, rfl⟩
set_option maxHeartbeats 4000000 in
set_option maxRecDepth 20000 in
theorem hg8z_h17 :
    Reg.OpOK Tryd.prog (Reg.opsOf Tryd.f6 8) a0 w0 (hg8zR g o m c2 n c AA S) (fun _ _ _ _ => True) 17 := by
    refine Reg.op_ok2 (fun af => { dst := some 55, op := Op.move (Operand.tmp 6), type := 47, pos := "outright.go:82", after := af, guard := some (15, false) }) #[{ on := 15, ground := Ground.guard }] (by kernel_rfl) [15] (by kernel_rfl) fun af v W hb hd => ?_
    have d15 : v 15 = (Value.bool false) := hd 15 (by decide)
    have e6 := (Reg.gfr_eval0 (ops := (Reg.opsOf Tryd.f6 8)) (a0 := a0) (v := v) (L := [15]) 6 (by kernel_rfl)).trans i6
    have e53 := (Reg.gfr_eval (ops := (Reg.opsOf Tryd.f6 8)) (a0 := a0) (v := v) (L := [15]) 53 15 (by kernel_rfl) (by rw [hsz]; omega)).trans d15
    refine ⟨Reg.wanted_of rfl (by kernel_rfl) e53, ?_⟩
    generalize Reg.gfr (Reg.opsOf Tryd.f6 8) a0 v [15] = G at e6 ⊢
    generalize hρ : G.eval = ρ at e6
    have hρ' : G.eval = ρ := hρ
    refine Reg.go_run (Value.slice (some ⟨g, o, none⟩) m c2) W ?_ ?_
    · rw [hρ']; simp [execOp, go_sem, e6]
    · exact ⟨Below.refl _ _, rfl⟩
set_option maxHeartbeats 4000000 in
set_option maxRecDepth 20000 in
theorem hg8z_h18 :
    Reg.OpOK Tryd.prog (Reg.opsOf Tryd.f6 8) a0 w0 (hg8zR g o m c2 n c AA S) (fun _ _ _ _ => True) 18 := by
    refine Reg.op_ok2 (fun af => { dst := some 56, op := Op.move (Operand.tmp 8), type := 3, pos := "outright.go:82", after := af, guard := some (15, false) }) #[{ on := 15, ground := Ground.guard }] (by kernel_rfl) [15] (by kernel_rfl) fun af v W hb hd => ?_
    have d15 : v 15 = (Value.bool false) := hd 15 (by decide)
    have e8 := (Reg.gfr_eval0 (ops := (Reg.opsOf Tryd.f6 8)) (a0 := a0) (v := v) (L := [15]) 8 (by kernel_rfl)).trans i8
    have e53 := (Reg.gfr_eval (ops := (Reg.opsOf Tryd.f6 8)) (a0 := a0) (v := v) (L := [15]) 53 15 (by kernel_rfl) (by rw [hsz]; omega)).trans d15
    refine ⟨Reg.wanted_of rfl (by kernel_rfl) e53, ?_⟩
    generalize Reg.gfr (Reg.opsOf Tryd.f6 8) a0 v [15] = G at e8 ⊢
    generalize hρ : G.eval = ρ at e8
    have hρ' : G.eval = ρ := hρ
    refine Reg.go_run (Value.int IntKind.i64 ((0 : Nat) : Int)) W ?_ ?_
    · rw [hρ']; simp [execOp, go_sem, e8]
    · exact ⟨Below.refl _ _, rfl⟩
set_option maxHeartbeats 4000000 in
set_option maxRecDepth 20000 in
theorem hg8z_h19 :
    Reg.OpOK Tryd.prog (Reg.opsOf Tryd.f6 8) a0 w0 (hg8zR g o m c2 n c AA S) (fun _ _ _ _ => True) 19 := by
    refine Reg.op_ok2 (fun af => { dst := some 57, op := Op.indexAddr 47 (Operand.tmp 55) (Operand.tmp 56), type := 0, pos := "outright.go:82", after := af, guard := some (15, false) }) #[{ on := 17, ground := Ground.data }, { on := 18, ground := Ground.data }, { on := 15, ground := Ground.guard }] (by kernel_rfl) [17, 18, 15] (by kernel_rfl) fun af v W hb hd => ?_
    have d15 : v 15 = (Value.bool false) := hd 15 (by decide)
    have d17 : v 17 = (Value.slice (some ⟨g, o, none⟩) m c2) := hd 17 (by decide)
    have d18 : v 18 = (Value.int IntKind.i64 ((0 : Nat) : Int)) := hd 18 (by decide)
    have e55 := (Reg.gfr_eval (ops := (Reg.opsOf Tryd.f6 8)) (a0 := a0) (v := v) (L := [17, 18, 15]) 55 17 (by kernel_rfl) (by rw [hsz]; omega)).trans d17
    have e56 := (Reg.gfr_eval (ops := (Reg.opsOf Tryd.f6 8)) (a0 := a0) (v := v) (L := [17, 18, 15]) 56 18 (by kernel_rfl) (by rw [hsz]; omega)).trans d18
    have e53 := (Reg.gfr_eval (ops := (Reg.opsOf Tryd.f6 8)) (a0 := a0) (v := v) (L := [17, 18, 15]) 53 15 (by kernel_rfl) (by rw [hsz]; omega)).trans d15
    refine ⟨Reg.wanted_of rfl (by kernel_rfl) e53, ?_⟩
    generalize Reg.gfr (Reg.opsOf Tryd.f6 8) a0 v [17, 18, 15] = G at e55 e56 ⊢
    generalize hρ : G.eval = ρ at e55 e56
    have hρ' : G.eval = ρ := hρ
    refine Reg.go_run (Value.pointer (some ⟨g, o + 0 * 32, none⟩)) W ?_ ?_
    · rw [hρ']; simp [execOp, go_sem, e55, e56, hhm, Tryd.underlying47, Tryd.sizeOf25]
    · exact ⟨Below.refl _ _, rfl⟩
set_option maxHeartbeats 4000000 in
set_option maxRecDepth 20000 in
theorem hg8z_h20 :
    Reg.OpOK Tryd.prog (Reg.opsOf Tryd.f6 8) a0 w0 (hg8zR g o m c2 n c AA S) (fun _ _ _ _ => True) 20 := by
    refine Reg.op_ok2 (fun af => { dst := some 58, op := Op.load 25 (Operand.tmp 57), type := 25, pos := "outright.go:82", after := af, guard := some (15, false) }) #[{ on := 19, ground := Ground.data }, { on := 15, ground := Ground.guard }] (by kernel_rfl) [19, 15] (by kernel_rfl) fun af v W hb hd => ?_
    have d15 : v 15 = (Value.bool false) := hd 15 (by decide)
    have d19 : v 19 = (Value.pointer (some ⟨g, o + 0 * 32, none⟩)) := hd 19 (by decide)
    have e57 := (Reg.gfr_eval (ops := (Reg.opsOf Tryd.f6 8)) (a0 := a0) (v := v) (L := [19, 15]) 57 19 (by kernel_rfl) (by rw [hsz]; omega)).trans d19
    have e53 := (Reg.gfr_eval (ops := (Reg.opsOf Tryd.f6 8)) (a0 := a0) (v := v) (L := [19, 15]) 53 15 (by kernel_rfl) (by rw [hsz]; omega)).trans d15
    refine ⟨Reg.wanted_of rfl (by kernel_rfl) e53, ?_⟩
    generalize Reg.gfr (Reg.opsOf Tryd.f6 8) a0 v [19, 15] = G at e57 ⊢
    generalize hρ : G.eval = ρ at e57
    have hρ' : G.eval = ρ := hρ
    exact fun K hK => wp_load_mid 25 (.tmp 57) rfl g (o + 0 * 32) (by rw [hρ']; exact e57) S _ (hld W hb) Tryd.underlying25 rfl hSi (hK _ _ ⟨Below.refl _ _, rfl⟩)
set_option maxHeartbeats 4000000 in
set_option maxRecDepth 20000 in
theorem hg8z_h21 :
    Reg.OpOK Tryd.prog (Reg.opsOf Tryd.f6 8) a0 w0 (hg8zR g o m c2 n c AA S) (fun _ _ _ _ => True) 21 := by
    refine Reg.op_ok2 (fun af => { dst := some 59, op := Op.call { callee := Callee.value (Operand.func 18), args := #[Operand.tmp 54, Operand.tmp 58], argTypes := #[47, 25] }, type := 4, pos := "outright.go:82", after := af, guard := some (15, false) }) #[{ on := 16, ground := Ground.data }, { on := 20, ground := Ground.data }, { on := 15, ground := Ground.chain }, { on := 15, ground := Ground.guard }] (by kernel_rfl) [16, 20, 15, 15] (by kernel_rfl) fun af v W hb hd => ?_
    have d15 : v 15 = (Value.bool false) := hd 15 (by decide)
    have d16 : v 16 = (Value.slice AA n c) := hd 16 (by decide)
    have d20 : v 20 = (Value.agg S.toArray) := hd 20 (by decide)
    have e54 := (Reg.gfr_eval (ops := (Reg.opsOf Tryd.f6 8)) (a0 := a0) (v := v) (L := [16, 20, 15, 15]) 54 16 (by kernel_rfl) (by rw [hsz]; omega)).trans d16
    have e58 := (Reg.gfr_eval (ops := (Reg.opsOf Tryd.f6 8)) (a0 := a0) (v := v) (L := [16, 20, 15, 15]) 58 20 (by kernel_rfl) (by rw [hsz]; omega)).trans d20
    have e53 := (Reg.gfr_eval (ops := (Reg.opsOf Tryd.f6 8)) (a0 := a0) (v := v) (L := [16, 20, 15, 15]) 53 15 (by kernel_rfl) (by rw [hsz]; omega)).trans d15
    refine ⟨Reg.wanted_of rfl (by kernel_rfl) e53, ?_⟩
    have eF : ∀ f, (Reg.gfr (Reg.opsOf Tryd.f6 8) a0 v [16, 20, 15, 15]).eval (.func f) = .func (.func f) #[] #[] := fun _ => rfl
    generalize Reg.gfr (Reg.opsOf Tryd.f6 8) a0 v [16, 20, 15, 15] = G at e54 e58 eF ⊢
    generalize hρ : G.eval = ρ at e54 e58 eF
    have hρ' : G.eval = ρ := hρ
    refine Reg.go_call 18 #[(Value.slice AA n c), (Value.agg S.toArray)] (by rw [hρ']; simp [execOp, go_sem, e54, e58, eF]) ((hhas W hb).mono fun e w' he => ?_)
    obtain ⟨rfl, hbb⟩ := he
    exact ⟨_, rfl, hbb, rfl⟩
set_option maxHeartbeats 4000000 in
set_option maxRecDepth 20000 in
theorem hg8z_h22 :
    Reg.OpOK Tryd.prog (Reg.opsOf Tryd.f6 8) a0 w0 (hg8zR g o m c2 n c AA S) (fun _ _ _ _ => True) 22 := by
    refine Reg.op_ok2 (fun af => { dst := some 60, op := Op.unOp UnOp.not 4 (Operand.tmp 59), type := 4, pos := "outright.go:82", after := af, guard := some (15, false) }) #[{ on := 21, ground := Ground.data }, { on := 15, ground := Ground.guard }] (by kernel_rfl) [21, 15] (by kernel_rfl) fun af v W hb hd => ?_
    have d15 : v 15 = (Value.bool false) := hd 15 (by decide)
    have d21 : v 21 = (Value.bool true) := hd 21 (by decide)
    have e59 := (Reg.gfr_eval (ops := (Reg.opsOf Tryd.f6 8)) (a0 := a0) (v := v) (L := [21, 15]) 59 21 (by kernel_rfl) (by rw [hsz]; omega)).trans d21
    have e53 := (Reg.gfr_eval (ops := (Reg.opsOf Tryd.f6 8)) (a0 := a0) (v := v) (L := [21, 15]) 53 15 (by kernel_rfl) (by rw [hsz]; omega)).trans d15
    refine ⟨Reg.wanted_of rfl (by kernel_rfl) e53, ?_⟩
    generalize Reg.gfr (Reg.opsOf Tryd.f6 8) a0 v [21, 15] = G at e59 ⊢
    generalize hρ : G.eval = ρ at e59
    have hρ' : G.eval = ρ := hρ
    refine Reg.go_run (Value.bool false) W ?_ ?_
    · rw [hρ']; simp [execOp, go_sem, e59]
    · exact ⟨Below.refl _ _, rfl⟩
set_option maxHeartbeats 4000000 in
set_option maxRecDepth 20000 in
theorem hg8z_h23 :
    Reg.OpOK Tryd.prog (Reg.opsOf Tryd.f6 8) a0 w0 (hg8zR g o m c2 n c AA S) (fun _ _ _ _ => True) 23 := by
    refine Reg.op_ok2 (fun af => { dst := some 61, op := Op.pick (Operand.tmp 53) (Operand.const (Value.bool true)) (Operand.tmp 60), type := 4, pos := "outright.go:82", after := af, guard := none }) #[{ on := 15, ground := Ground.data }, { on := 22, ground := Ground.data }] (by kernel_rfl) [15, 22] (by kernel_rfl) fun af v W hb hd => ?_
    have d15 : v 15 = (Value.bool false) := hd 15 (by decide)
    have d22 : v 22 = (Value.bool false) := hd 22 (by decide)
    have e53 := (Reg.gfr_eval (ops := (Reg.opsOf Tryd.f6 8)) (a0 := a0) (v := v) (L := [15, 22]) 53 15 (by kernel_rfl) (by rw [hsz]; omega)).trans d15
    have e60 := (Reg.gfr_eval (ops := (Reg.opsOf Tryd.f6 8)) (a0 := a0) (v := v) (L := [15, 22]) 60 22 (by kernel_rfl) (by rw [hsz]; omega)).trans d22
    refine ⟨Reg.wanted_none rfl, ?_⟩
    have eC : ∀ x, (Reg.gfr (Reg.opsOf Tryd.f6 8) a0 v [15, 22]).eval (.const x) = x := fun _ => rfl
    generalize Reg.gfr (Reg.opsOf Tryd.f6 8) a0 v [15, 22] = G at e53 e60 eC ⊢
    generalize hρ : G.eval = ρ at e53 e60 eC
    have hρ' : G.eval = ρ := hρ
    refine Reg.go_run (Value.bool false) W ?_ ?_
    · rw [hρ']; simp [execOp, go_sem, e53, e60, eC]
    · exact ⟨Below.refl _ _, rfl⟩
end
set_option maxHeartbeats 4000000 in
set_option maxRecDepth 20000 in
theorem hg8z (g o m c2 n c : Nat) (AA : Option Addr) (S : List Value) (w0 : World) {s1 s2 s3 s4 s5 s7 s9 s10 s11 s12 s13 s14 s15 s16 s17 s18 s19 s20 s21 s22 s23 s24 s25 s26 s27 s28 s29 s30 s31 s32 s33 s34 s35 s36 s37 s38 s39 s40 s41 s42 s43 s44 s45 s46 s47 s48 s49 s50 s51 s52 s53 s54 s55 s56 s57 s58 s59 s60 s61 s62 s63 s64 s65 s66 s67 s68 s69 s70 s71 s72 s73 s74 s75 s76 s77 s78 s79 s80 s81 s82 s83 s84 s85 s86 s87 s88 s89 s90 s91 s92 s93 s94 s95 s96 s97 s98 s99 s100 s101 s102 s103 s104 s105 s106 s107 s108 : Value}
    (hhm : 0 < m)
    (hld : ∀ W, Below w0.heap.size w0 W → W.rangeAt g (o + 0 * 32) S)
    (hSi : (Tryd.prog.info? 25).map (·.size) = some S.length)
    (hhas : ∀ W, Below w0.heap.size w0 W → Calls Tryd.prog 18 #[.slice AA n c, .agg S.toArray] W fun e w' => e = .returned (.bool true) ∧ Below W.heap.size W w')
    {Q : Exit → Act → World → Prop}
    (hend : ∀ (w : World), Below w0.heap.size w0 w → Q .normal { tmps := #[(Value.slice AA n c), s1, s2, s3, s4, s5, (Value.slice (some ⟨g, o, none⟩) m c2), s7, (Value.int IntKind.i64 ((0 : Nat) : Int)), s9, s10, s11, s12, s13, s14, s15, s16, s17, s18, s19, s20, s21, s22, s23, s24, s25, s26, s27, s28, s29, s30, s31, s32, s33, s34, s35, s36, s37, (Value.int IntKind.i64 ((0 : Nat) : Int)), (Value.bool false), (Value.bool false), undef, undef, undef, undef, undef, undef, undef, undef, undef, undef, undef, (Value.bool false), (Value.bool false), (Value.slice AA n c), (Value.slice (some ⟨g, o, none⟩) m c2), (Value.int IntKind.i64 ((0 : Nat) : Int)), (Value.pointer (some ⟨g, o + 0 * 32, none⟩)), (Value.agg S.toArray), (Value.bool true), (Value.bool false), (Value.bool false), s62, s63, s64, s65, s66, s67, s68, s69, s70, s71, s72, s73, s74, s75, s76, s77, s78, s79, s80, s81, s82, s83, s84, s85, s86, s87, s88, s89, s90, s91, s92, s93, s94, s95, s96, s97, s98, s99, s100, s101, s102, s103, s104, s105, s106, s107, s108], defers := [] } w) :
    (Code.region 8 (Reg.opsOf Tryd.f6 8) true).wp Tryd.prog Q { tmps := #[(Value.slice AA n c), s1, s2, s3, s4, s5, (Value.slice (some ⟨g, o, none⟩) m c2), s7, (Value.int IntKind.i64 ((0 : Nat) : Int)), s9, s10, s11, s12, s13, s14, s15, s16, s17, s18, s19, s20, s21, s22, s23, s24, s25, s26, s27, s28, s29, s30, s31, s32, s33, s34, s35, s36, s37, s38, s39, s40, s41, s42, s43, s44, s45, s46, s47, s48, s49, s50, s51, s52, s53, s54, s55, s56, s57, s58, s59, s60, s61, s62, s63, s64, s65, s66, s67, s68, s69, s70, s71, s72, s73, s74, s75, s76, s77, s78, s79, s80, s81, s82, s83, s84, s85, s86, s87, s88, s89, s90, s91, s92, s93, s94, s95, s96, s97, s98, s99, s100, s101, s102, s103, s104, s105, s106, s107, s108], defers := [] } w0 := by
  obtain ⟨a0, ha0⟩ : ∃ a0 : Act, a0 = { tmps := #[(Value.slice AA n c), s1, s2, s3, s4, s5, (Value.slice (some ⟨g, o, none⟩) m c2), s7, (Value.int IntKind.i64 ((0 : Nat) : Int)), s9, s10, s11, s12, s13, s14, s15, s16, s17, s18, s19, s20, s21, s22, s23, s24, s25, s26, s27, s28, s29, s30, s31, s32, s33, s34, s35, s36, s37, s38, s39, s40, s41, s42, s43, s44, s45, s46, s47, s48, s49, s50, s51, s52, s53, s54, s55, s56, s57, s58, s59, s60, s61, s62, s63, s64, s65, s66, s67, s68, s69, s70, s71, s72, s73, s74, s75, s76, s77, s78, s79, s80, s81, s82, s83, s84, s85, s86, s87, s88, s89, s90, s91, s92, s93, s94, s95, s96, s97, s98, s99, s100, s101, s102, s103, s104, s105, s106, s107, s108], defers := [] } := ⟨_, rfl⟩
  have hfin : ∀ v : Nat → Value, Reg.gfr (Reg.opsOf Tryd.f6 8) a0 v (List.range 24) = { tmps := #[(Value.slice AA n c), s1, s2, s3, s4, s5, (Value.slice (some ⟨g, o, none⟩) m c2), s7, (Value.int IntKind.i64 ((0 : Nat) : Int)), s9, s10, s11, s12, s13, s14, s15, s16, s17, s18, s19, s20, s21, s22, s23, s24, s25, s26, s27, s28, s29, s30, s31, s32, s33, s34, s35, s36, s37, v 0, v 1, v 2, v 3, v 4, v 5, v 6, v 7, v 8, v 9, v 10, v 11, v 12, v 13, v 14, v 15, v 16, v 17, v 18, v 19, v 20, v 21, v 22, v 23, s62, s63, s64, s65, s66, s67, s68, s69, s70, s71, s72, s73, s74, s75, s76, s77, s78, s79, s80, s81, s82, s83, s84, s85, s86, s87, s88, s89, s90, s91, s92, s93, s94, s95, s96, s97, s98, s99, s100, s101, s102, s103, s104, s105, s106, s107, s108], defers := [] } := fun v => by rw [ha0]; kernel_rfl
  rw [← ha0]
  have i0 : a0.eval (.tmp 0) = (Value.slice AA n c) := by rw [ha0]; rfl
  have i6 : a0.eval (.tmp 6) = (Value.slice (some ⟨g, o, none⟩) m c2) := by rw [ha0]; rfl
  have i8 : a0.eval (.tmp 8) = (Value.int IntKind.i64 ((0 : Nat) : Int)) := by rw [ha0]; rfl
  have hsz : a0.tmps.size = 109 := by rw [ha0]; rfl
  clear ha0
  have hn : (Reg.opsOf Tryd.f6 8).size = 24 := by kernel_rfl
  have h0 := hg8z_h0 g o m c2 n c AA S w0 a0 hhm hld hSi hhas i0 i6 i8 hsz
  have h1 := hg8z_h1 g o m c2 n c AA S w0 a0 hhm hld hSi hhas i0 i6 i8 hsz
  have h2 := hg8z_h2 g o m c2 n c AA S w0 a0 hhm hld hSi hhas i0 i6 i8 hsz
  have h3 := hg8z_h3 g o m c2 n c AA S w0 a0 hhm hld hSi hhas i0 i6 i8 hsz
  have h4 := hg8z_h4 g o m c2 n c AA S w0 a0 hhm hld hSi hhas i0 i6 i8 hsz
  have h5 := hg8z_h5 g o m c2 n c AA S w0 a0 hhm hld hSi hhas i0 i6 i8 hsz
  have h6 := hg8z_h6 g o m c2 n c AA S w0 a0 hhm hld hSi hhas i0 i6 i8 hsz
  have h7 := hg8z_h7 g o m c2 n c AA S w0 a0 hhm hld hSi hhas i0 i6 i8 hsz
  have h8 := hg8z_h8 g o m c2 n c AA S w0 a0 hhm hld hSi hhas i0 i6 i8 hsz
  have h9 := hg8z_h9 g o m c2 n c AA S w0 a0 hhm hld hSi hhas i0 i6 i8 hsz
  have h10 := hg8z_h10 g o m c2 n c AA S w0 a0 hhm hld hSi hhas i0 i6 i8 hsz
  have h11 := hg8z_h11 g o m c2 n c AA S w0 a0 hhm hld hSi hhas i0 i6 i8 hsz
  have h12 := hg8z_h12 g o m c2 n c AA S w0 a0 hhm hld hSi hhas i0 i6 i8 hsz
  have h13 := hg8z_h13 g o m c2 n c AA S w0 a0 hhm hld hSi hhas i0 i6 i8 hsz
  have h14 := hg8z_h14 g o m c2 n c AA S w0 a0 hhm hld hSi hhas i0 i6 i8 hsz
  have h15 := hg8z_h15 g o m c2 n c AA S w0 a0 hhm hld hSi hhas i0 i6 i8 hsz
  have h16 := hg8z_h16 g o m c2 n c AA S w0 a0 hhm hld hSi hhas i0 i6 i8 hsz
  have h17 := hg8z_h17 g o m c2 n c AA S w0 a0 hhm hld hSi hhas i0 i6 i8 hsz
  have h18 := hg8z_h18 g o m c2 n c AA S w0 a0 hhm hld hSi hhas i0 i6 i8 hsz
  have h19 := hg8z_h19 g o m c2 n c AA S w0 a0 hhm hld hSi hhas i0 i6 i8 hsz
  have h20 := hg8z_h20 g o m c2 n c AA S w0 a0 hhm hld hSi hhas i0 i6 i8 hsz
  have h21 := hg8z_h21 g o m c2 n c AA S w0 a0 hhm hld hSi hhas i0 i6 i8 hsz
  have h22 := hg8z_h22 g o m c2 n c AA S w0 a0 hhm hld hSi hhas i0 i6 i8 hsz
  have h23 := hg8z_h23 g o m c2 n c AA S w0 a0 hhm hld hSi hhas i0 i6 i8 hsz
  refine Reg.region_all (by kernel_rfl) (hg8zR g o m c2 n c AA S) (by rw [hn, hsz]; kernel_rfl) (hg8z_stable g o m c2 n c AA S) (fun i hi => ?_) (fun v w hb hR => ?_)
  · rw [hn] at hi
    match i, List.mem_range.1 hi with
    | 0, _ => exact h0
    | 1, _ => exact h1
    | 2, _ => exact h2
    | 3, _ => exact h3
    | 4, _ => exact h4
    | 5, _ => exact h5
    | 6, _ => exact h6
    | 7, _ => exact h7
    | 8, _ => exact h8
    | 9, _ => exact h9
    | 10, _ => exact h10
    | 11, _ => exact h11
    | 12, _ => exact h12
    | 13, _ => exact h13
    | 14, _ => exact h14
    | 15, _ => exact h15
    | 16, _ => exact h16
    | 17, _ => exact h17
    | 18, _ => exact h18
    | 19, _ => exact h19
    | 20, _ => exact h20
    | 21, _ => exact h21
    | 22, _ => exact h22
    | 23, _ => exact h23
    | (_ + 24), h => omega
  · rw [hn] at hR ⊢
    have v0 : v 0 = (Value.int IntKind.i64 ((0 : Nat) : Int)) := hR 0 (by decide)
    have v1 : v 1 = (Value.bool false) := hR 1 (by decide)
    have v2 : v 2 = (Value.bool false) := hR 2 (by decide)
    have v3 : v 3 = undef := hR 3 (by decide)
    have v4 : v 4 = undef := hR 4 (by decide)
    have v5 : v 5 = undef := hR 5 (by decide)
    have v6 : v 6 = undef := hR 6 (by decide)
    have v7 : v 7 = undef := hR 7 (by decide)
    have v8 : v 8 = undef := hR 8 (by decide)
    have v9 : v 9 = undef := hR 9 (by decide)
    have v10 : v 10 = undef := hR 10 (by decide)
    have v11 : v 11 = undef := hR 11 (by decide)
    have v12 : v 12 = undef := hR 12 (by decide)
    have v13 : v 13 = undef := hR 13 (by decide)
    have v14 : v 14 = (Value.bool false) := hR 14 (by decide)
    have v15 : v 15 = (Value.bool false) := hR 15 (by decide)
    have v16 : v 16 = (Value.slice AA n c) := hR 16 (by decide)
    have v17 : v 17 = (Value.slice (some ⟨g, o, none⟩) m c2) := hR 17 (by decide)
    have v18 : v 18 = (Value.int IntKind.i64 ((0 : Nat) : Int)) := hR 18 (by decide)
    have v19 : v 19 = (Value.pointer (some ⟨g, o + 0 * 32, none⟩)) := hR 19 (by decide)
    have v20 : v 20 = (Value.agg S.toArray) := hR 20 (by decide)
    have v21 : v 21 = (Value.bool true) := hR 21 (by decide)
    have v22 : v 22 = (Value.bool false) := hR 22 (by decide)
    have v23 : v 23 = (Value.bool false) := hR 23 (by decide)
    rw [hfin v, v0, v1, v2, v3, v4, v5, v6, v7, v8, v9, v10, v11, v12, v13, v14, v15, v16, v17, v18, v19, v20, v21, v22, v23]
    exact hend w  hb 
end Go.Proofs.YtcdnbidenaljlaaDoor
