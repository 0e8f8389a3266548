/- Regions that draw their order: their obligations (printed by regen2.py). -/
import Derived.Test.YtfifbjlmbdgmjaaVecD
import Derived.Test.YtfifbjlmbdgmjaaRegS
namespace Go.Proofs.Ytfifbjlmbdgmjaa
open Go.RowKit
set_option linter.unusedVariables false
set_option linter.unusedSimpArgs false
def hasG_tR (vv : List Nat) (k xx : Nat) (c : Int) (gv gd : Nat) (e : Bool) : Nat → Value → World → Prop
  | 0 => fun x_ _ => x_ = (Value.agg (dC k c))
  | 1 => fun x_ _ => x_ = (Value.int IntKind.i64 0)
  | 2 => fun x_ _ => x_ = (Value.bool true)
  | 3 => fun x_ _ => x_ = (Value.bool true)
  | 4 => fun x_ _ => x_ = (Value.pointer (some ⟨gd, 1, none⟩))
  | 5 => fun x_ _ => x_ = (Value.int IntKind.i64 c)
  | 6 => fun x_ _ => x_ = (Value.pointer (some ⟨gd, 0, none⟩))
  | 7 => fun x_ _ => x_ = (Value.int IntKind.i64 (k : Int))
  | 8 => fun x_ _ => x_ = (Value.pointer (some ⟨gv, k, none⟩))
  | 9 => fun x_ _ => x_ = (Value.int IntKind.u32 (xx : Int))
  | 10 => fun x_ _ => x_ = (Value.int IntKind.i64 (xx : Int))
  | 11 => fun x_ _ => x_ = (Value.bool e)
  | 12 => fun x_ _ => x_ = (Value.bool e)
  | 13 => fun x_ _ => x_ = (Value.bool e)
  | _ => fun _ _ => True
theorem hasG_t_stable (vv : List Nat) (k xx : Nat) (c : Int) (gv gd : Nat) (e : Bool) : ∀ i_ u_ w_ w_', (hasG_tR vv k xx c gv gd e) i_ u_ w_ → Below w_.heap.size w_ w_' → (hasG_tR vv k xx c gv gd e) i_ u_ w_' := fun i_ u_ w_ w_' h_ hb_ => by
  match i_, h_ with
  | 0, h_ => exact h_
  | 1, h_ => exact h_
  | 2, h_ => exact h_
  | 3, h_ => exact h_
  | 4, h_ => exact h_
  | 5, h_ => exact h_
  | 6, h_ => exact h_
  | 7, h_ => exact h_
  | 8, h_ => exact h_
  | 9, h_ => exact h_
  | 10, h_ => exact h_
  | 11, h_ => exact h_
  | 12, h_ => exact h_
  | 13, h_ => exact h_
  | (_ + 14), _ => trivial
set_option maxHeartbeats 4000000 in
set_option maxRecDepth 20000 in
theorem hasG_t (vv : List Nat) (k xx : Nat) (c : Int) (gv gd : Nat) (e : Bool) (w0 : World) {s0 s1 s5 s6 s7 s8 s9 s10 s11 s12 s13 s14 s15 s16 s17 : Value}
    (k0 : (0 : Int) ≤ k) (k1 : (k : Int) < 16) (xw : IntKind.i64.wrap (xx : Int) = xx) (f1 : dotE k c = 0) (f2 : decide (c ≤ (xx : Int)) = e)
    (M_gd : ∀ W, Below w0.heap.size w0 W → W.heap[gd]? = some (.cells (dC k c) 35 (0, 0)))
    (CD0 : ∀ W, Below w0.heap.size w0 W → W.cell? ⟨gd, 0, none⟩ = some (Value.int IntKind.i64 (k : Int)))
    (CD1 : ∀ W, Below w0.heap.size w0 W → W.cell? ⟨gd, 1, none⟩ = some (Value.int IntKind.i64 c))
    (CV : ∀ W, Below w0.heap.size w0 W → W.cell? ⟨gv, k, none⟩ = some (Value.int IntKind.u32 (xx : Int)))
    {Q : Exit → Act → World → Prop}
    (hend : ∀ (w : World), Below w0.heap.size w0 w → Q .normal { tmps := #[s0, s1, (Value.pointer (some ⟨gv, 0, none⟩)), (Value.pointer (some ⟨gd, 0, none⟩)), (Value.bool e), (Value.agg (dC k c)), (Value.int IntKind.i64 0), (Value.bool true), (Value.bool true), (Value.pointer (some ⟨gd, 1, none⟩)), (Value.int IntKind.i64 c), (Value.pointer (some ⟨gd, 0, none⟩)), (Value.int IntKind.i64 (k : Int)), (Value.pointer (some ⟨gv, k, none⟩)), (Value.int IntKind.u32 (xx : Int)), (Value.int IntKind.i64 (xx : Int)), (Value.bool e), (Value.bool e)], defers := [] } w) :
    (Code.region 1 (Reg.opsOf Try.f18 1) true).wp Try.prog Q { tmps := #[s0, s1, (Value.pointer (some ⟨gv, 0, none⟩)), (Value.pointer (some ⟨gd, 0, none⟩)), (Value.bool false), s5, s6, s7, s8, s9, s10, s11, s12, s13, s14, s15, s16, s17], defers := [] } w0 := by
  obtain ⟨a0, ha0⟩ : ∃ a0 : Act, a0 = { tmps := #[s0, s1, (Value.pointer (some ⟨gv, 0, none⟩)), (Value.pointer (some ⟨gd, 0, none⟩)), (Value.bool false), s5, s6, s7, s8, s9, s10, s11, s12, s13, s14, s15, s16, s17], defers := [] } := ⟨_, rfl⟩
  have hfin : ∀ v : Nat → Value, Reg.gfr (Reg.opsOf Try.f18 1) a0 v (List.range 14) = { tmps := #[s0, s1, (Value.pointer (some ⟨gv, 0, none⟩)), (Value.pointer (some ⟨gd, 0, none⟩)), v 13, v 0, v 1, v 2, v 3, v 4, v 5, v 6, v 7, v 8, v 9, v 10, v 11, v 12], defers := [] } := fun v => by rw [ha0]; kernel_rfl
  rw [← ha0]
  have i2 : a0.eval (.tmp 2) = (Value.pointer (some ⟨gv, 0, none⟩)) := by rw [ha0]; rfl
  have i3 : a0.eval (.tmp 3) = (Value.pointer (some ⟨gd, 0, none⟩)) := by rw [ha0]; rfl
  have i4 : a0.eval (.tmp 4) = (Value.bool false) := by rw [ha0]; rfl
  have hsz : a0.tmps.size = 18 := by rw [ha0]; rfl
  clear ha0
  have hn : (Reg.opsOf Try.f18 1).size = 14 := by kernel_rfl
  have h0 : Reg.OpOK Try.prog (Reg.opsOf Try.f18 1) a0 w0 (hasG_tR vv k xx c gv gd e) (fun _ _ _ _ => True) 0 := by
    refine Reg.op_ok2 (fun af => { dst := some 5, op := Op.load 35 (Operand.tmp 3), type := 35, pos := "vector.go:12", after := af, guard := none }) #[] (by kernel_rfl) [] (by kernel_rfl) fun af v W hb hd => ?_
    have e3 := (Reg.gfr_eval0 (ops := (Reg.opsOf Try.f18 1)) (a0 := a0) (v := v) (L := []) 3 (by kernel_rfl)).trans i3
    refine ⟨Reg.wanted_none rfl, ?_⟩
    generalize Reg.gfr (Reg.opsOf Try.f18 1) a0 v [] = G at e3 ⊢
    generalize hρ : G.eval = ρ at e3
    have hρ' : G.eval = ρ := hρ
    exact fun K hK => wp_load_row 35 (.tmp 3) rfl gd (by rw [hρ']; exact e3) 35 (dC k c) (0, 0) _ (M_gd W hb) Try.underlying35 rfl size_dot (hK _ _ ⟨Below.refl _ _, rfl⟩)
  have h1 : Reg.OpOK Try.prog (Reg.opsOf Try.f18 1) a0 w0 (hasG_tR vv k xx c gv gd e) (fun _ _ _ _ => True) 1 := by
    refine Reg.op_ok2 (fun af => { dst := some 6, op := Op.call { callee := Callee.value (Operand.func 38), args := #[Operand.tmp 5], argTypes := #[35] }, type := 36, pos := "vector.go:12", after := af, guard := none }) #[{ on := 0, ground := Ground.data }] (by kernel_rfl) [0] (by kernel_rfl) fun af v W hb hd => ?_
    have d0 : v 0 = (Value.agg (dC k c)) := hd 0 (by decide)
    have e5 := (Reg.gfr_eval (ops := (Reg.opsOf Try.f18 1)) (a0 := a0) (v := v) (L := [0]) 5 0 (by kernel_rfl) (by rw [hsz]; omega)).trans d0
    refine ⟨Reg.wanted_none rfl, ?_⟩
    have eF : ∀ f, (Reg.gfr (Reg.opsOf Try.f18 1) a0 v [0]).eval (.func f) = .func (.func f) #[] #[] := fun _ => rfl
    generalize Reg.gfr (Reg.opsOf Try.f18 1) a0 v [0] = G at e5 eF ⊢
    generalize hρ : G.eval = ρ at e5 eF
    have hρ' : G.eval = ρ := hρ
    refine Reg.go_call 38 #[(Value.agg (dC k c))] (by rw [hρ']; simp [execOp, go_sem, e5, eF]) ((check_any k c W).mono fun e w' he => ?_)
    obtain ⟨rfl, hbb⟩ := he
    exact ⟨_, rfl, hbb, (show _ = _ from by rw [f1])⟩
  have h2 : Reg.OpOK Try.prog (Reg.opsOf Try.f18 1) a0 w0 (hasG_tR vv k xx c gv gd e) (fun _ _ _ _ => True) 2 := by
    refine Reg.op_ok2 (fun af => { dst := some 7, op := Op.binOp BinOp.eql 36 (Operand.tmp 6) (Operand.const (Value.int IntKind.i64 0)) 36, type := 4, pos := "vector.go:12", after := af, guard := none }) #[{ on := 1, ground := Ground.data }] (by kernel_rfl) [1] (by kernel_rfl) fun af v W hb hd => ?_
    have d1 : v 1 = (Value.int IntKind.i64 0) := hd 1 (by decide)
    have e6 := (Reg.gfr_eval (ops := (Reg.opsOf Try.f18 1)) (a0 := a0) (v := v) (L := [1]) 6 1 (by kernel_rfl) (by rw [hsz]; omega)).trans d1
    refine ⟨Reg.wanted_none rfl, ?_⟩
    have eC : ∀ x, (Reg.gfr (Reg.opsOf Try.f18 1) a0 v [1]).eval (.const x) = x := fun _ => rfl
    generalize Reg.gfr (Reg.opsOf Try.f18 1) a0 v [1] = G at e6 eC ⊢
    generalize hρ : G.eval = ρ at e6 eC
    have hρ' : G.eval = ρ := hρ
    refine Reg.go_run (Value.bool true) W ?_ ?_
    · rw [hρ']; simp [execOp, go_sem, e6, eC]
    · exact ⟨Below.refl _ _, rfl⟩
  have h3 : Reg.OpOK Try.prog (Reg.opsOf Try.f18 1) a0 w0 (hasG_tR vv k xx c gv gd e) (fun _ _ _ _ => True) 3 := by
    refine Reg.op_ok2 (fun af => { dst := some 8, op := Op.move (Operand.tmp 7), type := 4, pos := "vector.go:12", after := af, guard := none }) #[{ on := 2, ground := Ground.data }, { on := 1, ground := Ground.chain }] (by kernel_rfl) [2, 1] (by kernel_rfl) fun af v W hb hd => ?_
    have d2 : v 2 = (Value.bool true) := hd 2 (by decide)
    have e7 := (Reg.gfr_eval (ops := (Reg.opsOf Try.f18 1)) (a0 := a0) (v := v) (L := [2, 1]) 7 2 (by kernel_rfl) (by rw [hsz]; omega)).trans d2
    refine ⟨Reg.wanted_none rfl, ?_⟩
    generalize Reg.gfr (Reg.opsOf Try.f18 1) a0 v [2, 1] = G at e7 ⊢
    generalize hρ : G.eval = ρ at e7
    have hρ' : G.eval = ρ := hρ
    refine Reg.go_run (Value.bool true) W ?_ ?_
    · rw [hρ']; simp [execOp, go_sem, e7]
    · exact ⟨Below.refl _ _, rfl⟩
  have h4 : Reg.OpOK Try.prog (Reg.opsOf Try.f18 1) a0 w0 (hasG_tR vv k xx c gv gd e) (fun _ _ _ _ => True) 4 := by
    refine Reg.op_ok2 (fun af => { dst := some 9, op := Op.fieldAddr 35 (Operand.tmp 3) 1, type := 0, pos := "vector.go:12", after := af, guard := some (3, true) }) #[{ on := 3, ground := Ground.guard }] (by kernel_rfl) [3] (by kernel_rfl) fun af v W hb hd => ?_
    have d3 : v 3 = (Value.bool true) := hd 3 (by decide)
    have e3 := (Reg.gfr_eval0 (ops := (Reg.opsOf Try.f18 1)) (a0 := a0) (v := v) (L := [3]) 3 (by kernel_rfl)).trans i3
    have e8 := (Reg.gfr_eval (ops := (Reg.opsOf Try.f18 1)) (a0 := a0) (v := v) (L := [3]) 8 3 (by kernel_rfl) (by rw [hsz]; omega)).trans d3
    refine ⟨Reg.wanted_of rfl (by kernel_rfl) e8, ?_⟩
    generalize Reg.gfr (Reg.opsOf Try.f18 1) a0 v [3] = G at e3 ⊢
    generalize hρ : G.eval = ρ at e3
    have hρ' : G.eval = ρ := hρ
    refine Reg.go_run (Value.pointer (some ⟨gd, 1, none⟩)) W ?_ ?_
    · rw [hρ']; simp [execOp, go_sem, e3]
    · exact ⟨Below.refl _ _, rfl⟩
  have h5 : Reg.OpOK Try.prog (Reg.opsOf Try.f18 1) a0 w0 (hasG_tR vv k xx c gv gd e) (fun _ _ _ _ => True) 5 := by
    refine Reg.op_ok2 (fun af => { dst := some 10, op := Op.load 3 (Operand.tmp 9), type := 3, pos := "vector.go:12", after := af, guard := some (3, true) }) #[{ on := 4, ground := Ground.data }, { on := 3, ground := Ground.guard }] (by kernel_rfl) [4, 3] (by kernel_rfl) fun af v W hb hd => ?_
    have d3 : v 3 = (Value.bool true) := hd 3 (by decide)
    have d4 : v 4 = (Value.pointer (some ⟨gd, 1, none⟩)) := hd 4 (by decide)
    have e9 := (Reg.gfr_eval (ops := (Reg.opsOf Try.f18 1)) (a0 := a0) (v := v) (L := [4, 3]) 9 4 (by kernel_rfl) (by rw [hsz]; omega)).trans d4
    have e8 := (Reg.gfr_eval (ops := (Reg.opsOf Try.f18 1)) (a0 := a0) (v := v) (L := [4, 3]) 8 3 (by kernel_rfl) (by rw [hsz]; omega)).trans d3
    refine ⟨Reg.wanted_of rfl (by kernel_rfl) e8, ?_⟩
    generalize Reg.gfr (Reg.opsOf Try.f18 1) a0 v [4, 3] = G at e9 ⊢
    generalize hρ : G.eval = ρ at e9
    have hρ' : G.eval = ρ := hρ
    refine Reg.go_run (Value.int IntKind.i64 c) W ?_ ?_
    · rw [hρ']; simp [execOp, go_sem, e9, CD1 W hb]
    · exact ⟨Below.refl _ _, rfl⟩
  have h6 : Reg.OpOK Try.prog (Reg.opsOf Try.f18 1) a0 w0 (hasG_tR vv k xx c gv gd e) (fun _ _ _ _ => True) 6 := by
    refine Reg.op_ok2 (fun af => { dst := some 11, op := Op.fieldAddr 35 (Operand.tmp 3) 0, type := 0, pos := "vector.go:12", after := af, guard := some (3, true) }) #[{ on := 3, ground := Ground.guard }] (by kernel_rfl) [3] (by kernel_rfl) fun af v W hb hd => ?_
    have d3 : v 3 = (Value.bool true) := hd 3 (by decide)
    have e3 := (Reg.gfr_eval0 (ops := (Reg.opsOf Try.f18 1)) (a0 := a0) (v := v) (L := [3]) 3 (by kernel_rfl)).trans i3
    have e8 := (Reg.gfr_eval (ops := (Reg.opsOf Try.f18 1)) (a0 := a0) (v := v) (L := [3]) 8 3 (by kernel_rfl) (by rw [hsz]; omega)).trans d3
    refine ⟨Reg.wanted_of rfl (by kernel_rfl) e8, ?_⟩
    generalize Reg.gfr (Reg.opsOf Try.f18 1) a0 v [3] = G at e3 ⊢
    generalize hρ : G.eval = ρ at e3
    have hρ' : G.eval = ρ := hρ
    refine Reg.go_run (Value.pointer (some ⟨gd, 0, none⟩)) W ?_ ?_
    · rw [hρ']; simp [execOp, go_sem, e3]
    · exact ⟨Below.refl _ _, rfl⟩
  have h7 : Reg.OpOK Try.prog (Reg.opsOf Try.f18 1) a0 w0 (hasG_tR vv k xx c gv gd e) (fun _ _ _ _ => True) 7 := by
    refine Reg.op_ok2 (fun af => { dst := some 12, op := Op.load 3 (Operand.tmp 11), type := 3, pos := "vector.go:12", after := af, guard := some (3, true) }) #[{ on := 6, ground := Ground.data }, { on := 3, ground := Ground.guard }] (by kernel_rfl) [6, 3] (by kernel_rfl) fun af v W hb hd => ?_
    have d3 : v 3 = (Value.bool true) := hd 3 (by decide)
    have d6 : v 6 = (Value.pointer (some ⟨gd, 0, none⟩)) := hd 6 (by decide)
    have e11 := (Reg.gfr_eval (ops := (Reg.opsOf Try.f18 1)) (a0 := a0) (v := v) (L := [6, 3]) 11 6 (by kernel_rfl) (by rw [hsz]; omega)).trans d6
    have e8 := (Reg.gfr_eval (ops := (Reg.opsOf Try.f18 1)) (a0 := a0) (v := v) (L := [6, 3]) 8 3 (by kernel_rfl) (by rw [hsz]; omega)).trans d3
    refine ⟨Reg.wanted_of rfl (by kernel_rfl) e8, ?_⟩
    generalize Reg.gfr (Reg.opsOf Try.f18 1) a0 v [6, 3] = G at e11 ⊢
    generalize hρ : G.eval = ρ at e11
    have hρ' : G.eval = ρ := hρ
    refine Reg.go_run (Value.int IntKind.i64 (k : Int)) W ?_ ?_
    · rw [hρ']; simp [execOp, go_sem, e11, CD0 W hb]
    · exact ⟨Below.refl _ _, rfl⟩
  have h8 : Reg.OpOK Try.prog (Reg.opsOf Try.f18 1) a0 w0 (hasG_tR vv k xx c gv gd e) (fun _ _ _ _ => True) 8 := by
    refine Reg.op_ok2 (fun af => { dst := some 13, op := Op.indexAddr 24 (Operand.tmp 2) (Operand.tmp 12), type := 0, pos := "vector.go:12", after := af, guard := some (3, true) }) #[{ on := 7, ground := Ground.data }, { on := 3, ground := Ground.guard }] (by kernel_rfl) [7, 3] (by kernel_rfl) fun af v W hb hd => ?_
    have d3 : v 3 = (Value.bool true) := hd 3 (by decide)
    have d7 : v 7 = (Value.int IntKind.i64 (k : Int)) := hd 7 (by decide)
    have e2 := (Reg.gfr_eval0 (ops := (Reg.opsOf Try.f18 1)) (a0 := a0) (v := v) (L := [7, 3]) 2 (by kernel_rfl)).trans i2
    have e12 := (Reg.gfr_eval (ops := (Reg.opsOf Try.f18 1)) (a0 := a0) (v := v) (L := [7, 3]) 12 7 (by kernel_rfl) (by rw [hsz]; omega)).trans d7
    have e8 := (Reg.gfr_eval (ops := (Reg.opsOf Try.f18 1)) (a0 := a0) (v := v) (L := [7, 3]) 8 3 (by kernel_rfl) (by rw [hsz]; omega)).trans d3
    refine ⟨Reg.wanted_of rfl (by kernel_rfl) e8, ?_⟩
    generalize Reg.gfr (Reg.opsOf Try.f18 1) a0 v [7, 3] = G at e2 e12 ⊢
    generalize hρ : G.eval = ρ at e2 e12
    have hρ' : G.eval = ρ := hρ
    refine Reg.go_run (Value.pointer (some ⟨gv, k, none⟩)) W ?_ ?_
    · rw [hρ']; simp [execOp, go_sem, e2, e12, k0, k1]
    · exact ⟨Below.refl _ _, rfl⟩
  have h9 : Reg.OpOK Try.prog (Reg.opsOf Try.f18 1) a0 w0 (hasG_tR vv k xx c gv gd e) (fun _ _ _ _ => True) 9 := by
    refine Reg.op_ok2 (fun af => { dst := some 14, op := Op.load 22 (Operand.tmp 13), type := 22, pos := "vector.go:12", after := af, guard := some (3, true) }) #[{ on := 8, ground := Ground.data }, { on := 3, ground := Ground.guard }] (by kernel_rfl) [8, 3] (by kernel_rfl) fun af v W hb hd => ?_
    have d3 : v 3 = (Value.bool true) := hd 3 (by decide)
    have d8 : v 8 = (Value.pointer (some ⟨gv, k, none⟩)) := hd 8 (by decide)
    have e13 := (Reg.gfr_eval (ops := (Reg.opsOf Try.f18 1)) (a0 := a0) (v := v) (L := [8, 3]) 13 8 (by kernel_rfl) (by rw [hsz]; omega)).trans d8
    have e8 := (Reg.gfr_eval (ops := (Reg.opsOf Try.f18 1)) (a0 := a0) (v := v) (L := [8, 3]) 8 3 (by kernel_rfl) (by rw [hsz]; omega)).trans d3
    refine ⟨Reg.wanted_of rfl (by kernel_rfl) e8, ?_⟩
    generalize Reg.gfr (Reg.opsOf Try.f18 1) a0 v [8, 3] = G at e13 ⊢
    generalize hρ : G.eval = ρ at e13
    have hρ' : G.eval = ρ := hρ
    refine Reg.go_run (Value.int IntKind.u32 (xx : Int)) W ?_ ?_
    · rw [hρ']; simp [execOp, go_sem, e13, CV W hb]
    · exact ⟨Below.refl _ _, rfl⟩
  have h10 : Reg.OpOK Try.prog (Reg.opsOf Try.f18 1) a0 w0 (hasG_tR vv k xx c gv gd e) (fun _ _ _ _ => True) 10 := by
    refine Reg.op_ok2 (fun af => { dst := some 15, op := Op.convert 22 3 (Operand.tmp 14), type := 3, pos := "vector.go:12", after := af, guard := some (3, true) }) #[{ on := 9, ground := Ground.data }, { on := 3, ground := Ground.guard }] (by kernel_rfl) [9, 3] (by kernel_rfl) fun af v W hb hd => ?_
    have d3 : v 3 = (Value.bool true) := hd 3 (by decide)
    have d9 : v 9 = (Value.int IntKind.u32 (xx : Int)) := hd 9 (by decide)
    have e14 := (Reg.gfr_eval (ops := (Reg.opsOf Try.f18 1)) (a0 := a0) (v := v) (L := [9, 3]) 14 9 (by kernel_rfl) (by rw [hsz]; omega)).trans d9
    have e8 := (Reg.gfr_eval (ops := (Reg.opsOf Try.f18 1)) (a0 := a0) (v := v) (L := [9, 3]) 8 3 (by kernel_rfl) (by rw [hsz]; omega)).trans d3
    refine ⟨Reg.wanted_of rfl (by kernel_rfl) e8, ?_⟩
    generalize Reg.gfr (Reg.opsOf Try.f18 1) a0 v [9, 3] = G at e14 ⊢
    generalize hρ : G.eval = ρ at e14
    have hρ' : G.eval = ρ := hρ
    refine Reg.go_run (Value.int IntKind.i64 (xx : Int)) W ?_ ?_
    · rw [hρ']; simp [execOp, go_sem, e14, xw]
    · exact ⟨Below.refl _ _, rfl⟩
  have h11 : Reg.OpOK Try.prog (Reg.opsOf Try.f18 1) a0 w0 (hasG_tR vv k xx c gv gd e) (fun _ _ _ _ => True) 11 := by
    refine Reg.op_ok2 (fun af => { dst := some 16, op := Op.binOp BinOp.leq 3 (Operand.tmp 10) (Operand.tmp 15) 3, type := 4, pos := "vector.go:12", after := af, guard := some (3, true) }) #[{ on := 5, ground := Ground.data }, { on := 10, ground := Ground.data }, { on := 3, ground := Ground.guard }] (by kernel_rfl) [5, 10, 3] (by kernel_rfl) fun af v W hb hd => ?_
    have d3 : v 3 = (Value.bool true) := hd 3 (by decide)
    have d5 : v 5 = (Value.int IntKind.i64 c) := hd 5 (by decide)
    have d10 : v 10 = (Value.int IntKind.i64 (xx : Int)) := hd 10 (by decide)
    have e10 := (Reg.gfr_eval (ops := (Reg.opsOf Try.f18 1)) (a0 := a0) (v := v) (L := [5, 10, 3]) 10 5 (by kernel_rfl) (by rw [hsz]; omega)).trans d5
    have e15 := (Reg.gfr_eval (ops := (Reg.opsOf Try.f18 1)) (a0 := a0) (v := v) (L := [5, 10, 3]) 15 10 (by kernel_rfl) (by rw [hsz]; omega)).trans d10
    have e8 := (Reg.gfr_eval (ops := (Reg.opsOf Try.f18 1)) (a0 := a0) (v := v) (L := [5, 10, 3]) 8 3 (by kernel_rfl) (by rw [hsz]; omega)).trans d3
    refine ⟨Reg.wanted_of rfl (by kernel_rfl) e8, ?_⟩
    generalize Reg.gfr (Reg.opsOf Try.f18 1) a0 v [5, 10, 3] = G at e10 e15 ⊢
    generalize hρ : G.eval = ρ at e10 e15
    have hρ' : G.eval = ρ := hρ
    refine Reg.go_run (Value.bool e) W ?_ ?_
    · rw [hρ']; simp [execOp, go_sem, e10, e15, f2]
    · exact ⟨Below.refl _ _, rfl⟩
  have h12 : Reg.OpOK Try.prog (Reg.opsOf Try.f18 1) a0 w0 (hasG_tR vv k xx c gv gd e) (fun _ _ _ _ => True) 12 := by
    refine Reg.op_ok2 (fun af => { dst := some 17, op := Op.pick (Operand.tmp 8) (Operand.tmp 16) (Operand.const (Value.bool false)), type := 4, pos := "vector.go:12", after := af, guard := none }) #[{ on := 3, ground := Ground.data }, { on := 11, ground := Ground.data }] (by kernel_rfl) [3, 11] (by kernel_rfl) fun af v W hb hd => ?_
    have d3 : v 3 = (Value.bool true) := hd 3 (by decide)
    have d11 : v 11 = (Value.bool e) := hd 11 (by decide)
    have e8 := (Reg.gfr_eval (ops := (Reg.opsOf Try.f18 1)) (a0 := a0) (v := v) (L := [3, 11]) 8 3 (by kernel_rfl) (by rw [hsz]; omega)).trans d3
    have e16 := (Reg.gfr_eval (ops := (Reg.opsOf Try.f18 1)) (a0 := a0) (v := v) (L := [3, 11]) 16 11 (by kernel_rfl) (by rw [hsz]; omega)).trans d11
    refine ⟨Reg.wanted_none rfl, ?_⟩
    have eC : ∀ x, (Reg.gfr (Reg.opsOf Try.f18 1) a0 v [3, 11]).eval (.const x) = x := fun _ => rfl
    generalize Reg.gfr (Reg.opsOf Try.f18 1) a0 v [3, 11] = G at e8 e16 eC ⊢
    generalize hρ : G.eval = ρ at e8 e16 eC
    have hρ' : G.eval = ρ := hρ
    refine Reg.go_run (Value.bool e) W ?_ ?_
    · rw [hρ']; simp [execOp, go_sem, e8, e16, eC]
    · exact ⟨Below.refl _ _, rfl⟩
  have h13 : Reg.OpOK Try.prog (Reg.opsOf Try.f18 1) a0 w0 (hasG_tR vv k xx c gv gd e) (fun _ _ _ _ => True) 13 := by
    refine Reg.op_ok2 (fun af => { dst := some 4, op := Op.assign (Operand.tmp 17), type := 4, pos := "vector.go:12", after := af, guard := none }) #[{ on := 12, ground := Ground.data }, { on := 3, ground := Ground.chain }, { on := 0, ground := Ground.phase }, { on := 1, ground := Ground.phase }, { on := 2, ground := Ground.phase }, { on := 3, ground := Ground.phase }, { on := 4, ground := Ground.phase }, { on := 5, ground := Ground.phase }, { on := 6, ground := Ground.phase }, { on := 7, ground := Ground.phase }, { on := 8, ground := Ground.phase }, { on := 9, ground := Ground.phase }, { on := 10, ground := Ground.phase }, { on := 11, ground := Ground.phase }, { on := 12, ground := Ground.phase }] (by kernel_rfl) [12, 3, 0, 1, 2, 3, 4, 5, 6, 7, 8, 9, 10, 11, 12] (by kernel_rfl) fun af v W hb hd => ?_
    have d12 : v 12 = (Value.bool e) := hd 12 (by decide)
    have e17 := (Reg.gfr_eval (ops := (Reg.opsOf Try.f18 1)) (a0 := a0) (v := v) (L := [12, 3, 0, 1, 2, 3, 4, 5, 6, 7, 8, 9, 10, 11, 12]) 17 12 (by kernel_rfl) (by rw [hsz]; omega)).trans d12
    refine ⟨Reg.wanted_none rfl, ?_⟩
    generalize Reg.gfr (Reg.opsOf Try.f18 1) a0 v [12, 3, 0, 1, 2, 3, 4, 5, 6, 7, 8, 9, 10, 11, 12] = G at e17 ⊢
    generalize hρ : G.eval = ρ at e17
    have hρ' : G.eval = ρ := hρ
    refine Reg.go_run (Value.bool e) W ?_ ?_
    · rw [hρ']; simp [execOp, go_sem, e17]
    · exact ⟨Below.refl _ _, rfl⟩
  refine Reg.region_all (by kernel_rfl) (hasG_tR vv k xx c gv gd e) (by rw [hn, hsz]; kernel_rfl) (hasG_t_stable vv k xx c gv gd e) (fun i hi => ?_) (fun v w hb hR => ?_)
  · rw [hn] at hi
    match i, List.mem_range.1 hi with
    | 0, _ => exact h0
    | 1, _ => exact h1
    | 2, _ => exact h2
    | 3, _ => exact h3
    | 4, _ => exact h4
    | 5, _ => exact h5
    | 6, _ => exact h6
    | 7, _ => exact h7
    | 8, _ => exact h8
    | 9, _ => exact h9
    | 10, _ => exact h10
    | 11, _ => exact h11
    | 12, _ => exact h12
    | 13, _ => exact h13
    | (_ + 14), h => omega
  · rw [hn] at hR ⊢
    have v0 : v 0 = (Value.agg (dC k c)) := hR 0 (by decide)
    have v1 : v 1 = (Value.int IntKind.i64 0) := hR 1 (by decide)
    have v2 : v 2 = (Value.bool true) := hR 2 (by decide)
    have v3 : v 3 = (Value.bool true) := hR 3 (by decide)
    have v4 : v 4 = (Value.pointer (some ⟨gd, 1, none⟩)) := hR 4 (by decide)
    have v5 : v 5 = (Value.int IntKind.i64 c) := hR 5 (by decide)
    have v6 : v 6 = (Value.pointer (some ⟨gd, 0, none⟩)) := hR 6 (by decide)
    have v7 : v 7 = (Value.int IntKind.i64 (k : Int)) := hR 7 (by decide)
    have v8 : v 8 = (Value.pointer (some ⟨gv, k, none⟩)) := hR 8 (by decide)
    have v9 : v 9 = (Value.int IntKind.u32 (xx : Int)) := hR 9 (by decide)
    have v10 : v 10 = (Value.int IntKind.i64 (xx : Int)) := hR 10 (by decide)
    have v11 : v 11 = (Value.bool e) := hR 11 (by decide)
    have v12 : v 12 = (Value.bool e) := hR 12 (by decide)
    have v13 : v 13 = (Value.bool e) := hR 13 (by decide)
    rw [hfin v, v0, v1, v2, v3, v4, v5, v6, v7, v8, v9, v10, v11, v12, v13]
    exact hend w  hb 
def hasG_fR (ss c : Int) (gv gd : Nat) : Nat → Value → World → Prop
  | 0 => fun x_ _ => x_ = (Value.agg (dC ss c))
  | 1 => fun x_ _ => x_ = (Value.int IntKind.i64 50)
  | 2 => fun x_ _ => x_ = (Value.bool false)
  | 3 => fun x_ _ => x_ = (Value.bool false)
  | 4 => fun x_ _ => x_ = undef
  | 5 => fun x_ _ => x_ = undef
  | 6 => fun x_ _ => x_ = undef
  | 7 => fun x_ _ => x_ = undef
  | 8 => fun x_ _ => x_ = undef
  | 9 => fun x_ _ => x_ = undef
  | 10 => fun x_ _ => x_ = undef
  | 11 => fun x_ _ => x_ = undef
  | 12 => fun x_ _ => x_ = (Value.bool false)
  | 13 => fun x_ _ => x_ = (Value.bool false)
  | _ => fun _ _ => True
theorem hasG_f_stable (ss c : Int) (gv gd : Nat) : ∀ i_ u_ w_ w_', (hasG_fR ss c gv gd) i_ u_ w_ → Below w_.heap.size w_ w_' → (hasG_fR ss c gv gd) i_ u_ w_' := fun i_ u_ w_ w_' h_ hb_ => by
  match i_, h_ with
  | 0, h_ => exact h_
  | 1, h_ => exact h_
  | 2, h_ => exact h_
  | 3, h_ => exact h_
  | 4, h_ => exact h_
  | 5, h_ => exact h_
  | 6, h_ => exact h_
  | 7, h_ => exact h_
  | 8, h_ => exact h_
  | 9, h_ => exact h_
  | 10, h_ => exact h_
  | 11, h_ => exact h_
  | 12, h_ => exact h_
  | 13, h_ => exact h_
  | (_ + 14), _ => trivial
set_option maxHeartbeats 4000000 in
set_option maxRecDepth 20000 in
theorem hasG_f (ss c : Int) (gv gd : Nat) (w0 : World) {s0 s1 s5 s6 s7 s8 s9 s10 s11 s12 s13 s14 s15 s16 s17 : Value}
    (f1 : dotE ss c = 50)
    (M_gd : ∀ W, Below w0.heap.size w0 W → W.heap[gd]? = some (.cells (dC ss c) 35 (0, 0)))
    {Q : Exit → Act → World → Prop}
    (hend : ∀ (w : World), Below w0.heap.size w0 w → Q .normal { tmps := #[s0, s1, (Value.pointer (some ⟨gv, 0, none⟩)), (Value.pointer (some ⟨gd, 0, none⟩)), (Value.bool false), (Value.agg (dC ss c)), (Value.int IntKind.i64 50), (Value.bool false), (Value.bool false), undef, undef, undef, undef, undef, undef, undef, undef, (Value.bool false)], defers := [] } w) :
    (Code.region 1 (Reg.opsOf Try.f18 1) true).wp Try.prog Q { tmps := #[s0, s1, (Value.pointer (some ⟨gv, 0, none⟩)), (Value.pointer (some ⟨gd, 0, none⟩)), (Value.bool false), s5, s6, s7, s8, s9, s10, s11, s12, s13, s14, s15, s16, s17], defers := [] } w0 := by
  obtain ⟨a0, ha0⟩ : ∃ a0 : Act, a0 = { tmps := #[s0, s1, (Value.pointer (some ⟨gv, 0, none⟩)), (Value.pointer (some ⟨gd, 0, none⟩)), (Value.bool false), s5, s6, s7, s8, s9, s10, s11, s12, s13, s14, s15, s16, s17], defers := [] } := ⟨_, rfl⟩
  have hfin : ∀ v : Nat → Value, Reg.gfr (Reg.opsOf Try.f18 1) a0 v (List.range 14) = { tmps := #[s0, s1, (Value.pointer (some ⟨gv, 0, none⟩)), (Value.pointer (some ⟨gd, 0, none⟩)), v 13, v 0, v 1, v 2, v 3, v 4, v 5, v 6, v 7, v 8, v 9, v 10, v 11, v 12], defers := [] } := fun v => by rw [ha0]; kernel_rfl
  rw [← ha0]
  have i2 : a0.eval (.tmp 2) = (Value.pointer (some ⟨gv, 0, none⟩)) := by rw [ha0]; rfl
  have i3 : a0.eval (.tmp 3) = (Value.pointer (some ⟨gd, 0, none⟩)) := by rw [ha0]; rfl
  have i4 : a0.eval (.tmp 4) = (Value.bool false) := by rw [ha0]; rfl
  have hsz : a0.tmps.size = 18 := by rw [ha0]; rfl
  clear ha0
  have hn : (Reg.opsOf Try.f18 1).size = 14 := by kernel_rfl
  have h0 : Reg.OpOK Try.prog (Reg.opsOf Try.f18 1) a0 w0 (hasG_fR ss c gv gd) (fun _ _ _ _ => True) 0 := by
    refine Reg.op_ok2 (fun af => { dst := some 5, op := Op.load 35 (Operand.tmp 3), type := 35, pos := "vector.go:12", after := af, guard := none }) #[] (by kernel_rfl) [] (by kernel_rfl) fun af v W hb hd => ?_
    have e3 := (Reg.gfr_eval0 (ops := (Reg.opsOf Try.f18 1)) (a0 := a0) (v := v) (L := []) 3 (by kernel_rfl)).trans i3
    refine ⟨Reg.wanted_none rfl, ?_⟩
    generalize Reg.gfr (Reg.opsOf Try.f18 1) a0 v [] = G at e3 ⊢
    generalize hρ : G.eval = ρ at e3
    have hρ' : G.eval = ρ := hρ
    exact fun K hK => wp_load_row 35 (.tmp 3) rfl gd (by rw [hρ']; exact e3) 35 (dC ss c) (0, 0) _ (M_gd W hb) Try.underlying35 rfl size_dot (hK _ _ ⟨Below.refl _ _, rfl⟩)
  have h1 : Reg.OpOK Try.prog (Reg.opsOf Try.f18 1) a0 w0 (hasG_fR ss c gv gd) (fun _ _ _ _ => True) 1 := by
    refine Reg.op_ok2 (fun af => { dst := some 6, op := Op.call { callee := Callee.value (Operand.func 38), args := #[Operand.tmp 5], argTypes := #[35] }, type := 36, pos := "vector.go:12", after := af, guard := none }) #[{ on := 0, ground := Ground.data }] (by kernel_rfl) [0] (by kernel_rfl) fun af v W hb hd => ?_
    have d0 : v 0 = (Value.agg (dC ss c)) := hd 0 (by decide)
    have e5 := (Reg.gfr_eval (ops := (Reg.opsOf Try.f18 1)) (a0 := a0) (v := v) (L := [0]) 5 0 (by kernel_rfl) (by rw [hsz]; omega)).trans d0
    refine ⟨Reg.wanted_none rfl, ?_⟩
    have eF : ∀ f, (Reg.gfr (Reg.opsOf Try.f18 1) a0 v [0]).eval (.func f) = .func (.func f) #[] #[] := fun _ => rfl
    generalize Reg.gfr (Reg.opsOf Try.f18 1) a0 v [0] = G at e5 eF ⊢
    generalize hρ : G.eval = ρ at e5 eF
    have hρ' : G.eval = ρ := hρ
    refine Reg.go_call 38 #[(Value.agg (dC ss c))] (by rw [hρ']; simp [execOp, go_sem, e5, eF]) ((check_any ss c W).mono fun e w' he => ?_)
    obtain ⟨rfl, hbb⟩ := he
    exact ⟨_, rfl, hbb, (show _ = _ from by rw [f1])⟩
  have h2 : Reg.OpOK Try.prog (Reg.opsOf Try.f18 1) a0 w0 (hasG_fR ss c gv gd) (fun _ _ _ _ => True) 2 := by
    refine Reg.op_ok2 (fun af => { dst := some 7, op := Op.binOp BinOp.eql 36 (Operand.tmp 6) (Operand.const (Value.int IntKind.i64 0)) 36, type := 4, pos := "vector.go:12", after := af, guard := none }) #[{ on := 1, ground := Ground.data }] (by kernel_rfl) [1] (by kernel_rfl) fun af v W hb hd => ?_
    have d1 : v 1 = (Value.int IntKind.i64 50) := hd 1 (by decide)
    have e6 := (Reg.gfr_eval (ops := (Reg.opsOf Try.f18 1)) (a0 := a0) (v := v) (L := [1]) 6 1 (by kernel_rfl) (by rw [hsz]; omega)).trans d1
    refine ⟨Reg.wanted_none rfl, ?_⟩
    have eC : ∀ x, (Reg.gfr (Reg.opsOf Try.f18 1) a0 v [1]).eval (.const x) = x := fun _ => rfl
    generalize Reg.gfr (Reg.opsOf Try.f18 1) a0 v [1] = G at e6 eC ⊢
    generalize hρ : G.eval = ρ at e6 eC
    have hρ' : G.eval = ρ := hρ
    refine Reg.go_run (Value.bool false) W ?_ ?_
    · rw [hρ']; simp [execOp, go_sem, e6, eC]
    · exact ⟨Below.refl _ _, rfl⟩
  have h3 : Reg.OpOK Try.prog (Reg.opsOf Try.f18 1) a0 w0 (hasG_fR ss c gv gd) (fun _ _ _ _ => True) 3 := by
    refine Reg.op_ok2 (fun af => { dst := some 8, op := Op.move (Operand.tmp 7), type := 4, pos := "vector.go:12", after := af, guard := none }) #[{ on := 2, ground := Ground.data }, { on := 1, ground := Ground.chain }] (by kernel_rfl) [2, 1] (by kernel_rfl) fun af v W hb hd => ?_
    have d2 : v 2 = (Value.bool false) := hd 2 (by decide)
    have e7 := (Reg.gfr_eval (ops := (Reg.opsOf Try.f18 1)) (a0 := a0) (v := v) (L := [2, 1]) 7 2 (by kernel_rfl) (by rw [hsz]; omega)).trans d2
    refine ⟨Reg.wanted_none rfl, ?_⟩
    generalize Reg.gfr (Reg.opsOf Try.f18 1) a0 v [2, 1] = G at e7 ⊢
    generalize hρ : G.eval = ρ at e7
    have hρ' : G.eval = ρ := hρ
    refine Reg.go_run (Value.bool false) W ?_ ?_
    · rw [hρ']; simp [execOp, go_sem, e7]
    · exact ⟨Below.refl _ _, rfl⟩
  have h4 : Reg.OpOK Try.prog (Reg.opsOf Try.f18 1) a0 w0 (hasG_fR ss c gv gd) (fun _ _ _ _ => True) 4 := by
    refine Reg.op_no2 (fun af => { dst := some 9, op := Op.fieldAddr 35 (Operand.tmp 3) 1, type := 0, pos := "vector.go:12", after := af, guard := some (3, true) }) #[{ on := 3, ground := Ground.guard }] (by kernel_rfl) [3] (by kernel_rfl) fun af v W hb hd => ?_
    have d3 : v 3 = (Value.bool false) := hd 3 (by decide)
    have e8 := (Reg.gfr_eval (ops := (Reg.opsOf Try.f18 1)) (a0 := a0) (v := v) (L := [3]) 8 3 (by kernel_rfl) (by rw [hsz]; omega)).trans d3
    exact ⟨Reg.wanted_not rfl (by kernel_rfl) e8, rfl, fun _ _ _ _ => ⟨trivial, trivial⟩⟩
  have h5 : Reg.OpOK Try.prog (Reg.opsOf Try.f18 1) a0 w0 (hasG_fR ss c gv gd) (fun _ _ _ _ => True) 5 := by
    refine Reg.op_no2 (fun af => { dst := some 10, op := Op.load 3 (Operand.tmp 9), type := 3, pos := "vector.go:12", after := af, guard := some (3, true) }) #[{ on := 4, ground := Ground.data }, { on := 3, ground := Ground.guard }] (by kernel_rfl) [4, 3] (by kernel_rfl) fun af v W hb hd => ?_
    have d3 : v 3 = (Value.bool false) := hd 3 (by decide)
    have e8 := (Reg.gfr_eval (ops := (Reg.opsOf Try.f18 1)) (a0 := a0) (v := v) (L := [4, 3]) 8 3 (by kernel_rfl) (by rw [hsz]; omega)).trans d3
    exact ⟨Reg.wanted_not rfl (by kernel_rfl) e8, rfl, fun _ _ _ _ => ⟨trivial, trivial⟩⟩
  have h6 : Reg.OpOK Try.prog (Reg.opsOf Try.f18 1) a0 w0 (hasG_fR ss c gv gd) (fun _ _ _ _ => True) 6 := by
    refine Reg.op_no2 (fun af => { dst := some 11, op := Op.fieldAddr 35 (Operand.tmp 3) 0, type := 0, pos := "vector.go:12", after := af, guard := some (3, true) }) #[{ on := 3, ground := Ground.guard }] (by kernel_rfl) [3] (by kernel_rfl) fun af v W hb hd => ?_
    have d3 : v 3 = (Value.bool false) := hd 3 (by decide)
    have e8 := (Reg.gfr_eval (ops := (Reg.opsOf Try.f18 1)) (a0 := a0) (v := v) (L := [3]) 8 3 (by kernel_rfl) (by rw [hsz]; omega)).trans d3
    exact ⟨Reg.wanted_not rfl (by kernel_rfl) e8, rfl, fun _ _ _ _ => ⟨trivial, trivial⟩⟩
  have h7 : Reg.OpOK Try.prog (Reg.opsOf Try.f18 1) a0 w0 (hasG_fR ss c gv gd) (fun _ _ _ _ => True) 7 := by
    refine Reg.op_no2 (fun af => { dst := some 12, op := Op.load 3 (Operand.tmp 11), type := 3, pos := "vector.go:12", after := af, guard := some (3, true) }) #[{ on := 6, ground := Ground.data }, { on := 3, ground := Ground.guard }] (by kernel_rfl) [6, 3] (by kernel_rfl) fun af v W hb hd => ?_
    have d3 : v 3 = (Value.bool false) := hd 3 (by decide)
    have e8 := (Reg.gfr_eval (ops := (Reg.opsOf Try.f18 1)) (a0 := a0) (v := v) (L := [6, 3]) 8 3 (by kernel_rfl) (by rw [hsz]; omega)).trans d3
    exact ⟨Reg.wanted_not rfl (by kernel_rfl) e8, rfl, fun _ _ _ _ => ⟨trivial, trivial⟩⟩
  have h8 : Reg.OpOK Try.prog (Reg.opsOf Try.f18 1) a0 w0 (hasG_fR ss c gv gd) (fun _ _ _ _ => True) 8 := by
    refine Reg.op_no2 (fun af => { dst := some 13, op := Op.indexAddr 24 (Operand.tmp 2) (Operand.tmp 12), type := 0, pos := "vector.go:12", after := af, guard := some (3, true) }) #[{ on := 7, ground := Ground.data }, { on := 3, ground := Ground.guard }] (by kernel_rfl) [7, 3] (by kernel_rfl) fun af v W hb hd => ?_
    have d3 : v 3 = (Value.bool false) := hd 3 (by decide)
    have e8 := (Reg.gfr_eval (ops := (Reg.opsOf Try.f18 1)) (a0 := a0) (v := v) (L := [7, 3]) 8 3 (by kernel_rfl) (by rw [hsz]; omega)).trans d3
    exact ⟨Reg.wanted_not rfl (by kernel_rfl) e8, rfl, fun _ _ _ _ => ⟨trivial, trivial⟩⟩
  have h9 : Reg.OpOK Try.prog (Reg.opsOf Try.f18 1) a0 w0 (hasG_fR ss c gv gd) (fun _ _ _ _ => True) 9 := by
    refine Reg.op_no2 (fun af => { dst := some 14, op := Op.load 22 (Operand.tmp 13), type := 22, pos := "vector.go:12", after := af, guard := some (3, true) }) #[{ on := 8, ground := Ground.data }, { on := 3, ground := Ground.guard }] (by kernel_rfl) [8, 3] (by kernel_rfl) fun af v W hb hd => ?_
    have d3 : v 3 = (Value.bool false) := hd 3 (by decide)
    have e8 := (Reg.gfr_eval (ops := (Reg.opsOf Try.f18 1)) (a0 := a0) (v := v) (L := [8, 3]) 8 3 (by kernel_rfl) (by rw [hsz]; omega)).trans d3
    exact ⟨Reg.wanted_not rfl (by kernel_rfl) e8, rfl, fun _ _ _ _ => ⟨trivial, trivial⟩⟩
  have h10 : Reg.OpOK Try.prog (Reg.opsOf Try.f18 1) a0 w0 (hasG_fR ss c gv gd) (fun _ _ _ _ => True) 10 := by
    refine Reg.op_no2 (fun af => { dst := some 15, op := Op.convert 22 3 (Operand.tmp 14), type := 3, pos := "vector.go:12", after := af, guard := some (3, true) }) #[{ on := 9, ground := Ground.data }, { on := 3, ground := Ground.guard }] (by kernel_rfl) [9, 3] (by kernel_rfl) fun af v W hb hd => ?_
    have d3 : v 3 = (Value.bool false) := hd 3 (by decide)
    have e8 := (Reg.gfr_eval (ops := (Reg.opsOf Try.f18 1)) (a0 := a0) (v := v) (L := [9, 3]) 8 3 (by kernel_rfl) (by rw [hsz]; omega)).trans d3
    exact ⟨Reg.wanted_not rfl (by kernel_rfl) e8, rfl, fun _ _ _ _ => ⟨trivial, trivial⟩⟩
  have h11 : Reg.OpOK Try.prog (Reg.opsOf Try.f18 1) a0 w0 (hasG_fR ss c gv gd) (fun _ _ _ _ => True) 11 := by
    refine Reg.op_no2 (fun af => { dst := some 16, op := Op.binOp BinOp.leq 3 (Operand.tmp 10) (Operand.tmp 15) 3, type := 4, pos := "vector.go:12", after := af, guard := some (3, true) }) #[{ on := 5, ground := Ground.data }, { on := 10, ground := Ground.data }, { on := 3, ground := Ground.guard }] (by kernel_rfl) [5, 10, 3] (by kernel_rfl) fun af v W hb hd => ?_
    have d3 : v 3 = (Value.bool false) := hd 3 (by decide)
    have e8 := (Reg.gfr_eval (ops := (Reg.opsOf Try.f18 1)) (a0 := a0) (v := v) (L := [5, 10, 3]) 8 3 (by kernel_rfl) (by rw [hsz]; omega)).trans d3
    exact ⟨Reg.wanted_not rfl (by kernel_rfl) e8, rfl, fun _ _ _ _ => ⟨trivial, trivial⟩⟩
  have h12 : Reg.OpOK Try.prog (Reg.opsOf Try.f18 1) a0 w0 (hasG_fR ss c gv gd) (fun _ _ _ _ => True) 12 := by
    refine Reg.op_ok2 (fun af => { dst := some 17, op := Op.pick (Operand.tmp 8) (Operand.tmp 16) (Operand.const (Value.bool false)), type := 4, pos := "vector.go:12", after := af, guard := none }) #[{ on := 3, ground := Ground.data }, { on := 11, ground := Ground.data }] (by kernel_rfl) [3, 11] (by kernel_rfl) fun af v W hb hd => ?_
    have d3 : v 3 = (Value.bool false) := hd 3 (by decide)
    have d11 : v 11 = undef := hd 11 (by decide)
    have e8 := (Reg.gfr_eval (ops := (Reg.opsOf Try.f18 1)) (a0 := a0) (v := v) (L := [3, 11]) 8 3 (by kernel_rfl) (by rw [hsz]; omega)).trans d3
    have e16 := (Reg.gfr_eval (ops := (Reg.opsOf Try.f18 1)) (a0 := a0) (v := v) (L := [3, 11]) 16 11 (by kernel_rfl) (by rw [hsz]; omega)).trans d11
    refine ⟨Reg.wanted_none rfl, ?_⟩
    have eC : ∀ x, (Reg.gfr (Reg.opsOf Try.f18 1) a0 v [3, 11]).eval (.const x) = x := fun _ => rfl
    generalize Reg.gfr (Reg.opsOf Try.f18 1) a0 v [3, 11] = G at e8 e16 eC ⊢
    generalize hρ : G.eval = ρ at e8 e16 eC
    have hρ' : G.eval = ρ := hρ
    refine Reg.go_run (Value.bool false) W ?_ ?_
    · rw [hρ']; simp [execOp, go_sem, e8, e16, eC]
    · exact ⟨Below.refl _ _, rfl⟩
  have h13 : Reg.OpOK Try.prog (Reg.opsOf Try.f18 1) a0 w0 (hasG_fR ss c gv gd) (fun _ _ _ _ => True) 13 := by
    refine Reg.op_ok2 (fun af => { dst := some 4, op := Op.assign (Operand.tmp 17), type := 4, pos := "vector.go:12", after := af, guard := none }) #[{ on := 12, ground := Ground.data }, { on := 3, ground := Ground.chain }, { on := 0, ground := Ground.phase }, { on := 1, ground := Ground.phase }, { on := 2, ground := Ground.phase }, { on := 3, ground := Ground.phase }, { on := 4, ground := Ground.phase }, { on := 5, ground := Ground.phase }, { on := 6, ground := Ground.phase }, { on := 7, ground := Ground.phase }, { on := 8, ground := Ground.phase }, { on := 9, ground := Ground.phase }, { on := 10, ground := Ground.phase }, { on := 11, ground := Ground.phase }, { on := 12, ground := Ground.phase }] (by kernel_rfl) [12, 3, 0, 1, 2, 3, 4, 5, 6, 7, 8, 9, 10, 11, 12] (by kernel_rfl) fun af v W hb hd => ?_
    have d12 : v 12 = (Value.bool false) := hd 12 (by decide)
    have e17 := (Reg.gfr_eval (ops := (Reg.opsOf Try.f18 1)) (a0 := a0) (v := v) (L := [12, 3, 0, 1, 2, 3, 4, 5, 6, 7, 8, 9, 10, 11, 12]) 17 12 (by kernel_rfl) (by rw [hsz]; omega)).trans d12
    refine ⟨Reg.wanted_none rfl, ?_⟩
    generalize Reg.gfr (Reg.opsOf Try.f18 1) a0 v [12, 3, 0, 1, 2, 3, 4, 5, 6, 7, 8, 9, 10, 11, 12] = G at e17 ⊢
    generalize hρ : G.eval = ρ at e17
    have hρ' : G.eval = ρ := hρ
    refine Reg.go_run (Value.bool false) W ?_ ?_
    · rw [hρ']; simp [execOp, go_sem, e17]
    · exact ⟨Below.refl _ _, rfl⟩
  refine Reg.region_all (by kernel_rfl) (hasG_fR ss c gv gd) (by rw [hn, hsz]; kernel_rfl) (hasG_f_stable ss c gv gd) (fun i hi => ?_) (fun v w hb hR => ?_)
  · rw [hn] at hi
    match i, List.mem_range.1 hi with
    | 0, _ => exact h0
    | 1, _ => exact h1
    | 2, _ => exact h2
    | 3, _ => exact h3
    | 4, _ => exact h4
    | 5, _ => exact h5
    | 6, _ => exact h6
    | 7, _ => exact h7
    | 8, _ => exact h8
    | 9, _ => exact h9
    | 10, _ => exact h10
    | 11, _ => exact h11
    | 12, _ => exact h12
    | 13, _ => exact h13
    | (_ + 14), h => omega
  · rw [hn] at hR ⊢
    have v0 : v 0 = (Value.agg (dC ss c)) := hR 0 (by decide)
    have v1 : v 1 = (Value.int IntKind.i64 50) := hR 1 (by decide)
    have v2 : v 2 = (Value.bool false) := hR 2 (by decide)
    have v3 : v 3 = (Value.bool false) := hR 3 (by decide)
    have v4 : v 4 = undef := hR 4 (by decide)
    have v5 : v 5 = undef := hR 5 (by decide)
    have v6 : v 6 = undef := hR 6 (by decide)
    have v7 : v 7 = undef := hR 7 (by decide)
    have v8 : v 8 = undef := hR 8 (by decide)
    have v9 : v 9 = undef := hR 9 (by decide)
    have v10 : v 10 = undef := hR 10 (by decide)
    have v11 : v 11 = undef := hR 11 (by decide)
    have v12 : v 12 = (Value.bool false) := hR 12 (by decide)
    have v13 : v 13 = (Value.bool false) := hR 13 (by decide)
    rw [hfin v, v0, v1, v2, v3, v4, v5, v6, v7, v8, v9, v10, v11, v12, v13]
    exact hend w  hb 
def rhasG_tR (vv : List Nat) (k xx : Nat) (c : Int) (gv gd : Nat) (e : Bool) : Nat → Value → World → Prop
  | 0 => fun x_ _ => x_ = (Value.agg (dC k c))
  | 1 => fun x_ _ => x_ = (Value.int IntKind.i64 0)
  | 2 => fun x_ _ => x_ = (Value.bool true)
  | 3 => fun x_ _ => x_ = (Value.bool true)
  | 4 => fun x_ _ => x_ = (Value.pointer (some ⟨gd, 1, none⟩))
  | 5 => fun x_ _ => x_ = (Value.int IntKind.i64 c)
  | 6 => fun x_ _ => x_ = (Value.pointer (some ⟨gd, 0, none⟩))
  | 7 => fun x_ _ => x_ = (Value.int IntKind.i64 (k : Int))
  | 8 => fun x_ _ => x_ = (Value.pointer (some ⟨gv, k, none⟩))
  | 9 => fun x_ _ => x_ = (Value.int IntKind.u32 (xx : Int))
  | 10 => fun x_ _ => x_ = (Value.int IntKind.i64 (xx : Int))
  | 11 => fun x_ _ => x_ = (Value.bool e)
  | 12 => fun x_ _ => x_ = (Value.bool e)
  | 13 => fun x_ _ => x_ = (Value.bool e)
  | _ => fun _ _ => True
theorem rhasG_t_stable (vv : List Nat) (k xx : Nat) (c : Int) (gv gd : Nat) (e : Bool) : ∀ i_ u_ w_ w_', (rhasG_tR vv k xx c gv gd e) i_ u_ w_ → Below w_.heap.size w_ w_' → (rhasG_tR vv k xx c gv gd e) i_ u_ w_' := fun i_ u_ w_ w_' h_ hb_ => by
  match i_, h_ with
  | 0, h_ => exact h_
  | 1, h_ => exact h_
  | 2, h_ => exact h_
  | 3, h_ => exact h_
  | 4, h_ => exact h_
  | 5, h_ => exact h_
  | 6, h_ => exact h_
  | 7, h_ => exact h_
  | 8, h_ => exact h_
  | 9, h_ => exact h_
  | 10, h_ => exact h_
  | 11, h_ => exact h_
  | 12, h_ => exact h_
  | 13, h_ => exact h_
  | (_ + 14), _ => trivial
set_option maxHeartbeats 4000000 in
set_option maxRecDepth 20000 in
theorem rhasG_t (vv : List Nat) (k xx : Nat) (c : Int) (gv gd : Nat) (e : Bool) (w0 : World) {s0 s1 s5 s6 s7 s8 s9 s10 s11 s12 s13 s14 s15 s16 s17 : Value}
    (k0 : (0 : Int) ≤ k) (k1 : (k : Int) < 16) (xw : IntKind.i64.wrap (xx : Int) = xx) (f1 : dotE k c = 0) (f2 : decide (c ≤ (xx : Int)) = e)
    (M_gd : ∀ W, Below w0.heap.size w0 W → W.heap[gd]? = some (.cells (dC k c) 35 (0, 0)))
    (CD0 : ∀ W, Below w0.heap.size w0 W → W.cell? ⟨gd, 0, none⟩ = some (Value.int IntKind.i64 (k : Int)))
    (CD1 : ∀ W, Below w0.heap.size w0 W → W.cell? ⟨gd, 1, none⟩ = some (Value.int IntKind.i64 c))
    (CV : ∀ W, Below w0.heap.size w0 W → W.cell? ⟨gv, k, none⟩ = some (Value.int IntKind.u32 (xx : Int)))
    {Q : Exit → Act → World → Prop}
    (hend : ∀ (w : World), Below w0.heap.size w0 w → Q .normal { tmps := #[s0, s1, (Value.pointer (some ⟨gv, 0, none⟩)), (Value.pointer (some ⟨gd, 0, none⟩)), (Value.bool e), (Value.agg (dC k c)), (Value.int IntKind.i64 0), (Value.bool true), (Value.bool true), (Value.pointer (some ⟨gd, 1, none⟩)), (Value.int IntKind.i64 c), (Value.pointer (some ⟨gd, 0, none⟩)), (Value.int IntKind.i64 (k : Int)), (Value.pointer (some ⟨gv, k, none⟩)), (Value.int IntKind.u32 (xx : Int)), (Value.int IntKind.i64 (xx : Int)), (Value.bool e), (Value.bool e)], defers := [] } w) :
    (Code.region 1 (Reg.opsOf Try.f24 1) true).wp Try.prog Q { tmps := #[s0, s1, (Value.pointer (some ⟨gv, 0, none⟩)), (Value.pointer (some ⟨gd, 0, none⟩)), (Value.bool false), s5, s6, s7, s8, s9, s10, s11, s12, s13, s14, s15, s16, s17], defers := [] } w0 := by
  obtain ⟨a0, ha0⟩ : ∃ a0 : Act, a0 = { tmps := #[s0, s1, (Value.pointer (some ⟨gv, 0, none⟩)), (Value.pointer (some ⟨gd, 0, none⟩)), (Value.bool false), s5, s6, s7, s8, s9, s10, s11, s12, s13, s14, s15, s16, s17], defers := [] } := ⟨_, rfl⟩
  have hfin : ∀ v : Nat → Value, Reg.gfr (Reg.opsOf Try.f24 1) a0 v (List.range 14) = { tmps := #[s0, s1, (Value.pointer (some ⟨gv, 0, none⟩)), (Value.pointer (some ⟨gd, 0, none⟩)), v 13, v 0, v 1, v 2, v 3, v 4, v 5, v 6, v 7, v 8, v 9, v 10, v 11, v 12], defers := [] } := fun v => by rw [ha0]; kernel_rfl
  rw [← ha0]
  have i2 : a0.eval (.tmp 2) = (Value.pointer (some ⟨gv, 0, none⟩)) := by rw [ha0]; rfl
  have i3 : a0.eval (.tmp 3) = (Value.pointer (some ⟨gd, 0, none⟩)) := by rw [ha0]; rfl
  have i4 : a0.eval (.tmp 4) = (Value.bool false) := by rw [ha0]; rfl
  have hsz : a0.tmps.size = 18 := by rw [ha0]; rfl
  clear ha0
  have hn : (Reg.opsOf Try.f24 1).size = 14 := by kernel_rfl
  have h0 : Reg.OpOK Try.prog (Reg.opsOf Try.f24 1) a0 w0 (rhasG_tR vv k xx c gv gd e) (fun _ _ _ _ => True) 0 := by
    refine Reg.op_ok2 (fun af => { dst := some 5, op := Op.load 35 (Operand.tmp 3), type := 35, pos := "ref.go:20", after := af, guard := none }) #[] (by kernel_rfl) [] (by kernel_rfl) fun af v W hb hd => ?_
    have e3 := (Reg.gfr_eval0 (ops := (Reg.opsOf Try.f24 1)) (a0 := a0) (v := v) (L := []) 3 (by kernel_rfl)).trans i3
    refine ⟨Reg.wanted_none rfl, ?_⟩
    generalize Reg.gfr (Reg.opsOf Try.f24 1) a0 v [] = G at e3 ⊢
    generalize hρ : G.eval = ρ at e3
    have hρ' : G.eval = ρ := hρ
    exact fun K hK => wp_load_row 35 (.tmp 3) rfl gd (by rw [hρ']; exact e3) 35 (dC k c) (0, 0) _ (M_gd W hb) Try.underlying35 rfl size_dot (hK _ _ ⟨Below.refl _ _, rfl⟩)
  have h1 : Reg.OpOK Try.prog (Reg.opsOf Try.f24 1) a0 w0 (rhasG_tR vv k xx c gv gd e) (fun _ _ _ _ => True) 1 := by
    refine Reg.op_ok2 (fun af => { dst := some 6, op := Op.call { callee := Callee.value (Operand.func 39), args := #[Operand.tmp 5], argTypes := #[35] }, type := 3, pos := "ref.go:20", after := af, guard := none }) #[{ on := 0, ground := Ground.data }] (by kernel_rfl) [0] (by kernel_rfl) fun af v W hb hd => ?_
    have d0 : v 0 = (Value.agg (dC k c)) := hd 0 (by decide)
    have e5 := (Reg.gfr_eval (ops := (Reg.opsOf Try.f24 1)) (a0 := a0) (v := v) (L := [0]) 5 0 (by kernel_rfl) (by rw [hsz]; omega)).trans d0
    refine ⟨Reg.wanted_none rfl, ?_⟩
    have eF : ∀ f, (Reg.gfr (Reg.opsOf Try.f24 1) a0 v [0]).eval (.func f) = .func (.func f) #[] #[] := fun _ => rfl
    generalize Reg.gfr (Reg.opsOf Try.f24 1) a0 v [0] = G at e5 eF ⊢
    generalize hρ : G.eval = ρ at e5 eF
    have hρ' : G.eval = ρ := hρ
    refine Reg.go_call 39 #[(Value.agg (dC k c))] (by rw [hρ']; simp [execOp, go_sem, e5, eF]) ((rcheck_any k c W).mono fun e w' he => ?_)
    obtain ⟨rfl, hbb⟩ := he
    exact ⟨_, rfl, hbb, (show _ = _ from by rw [f1])⟩
  have h2 : Reg.OpOK Try.prog (Reg.opsOf Try.f24 1) a0 w0 (rhasG_tR vv k xx c gv gd e) (fun _ _ _ _ => True) 2 := by
    refine Reg.op_ok2 (fun af => { dst := some 7, op := Op.binOp BinOp.eql 3 (Operand.tmp 6) (Operand.const (Value.int IntKind.i64 0)) 3, type := 4, pos := "ref.go:20", after := af, guard := none }) #[{ on := 1, ground := Ground.data }] (by kernel_rfl) [1] (by kernel_rfl) fun af v W hb hd => ?_
    have d1 : v 1 = (Value.int IntKind.i64 0) := hd 1 (by decide)
    have e6 := (Reg.gfr_eval (ops := (Reg.opsOf Try.f24 1)) (a0 := a0) (v := v) (L := [1]) 6 1 (by kernel_rfl) (by rw [hsz]; omega)).trans d1
    refine ⟨Reg.wanted_none rfl, ?_⟩
    have eC : ∀ x, (Reg.gfr (Reg.opsOf Try.f24 1) a0 v [1]).eval (.const x) = x := fun _ => rfl
    generalize Reg.gfr (Reg.opsOf Try.f24 1) a0 v [1] = G at e6 eC ⊢
    generalize hρ : G.eval = ρ at e6 eC
    have hρ' : G.eval = ρ := hρ
    refine Reg.go_run (Value.bool true) W ?_ ?_
    · rw [hρ']; simp [execOp, go_sem, e6, eC]
    · exact ⟨Below.refl _ _, rfl⟩
  have h3 : Reg.OpOK Try.prog (Reg.opsOf Try.f24 1) a0 w0 (rhasG_tR vv k xx c gv gd e) (fun _ _ _ _ => True) 3 := by
    refine Reg.op_ok2 (fun af => { dst := some 8, op := Op.move (Operand.tmp 7), type := 4, pos := "ref.go:20", after := af, guard := none }) #[{ on := 2, ground := Ground.data }, { on := 1, ground := Ground.chain }] (by kernel_rfl) [2, 1] (by kernel_rfl) fun af v W hb hd => ?_
    have d2 : v 2 = (Value.bool true) := hd 2 (by decide)
    have e7 := (Reg.gfr_eval (ops := (Reg.opsOf Try.f24 1)) (a0 := a0) (v := v) (L := [2, 1]) 7 2 (by kernel_rfl) (by rw [hsz]; omega)).trans d2
    refine ⟨Reg.wanted_none rfl, ?_⟩
    generalize Reg.gfr (Reg.opsOf Try.f24 1) a0 v [2, 1] = G at e7 ⊢
    generalize hρ : G.eval = ρ at e7
    have hρ' : G.eval = ρ := hρ
    refine Reg.go_run (Value.bool true) W ?_ ?_
    · rw [hρ']; simp [execOp, go_sem, e7]
    · exact ⟨Below.refl _ _, rfl⟩
  have h4 : Reg.OpOK Try.prog (Reg.opsOf Try.f24 1) a0 w0 (rhasG_tR vv k xx c gv gd e) (fun _ _ _ _ => True) 4 := by
    refine Reg.op_ok2 (fun af => { dst := some 9, op := Op.fieldAddr 35 (Operand.tmp 3) 1, type := 0, pos := "ref.go:20", after := af, guard := some (3, true) }) #[{ on := 3, ground := Ground.guard }] (by kernel_rfl) [3] (by kernel_rfl) fun af v W hb hd => ?_
    have d3 : v 3 = (Value.bool true) := hd 3 (by decide)
    have e3 := (Reg.gfr_eval0 (ops := (Reg.opsOf Try.f24 1)) (a0 := a0) (v := v) (L := [3]) 3 (by kernel_rfl)).trans i3
    have e8 := (Reg.gfr_eval (ops := (Reg.opsOf Try.f24 1)) (a0 := a0) (v := v) (L := [3]) 8 3 (by kernel_rfl) (by rw [hsz]; omega)).trans d3
    refine ⟨Reg.wanted_of rfl (by kernel_rfl) e8, ?_⟩
    generalize Reg.gfr (Reg.opsOf Try.f24 1) a0 v [3] = G at e3 ⊢
    generalize hρ : G.eval = ρ at e3
    have hρ' : G.eval = ρ := hρ
    refine Reg.go_run (Value.pointer (some ⟨gd, 1, none⟩)) W ?_ ?_
    · rw [hρ']; simp [execOp, go_sem, e3]
    · exact ⟨Below.refl _ _, rfl⟩
  have h5 : Reg.OpOK Try.prog (Reg.opsOf Try.f24 1) a0 w0 (rhasG_tR vv k xx c gv gd e) (fun _ _ _ _ => True) 5 := by
    refine Reg.op_ok2 (fun af => { dst := some 10, op := Op.load 3 (Operand.tmp 9), type := 3, pos := "ref.go:20", after := af, guard := some (3, true) }) #[{ on := 4, ground := Ground.data }, { on := 3, ground := Ground.guard }] (by kernel_rfl) [4, 3] (by kernel_rfl) fun af v W hb hd => ?_
    have d3 : v 3 = (Value.bool true) := hd 3 (by decide)
    have d4 : v 4 = (Value.pointer (some ⟨gd, 1, none⟩)) := hd 4 (by decide)
    have e9 := (Reg.gfr_eval (ops := (Reg.opsOf Try.f24 1)) (a0 := a0) (v := v) (L := [4, 3]) 9 4 (by kernel_rfl) (by rw [hsz]; omega)).trans d4
    have e8 := (Reg.gfr_eval (ops := (Reg.opsOf Try.f24 1)) (a0 := a0) (v := v) (L := [4, 3]) 8 3 (by kernel_rfl) (by rw [hsz]; omega)).trans d3
    refine ⟨Reg.wanted_of rfl (by kernel_rfl) e8, ?_⟩
    generalize Reg.gfr (Reg.opsOf Try.f24 1) a0 v [4, 3] = G at e9 ⊢
    generalize hρ : G.eval = ρ at e9
    have hρ' : G.eval = ρ := hρ
    refine Reg.go_run (Value.int IntKind.i64 c) W ?_ ?_
    · rw [hρ']; simp [execOp, go_sem, e9, CD1 W hb]
    · exact ⟨Below.refl _ _, rfl⟩
  have h6 : Reg.OpOK Try.prog (Reg.opsOf Try.f24 1) a0 w0 (rhasG_tR vv k xx c gv gd e) (fun _ _ _ _ => True) 6 := by
    refine Reg.op_ok2 (fun af => { dst := some 11, op := Op.fieldAddr 35 (Operand.tmp 3) 0, type := 0, pos := "ref.go:20", after := af, guard := some (3, true) }) #[{ on := 3, ground := Ground.guard }] (by kernel_rfl) [3] (by kernel_rfl) fun af v W hb hd => ?_
    have d3 : v 3 = (Value.bool true) := hd 3 (by decide)
    have e3 := (Reg.gfr_eval0 (ops := (Reg.opsOf Try.f24 1)) (a0 := a0) (v := v) (L := [3]) 3 (by kernel_rfl)).trans i3
    have e8 := (Reg.gfr_eval (ops := (Reg.opsOf Try.f24 1)) (a0 := a0) (v := v) (L := [3]) 8 3 (by kernel_rfl) (by rw [hsz]; omega)).trans d3
    refine ⟨Reg.wanted_of rfl (by kernel_rfl) e8, ?_⟩
    generalize Reg.gfr (Reg.opsOf Try.f24 1) a0 v [3] = G at e3 ⊢
    generalize hρ : G.eval = ρ at e3
    have hρ' : G.eval = ρ := hρ
    refine Reg.go_run (Value.pointer (some ⟨gd, 0, none⟩)) W ?_ ?_
    · rw [hρ']; simp [execOp, go_sem, e3]
    · exact ⟨Below.refl _ _, rfl⟩
  have h7 : Reg.OpOK Try.prog (Reg.opsOf Try.f24 1) a0 w0 (rhasG_tR vv k xx c gv gd e) (fun _ _ _ _ => True) 7 := by
    refine Reg.op_ok2 (fun af => { dst := some 12, op := Op.load 3 (Operand.tmp 11), type := 3, pos := "ref.go:20", after := af, guard := some (3, true) }) #[{ on := 6, ground := Ground.data }, { on := 3, ground := Ground.guard }] (by kernel_rfl) [6, 3] (by kernel_rfl) fun af v W hb hd => ?_
    have d3 : v 3 = (Value.bool true) := hd 3 (by decide)
    have d6 : v 6 = (Value.pointer (some ⟨gd, 0, none⟩)) := hd 6 (by decide)
    have e11 := (Reg.gfr_eval (ops := (Reg.opsOf Try.f24 1)) (a0 := a0) (v := v) (L := [6, 3]) 11 6 (by kernel_rfl) (by rw [hsz]; omega)).trans d6
    have e8 := (Reg.gfr_eval (ops := (Reg.opsOf Try.f24 1)) (a0 := a0) (v := v) (L := [6, 3]) 8 3 (by kernel_rfl) (by rw [hsz]; omega)).trans d3
    refine ⟨Reg.wanted_of rfl (by kernel_rfl) e8, ?_⟩
    generalize Reg.gfr (Reg.opsOf Try.f24 1) a0 v [6, 3] = G at e11 ⊢
    generalize hρ : G.eval = ρ at e11
    have hρ' : G.eval = ρ := hρ
    refine Reg.go_run (Value.int IntKind.i64 (k : Int)) W ?_ ?_
    · rw [hρ']; simp [execOp, go_sem, e11, CD0 W hb]
    · exact ⟨Below.refl _ _, rfl⟩
  have h8 : Reg.OpOK Try.prog (Reg.opsOf Try.f24 1) a0 w0 (rhasG_tR vv k xx c gv gd e) (fun _ _ _ _ => True) 8 := by
    refine Reg.op_ok2 (fun af => { dst := some 13, op := Op.indexAddr 24 (Operand.tmp 2) (Operand.tmp 12), type := 0, pos := "ref.go:20", after := af, guard := some (3, true) }) #[{ on := 7, ground := Ground.data }, { on := 3, ground := Ground.guard }] (by kernel_rfl) [7, 3] (by kernel_rfl) fun af v W hb hd => ?_
    have d3 : v 3 = (Value.bool true) := hd 3 (by decide)
    have d7 : v 7 = (Value.int IntKind.i64 (k : Int)) := hd 7 (by decide)
    have e2 := (Reg.gfr_eval0 (ops := (Reg.opsOf Try.f24 1)) (a0 := a0) (v := v) (L := [7, 3]) 2 (by kernel_rfl)).trans i2
    have e12 := (Reg.gfr_eval (ops := (Reg.opsOf Try.f24 1)) (a0 := a0) (v := v) (L := [7, 3]) 12 7 (by kernel_rfl) (by rw [hsz]; omega)).trans d7
    have e8 := (Reg.gfr_eval (ops := (Reg.opsOf Try.f24 1)) (a0 := a0) (v := v) (L := [7, 3]) 8 3 (by kernel_rfl) (by rw [hsz]; omega)).trans d3
    refine ⟨Reg.wanted_of rfl (by kernel_rfl) e8, ?_⟩
    generalize Reg.gfr (Reg.opsOf Try.f24 1) a0 v [7, 3] = G at e2 e12 ⊢
    generalize hρ : G.eval = ρ at e2 e12
    have hρ' : G.eval = ρ := hρ
    refine Reg.go_run (Value.pointer (some ⟨gv, k, none⟩)) W ?_ ?_
    · rw [hρ']; simp [execOp, go_sem, e2, e12, k0, k1]
    · exact ⟨Below.refl _ _, rfl⟩
  have h9 : Reg.OpOK Try.prog (Reg.opsOf Try.f24 1) a0 w0 (rhasG_tR vv k xx c gv gd e) (fun _ _ _ _ => True) 9 := by
    refine Reg.op_ok2 (fun af => { dst := some 14, op := Op.load 22 (Operand.tmp 13), type := 22, pos := "ref.go:20", after := af, guard := some (3, true) }) #[{ on := 8, ground := Ground.data }, { on := 3, ground := Ground.guard }] (by kernel_rfl) [8, 3] (by kernel_rfl) fun af v W hb hd => ?_
    have d3 : v 3 = (Value.bool true) := hd 3 (by decide)
    have d8 : v 8 = (Value.pointer (some ⟨gv, k, none⟩)) := hd 8 (by decide)
    have e13 := (Reg.gfr_eval (ops := (Reg.opsOf Try.f24 1)) (a0 := a0) (v := v) (L := [8, 3]) 13 8 (by kernel_rfl) (by rw [hsz]; omega)).trans d8
    have e8 := (Reg.gfr_eval (ops := (Reg.opsOf Try.f24 1)) (a0 := a0) (v := v) (L := [8, 3]) 8 3 (by kernel_rfl) (by rw [hsz]; omega)).trans d3
    refine ⟨Reg.wanted_of rfl (by kernel_rfl) e8, ?_⟩
    generalize Reg.gfr (Reg.opsOf Try.f24 1) a0 v [8, 3] = G at e13 ⊢
    generalize hρ : G.eval = ρ at e13
    have hρ' : G.eval = ρ := hρ
    refine Reg.go_run (Value.int IntKind.u32 (xx : Int)) W ?_ ?_
    · rw [hρ']; simp [execOp, go_sem, e13, CV W hb]
    · exact ⟨Below.refl _ _, rfl⟩
  have h10 : Reg.OpOK Try.prog (Reg.opsOf Try.f24 1) a0 w0 (rhasG_tR vv k xx c gv gd e) (fun _ _ _ _ => True) 10 := by
    refine Reg.op_ok2 (fun af => { dst := some 15, op := Op.convert 22 3 (Operand.tmp 14), type := 3, pos := "ref.go:20", after := af, guard := some (3, true) }) #[{ on := 9, ground := Ground.data }, { on := 3, ground := Ground.guard }] (by kernel_rfl) [9, 3] (by kernel_rfl) fun af v W hb hd => ?_
    have d3 : v 3 = (Value.bool true) := hd 3 (by decide)
    have d9 : v 9 = (Value.int IntKind.u32 (xx : Int)) := hd 9 (by decide)
    have e14 := (Reg.gfr_eval (ops := (Reg.opsOf Try.f24 1)) (a0 := a0) (v := v) (L := [9, 3]) 14 9 (by kernel_rfl) (by rw [hsz]; omega)).trans d9
    have e8 := (Reg.gfr_eval (ops := (Reg.opsOf Try.f24 1)) (a0 := a0) (v := v) (L := [9, 3]) 8 3 (by kernel_rfl) (by rw [hsz]; omega)).trans d3
    refine ⟨Reg.wanted_of rfl (by kernel_rfl) e8, ?_⟩
    generalize Reg.gfr (Reg.opsOf Try.f24 1) a0 v [9, 3] = G at e14 ⊢
    generalize hρ : G.eval = ρ at e14
    have hρ' : G.eval = ρ := hρ
    refine Reg.go_run (Value.int IntKind.i64 (xx : Int)) W ?_ ?_
    · rw [hρ']; simp [execOp, go_sem, e14, xw]
    · exact ⟨Below.refl _ _, rfl⟩
  have h11 : Reg.OpOK Try.prog (Reg.opsOf Try.f24 1) a0 w0 (rhasG_tR vv k xx c gv gd e) (fun _ _ _ _ => True) 11 := by
    refine Reg.op_ok2 (fun af => { dst := some 16, op := Op.binOp BinOp.leq 3 (Operand.tmp 10) (Operand.tmp 15) 3, type := 4, pos := "ref.go:20", after := af, guard := some (3, true) }) #[{ on := 5, ground := Ground.data }, { on := 10, ground := Ground.data }, { on := 3, ground := Ground.guard }] (by kernel_rfl) [5, 10, 3] (by kernel_rfl) fun af v W hb hd => ?_
    have d3 : v 3 = (Value.bool true) := hd 3 (by decide)
    have d5 : v 5 = (Value.int IntKind.i64 c) := hd 5 (by decide)
    have d10 : v 10 = (Value.int IntKind.i64 (xx : Int)) := hd 10 (by decide)
    have e10 := (Reg.gfr_eval (ops := (Reg.opsOf Try.f24 1)) (a0 := a0) (v := v) (L := [5, 10, 3]) 10 5 (by kernel_rfl) (by rw [hsz]; omega)).trans d5
    have e15 := (Reg.gfr_eval (ops := (Reg.opsOf Try.f24 1)) (a0 := a0) (v := v) (L := [5, 10, 3]) 15 10 (by kernel_rfl) (by rw [hsz]; omega)).trans d10
    have e8 := (Reg.gfr_eval (ops := (Reg.opsOf Try.f24 1)) (a0 := a0) (v := v) (L := [5, 10, 3]) 8 3 (by kernel_rfl) (by rw [hsz]; omega)).trans d3
    refine ⟨Reg.wanted_of rfl (by kernel_rfl) e8, ?_⟩
    generalize Reg.gfr (Reg.opsOf Try.f24 1) a0 v [5, 10, 3] = G at e10 e15 ⊢
    generalize hρ : G.eval = ρ at e10 e15
    have hρ' : G.eval = ρ := hρ
    refine Reg.go_run (Value.bool e) W ?_ ?_
    · rw [hρ']; simp [execOp, go_sem, e10, e15, f2]
    · exact ⟨Below.refl _ _, rfl⟩
  have h12 : Reg.OpOK Try.prog (Reg.opsOf Try.f24 1) a0 w0 (rhasG_tR vv k xx c gv gd e) (fun _ _ _ _ => True) 12 := by
    refine Reg.op_ok2 (fun af => { dst := some 17, op := Op.pick (Operand.tmp 8) (Operand.tmp 16) (Operand.const (Value.bool false)), type := 4, pos := "ref.go:20", after := af, guard := none }) #[{ on := 3, ground := Ground.data }, { on := 11, ground := Ground.data }] (by kernel_rfl) [3, 11] (by kernel_rfl) fun af v W hb hd => ?_
    have d3 : v 3 = (Value.bool true) := hd 3 (by decide)
    have d11 : v 11 = (Value.bool e) := hd 11 (by decide)
    have e8 := (Reg.gfr_eval (ops := (Reg.opsOf Try.f24 1)) (a0 := a0) (v := v) (L := [3, 11]) 8 3 (by kernel_rfl) (by rw [hsz]; omega)).trans d3
    have e16 := (Reg.gfr_eval (ops := (Reg.opsOf Try.f24 1)) (a0 := a0) (v := v) (L := [3, 11]) 16 11 (by kernel_rfl) (by rw [hsz]; omega)).trans d11
    refine ⟨Reg.wanted_none rfl, ?_⟩
    have eC : ∀ x, (Reg.gfr (Reg.opsOf Try.f24 1) a0 v [3, 11]).eval (.const x) = x := fun _ => rfl
    generalize Reg.gfr (Reg.opsOf Try.f24 1) a0 v [3, 11] = G at e8 e16 eC ⊢
    generalize hρ : G.eval = ρ at e8 e16 eC
    have hρ' : G.eval = ρ := hρ
    refine Reg.go_run (Value.bool e) W ?_ ?_
    · rw [hρ']; simp [execOp, go_sem, e8, e16, eC]
    · exact ⟨Below.refl _ _, rfl⟩
  have h13 : Reg.OpOK Try.prog (Reg.opsOf Try.f24 1) a0 w0 (rhasG_tR vv k xx c gv gd e) (fun _ _ _ _ => True) 13 := by
    refine Reg.op_ok2 (fun af => { dst := some 4, op := Op.assign (Operand.tmp 17), type := 4, pos := "ref.go:20", after := af, guard := none }) #[{ on := 12, ground := Ground.data }, { on := 3, ground := Ground.chain }, { on := 0, ground := Ground.phase }, { on := 1, ground := Ground.phase }, { on := 2, ground := Ground.phase }, { on := 3, ground := Ground.phase }, { on := 4, ground := Ground.phase }, { on := 5, ground := Ground.phase }, { on := 6, ground := Ground.phase }, { on := 7, ground := Ground.phase }, { on := 8, ground := Ground.phase }, { on := 9, ground := Ground.phase }, { on := 10, ground := Ground.phase }, { on := 11, ground := Ground.phase }, { on := 12, ground := Ground.phase }] (by kernel_rfl) [12, 3, 0, 1, 2, 3, 4, 5, 6, 7, 8, 9, 10, 11, 12] (by kernel_rfl) fun af v W hb hd => ?_
    have d12 : v 12 = (Value.bool e) := hd 12 (by decide)
    have e17 := (Reg.gfr_eval (ops := (Reg.opsOf Try.f24 1)) (a0 := a0) (v := v) (L := [12, 3, 0, 1, 2, 3, 4, 5, 6, 7, 8, 9, 10, 11, 12]) 17 12 (by kernel_rfl) (by rw [hsz]; omega)).trans d12
    refine ⟨Reg.wanted_none rfl, ?_⟩
    generalize Reg.gfr (Reg.opsOf Try.f24 1) a0 v [12, 3, 0, 1, 2, 3, 4, 5, 6, 7, 8, 9, 10, 11, 12] = G at e17 ⊢
    generalize hρ : G.eval = ρ at e17
    have hρ' : G.eval = ρ := hρ
    refine Reg.go_run (Value.bool e) W ?_ ?_
    · rw [hρ']; simp [execOp, go_sem, e17]
    · exact ⟨Below.refl _ _, rfl⟩
  refine Reg.region_all (by kernel_rfl) (rhasG_tR vv k xx c gv gd e) (by rw [hn, hsz]; kernel_rfl) (rhasG_t_stable vv k xx c gv gd e) (fun i hi => ?_) (fun v w hb hR => ?_)
  · rw [hn] at hi
    match i, List.mem_range.1 hi with
    | 0, _ => exact h0
    | 1, _ => exact h1
    | 2, _ => exact h2
    | 3, _ => exact h3
    | 4, _ => exact h4
    | 5, _ => exact h5
    | 6, _ => exact h6
    | 7, _ => exact h7
    | 8, _ => exact h8
    | 9, _ => exact h9
    | 10, _ => exact h10
    | 11, _ => exact h11
    | 12, _ => exact h12
    | 13, _ => exact h13
    | (_ + 14), h => omega
  · rw [hn] at hR ⊢
    have v0 : v 0 = (Value.agg (dC k c)) := hR 0 (by decide)
    have v1 : v 1 = (Value.int IntKind.i64 0) := hR 1 (by decide)
    have v2 : v 2 = (Value.bool true) := hR 2 (by decide)
    have v3 : v 3 = (Value.bool true) := hR 3 (by decide)
    have v4 : v 4 = (Value.pointer (some ⟨gd, 1, none⟩)) := hR 4 (by decide)
    have v5 : v 5 = (Value.int IntKind.i64 c) := hR 5 (by decide)
    have v6 : v 6 = (Value.pointer (some ⟨gd, 0, none⟩)) := hR 6 (by decide)
    have v7 : v 7 = (Value.int IntKind.i64 (k : Int)) := hR 7 (by decide)
    have v8 : v 8 = (Value.pointer (some ⟨gv, k, none⟩)) := hR 8 (by decide)
    have v9 : v 9 = (Value.int IntKind.u32 (xx : Int)) := hR 9 (by decide)
    have v10 : v 10 = (Value.int IntKind.i64 (xx : Int)) := hR 10 (by decide)
    have v11 : v 11 = (Value.bool e) := hR 11 (by decide)
    have v12 : v 12 = (Value.bool e) := hR 12 (by decide)
    have v13 : v 13 = (Value.bool e) := hR 13 (by decide)
    rw [hfin v, v0, v1, v2, v3, v4, v5, v6, v7, v8, v9, v10, v11, v12, v13]
    exact hend w  hb 
def rhasG_fR (ss c : Int) (gv gd : Nat) : Nat → Value → World → Prop
  | 0 => fun x_ _ => x_ = (Value.agg (dC ss c))
  | 1 => fun x_ _ => x_ = (Value.int IntKind.i64 50)
  | 2 => fun x_ _ => x_ = (Value.bool false)
  | 3 => fun x_ _ => x_ = (Value.bool false)
  | 4 => fun x_ _ => x_ = undef
  | 5 => fun x_ _ => x_ = undef
  | 6 => fun x_ _ => x_ = undef
  | 7 => fun x_ _ => x_ = undef
  | 8 => fun x_ _ => x_ = undef
  | 9 => fun x_ _ => x_ = undef
  | 10 => fun x_ _ => x_ = undef
  | 11 => fun x_ _ => x_ = undef
  | 12 => fun x_ _ => x_ = (Value.bool false)
  | 13 => fun x_ _ => x_ = (Value.bool false)
  | _ => fun _ _ => True
theorem rhasG_f_stable (ss c : Int) (gv gd : Nat) : ∀ i_ u_ w_ w_', (rhasG_fR ss c gv gd) i_ u_ w_ → Below w_.heap.size w_ w_' → (rhasG_fR ss c gv gd) i_ u_ w_' := fun i_ u_ w_ w_' h_ hb_ => by
  match i_, h_ with
  | 0, h_ => exact h_
  | 1, h_ => exact h_
  | 2, h_ => exact h_
  | 3, h_ => exact h_
  | 4, h_ => exact h_
  | 5, h_ => exact h_
  | 6, h_ => exact h_
  | 7, h_ => exact h_
  | 8, h_ => exact h_
  | 9, h_ => exact h_
  | 10, h_ => exact h_
  | 11, h_ => exact h_
  | 12, h_ => exact h_
  | 13, h_ => exact h_
  | (_ + 14), _ => trivial
set_option maxHeartbeats 4000000 in
set_option maxRecDepth 20000 in
theorem rhasG_f (ss c : Int) (gv gd : Nat) (w0 : World) {s0 s1 s5 s6 s7 s8 s9 s10 s11 s12 s13 s14 s15 s16 s17 : Value}
    (f1 : dotE ss c = 50)
    (M_gd : ∀ W, Below w0.heap.size w0 W → W.heap[gd]? = some (.cells (dC ss c) 35 (0, 0)))
    {Q : Exit → Act → World → Prop}
    (hend : ∀ (w : World), Below w0.heap.size w0 w → Q .normal { tmps := #[s0, s1, (Value.pointer (some ⟨gv, 0, none⟩)), (Value.pointer (some ⟨gd, 0, none⟩)), (Value.bool false), (Value.agg (dC ss c)), (Value.int IntKind.i64 50), (Value.bool false), (Value.bool false), undef, undef, undef, undef, undef, undef, undef, undef, (Value.bool false)], defers := [] } w) :
    (Code.region 1 (Reg.opsOf Try.f24 1) true).wp Try.prog Q { tmps := #[s0, s1, (Value.pointer (some ⟨gv, 0, none⟩)), (Value.pointer (some ⟨gd, 0, none⟩)), (Value.bool false), s5, s6, s7, s8, s9, s10, s11, s12, s13, s14, s15, s16, s17], defers := [] } w0 := by
  obtain ⟨a0, ha0⟩ : ∃ a0 : Act, a0 = { tmps := #[s0, s1, (Value.pointer (some ⟨gv, 0, none⟩)), (Value.pointer (some ⟨gd, 0, none⟩)), (Value.bool false), s5, s6, s7, s8, s9, s10, s11, s12, s13, s14, s15, s16, s17], defers := [] } := ⟨_, rfl⟩
  have hfin : ∀ v : Nat → Value, Reg.gfr (Reg.opsOf Try.f24 1) a0 v (List.range 14) = { tmps := #[s0, s1, (Value.pointer (some ⟨gv, 0, none⟩)), (Value.pointer (some ⟨gd, 0, none⟩)), v 13, v 0, v 1, v 2, v 3, v 4, v 5, v 6, v 7, v 8, v 9, v 10, v 11, v 12], defers := [] } := fun v => by rw [ha0]; kernel_rfl
  rw [← ha0]
  have i2 : a0.eval (.tmp 2) = (Value.pointer (some ⟨gv, 0, none⟩)) := by rw [ha0]; rfl
  have i3 : a0.eval (.tmp 3) = (Value.pointer (some ⟨gd, 0, none⟩)) := by rw [ha0]; rfl
  have i4 : a0.eval (.tmp 4) = (Value.bool false) := by rw [ha0]; rfl
  have hsz : a0.tmps.size = 18 := by rw [ha0]; rfl
  clear ha0
  have hn : (Reg.opsOf Try.f24 1).size = 14 := by kernel_rfl
  have h0 : Reg.OpOK Try.prog (Reg.opsOf Try.f24 1) a0 w0 (rhasG_fR ss c gv gd) (fun _ _ _ _ => True) 0 := by
    refine Reg.op_ok2 (fun af => { dst := some 5, op := Op.load 35 (Operand.tmp 3), type := 35, pos := "ref.go:20", after := af, guard := none }) #[] (by kernel_rfl) [] (by kernel_rfl) fun af v W hb hd => ?_
    have e3 := (Reg.gfr_eval0 (ops := (Reg.opsOf Try.f24 1)) (a0 := a0) (v := v) (L := []) 3 (by kernel_rfl)).trans i3
    refine ⟨Reg.wanted_none rfl, ?_⟩
    generalize Reg.gfr (Reg.opsOf Try.f24 1) a0 v [] = G at e3 ⊢
    generalize hρ : G.eval = ρ at e3
    have hρ' : G.eval = ρ := hρ
    exact fun K hK => wp_load_row 35 (.tmp 3) rfl gd (by rw [hρ']; exact e3) 35 (dC ss c) (0, 0) _ (M_gd W hb) Try.underlying35 rfl size_dot (hK _ _ ⟨Below.refl _ _, rfl⟩)
  have h1 : Reg.OpOK Try.prog (Reg.opsOf Try.f24 1) a0 w0 (rhasG_fR ss c gv gd) (fun _ _ _ _ => True) 1 := by
    refine Reg.op_ok2 (fun af => { dst := some 6, op := Op.call { callee := Callee.value (Operand.func 39), args := #[Operand.tmp 5], argTypes := #[35] }, type := 3, pos := "ref.go:20", after := af, guard := none }) #[{ on := 0, ground := Ground.data }] (by kernel_rfl) [0] (by kernel_rfl) fun af v W hb hd => ?_
    have d0 : v 0 = (Value.agg (dC ss c)) := hd 0 (by decide)
    have e5 := (Reg.gfr_eval (ops := (Reg.opsOf Try.f24 1)) (a0 := a0) (v := v) (L := [0]) 5 0 (by kernel_rfl) (by rw [hsz]; omega)).trans d0
    refine ⟨Reg.wanted_none rfl, ?_⟩
    have eF : ∀ f, (Reg.gfr (Reg.opsOf Try.f24 1) a0 v [0]).eval (.func f) = .func (.func f) #[] #[] := fun _ => rfl
    generalize Reg.gfr (Reg.opsOf Try.f24 1) a0 v [0] = G at e5 eF ⊢
    generalize hρ : G.eval = ρ at e5 eF
    have hρ' : G.eval = ρ := hρ
    refine Reg.go_call 39 #[(Value.agg (dC ss c))] (by rw [hρ']; simp [execOp, go_sem, e5, eF]) ((rcheck_any ss c W).mono fun e w' he => ?_)
    obtain ⟨rfl, hbb⟩ := he
    exact ⟨_, rfl, hbb, (show _ = _ from by rw [f1])⟩
  have h2 : Reg.OpOK Try.prog (Reg.opsOf Try.f24 1) a0 w0 (rhasG_fR ss c gv gd) (fun _ _ _ _ => True) 2 := by
    refine Reg.op_ok2 (fun af => { dst := some 7, op := Op.binOp BinOp.eql 3 (Operand.tmp 6) (Operand.const (Value.int IntKind.i64 0)) 3, type := 4, pos := "ref.go:20", after := af, guard := none }) #[{ on := 1, ground := Ground.data }] (by kernel_rfl) [1] (by kernel_rfl) fun af v W hb hd => ?_
    have d1 : v 1 = (Value.int IntKind.i64 50) := hd 1 (by decide)
    have e6 := (Reg.gfr_eval (ops := (Reg.opsOf Try.f24 1)) (a0 := a0) (v := v) (L := [1]) 6 1 (by kernel_rfl) (by rw [hsz]; omega)).trans d1
    refine ⟨Reg.wanted_none rfl, ?_⟩
    have eC : ∀ x, (Reg.gfr (Reg.opsOf Try.f24 1) a0 v [1]).eval (.const x) = x := fun _ => rfl
    generalize Reg.gfr (Reg.opsOf Try.f24 1) a0 v [1] = G at e6 eC ⊢
    generalize hρ : G.eval = ρ at e6 eC
    have hρ' : G.eval = ρ := hρ
    refine Reg.go_run (Value.bool false) W ?_ ?_
    · rw [hρ']; simp [execOp, go_sem, e6, eC]
    · exact ⟨Below.refl _ _, rfl⟩
  have h3 : Reg.OpOK Try.prog (Reg.opsOf Try.f24 1) a0 w0 (rhasG_fR ss c gv gd) (fun _ _ _ _ => True) 3 := by
    refine Reg.op_ok2 (fun af => { dst := some 8, op := Op.move (Operand.tmp 7), type := 4, pos := "ref.go:20", after := af, guard := none }) #[{ on := 2, ground := Ground.data }, { on := 1, ground := Ground.chain }] (by kernel_rfl) [2, 1] (by kernel_rfl) fun af v W hb hd => ?_
    have d2 : v 2 = (Value.bool false) := hd 2 (by decide)
    have e7 := (Reg.gfr_eval (ops := (Reg.opsOf Try.f24 1)) (a0 := a0) (v := v) (L := [2, 1]) 7 2 (by kernel_rfl) (by rw [hsz]; omega)).trans d2
    refine ⟨Reg.wanted_none rfl, ?_⟩
    generalize Reg.gfr (Reg.opsOf Try.f24 1) a0 v [2, 1] = G at e7 ⊢
    generalize hρ : G.eval = ρ at e7
    have hρ' : G.eval = ρ := hρ
    refine Reg.go_run (Value.bool false) W ?_ ?_
    · rw [hρ']; simp [execOp, go_sem, e7]
    · exact ⟨Below.refl _ _, rfl⟩
  have h4 : Reg.OpOK Try.prog (Reg.opsOf Try.f24 1) a0 w0 (rhasG_fR ss c gv gd) (fun _ _ _ _ => True) 4 := by
    refine Reg.op_no2 (fun af => { dst := some 9, op := Op.fieldAddr 35 (Operand.tmp 3) 1, type := 0, pos := "ref.go:20", after := af, guard := some (3, true) }) #[{ on := 3, ground := Ground.guard }] (by kernel_rfl) [3] (by kernel_rfl) fun af v W hb hd => ?_
    have d3 : v 3 = (Value.bool false) := hd 3 (by decide)
    have e8 := (Reg.gfr_eval (ops := (Reg.opsOf Try.f24 1)) (a0 := a0) (v := v) (L := [3]) 8 3 (by kernel_rfl) (by rw [hsz]; omega)).trans d3
    exact ⟨Reg.wanted_not rfl (by kernel_rfl) e8, rfl, fun _ _ _ _ => ⟨trivial, trivial⟩⟩
  have h5 : Reg.OpOK Try.prog (Reg.opsOf Try.f24 1) a0 w0 (rhasG_fR ss c gv gd) (fun _ _ _ _ => True) 5 := by
    refine Reg.op_no2 (fun af => { dst := some 10, op := Op.load 3 (Operand.tmp 9), type := 3, pos := "ref.go:20", after := af, guard := some (3, true) }) #[{ on := 4, ground := Ground.data }, { on := 3, ground := Ground.guard }] (by kernel_rfl) [4, 3] (by kernel_rfl) fun af v W hb hd => ?_
    have d3 : v 3 = (Value.bool false) := hd 3 (by decide)
    have e8 := (Reg.gfr_eval (ops := (Reg.opsOf Try.f24 1)) (a0 := a0) (v := v) (L := [4, 3]) 8 3 (by kernel_rfl) (by rw [hsz]; omega)).trans d3
    exact ⟨Reg.wanted_not rfl (by kernel_rfl) e8, rfl, fun _ _ _ _ => ⟨trivial, trivial⟩⟩
  have h6 : Reg.OpOK Try.prog (Reg.opsOf Try.f24 1) a0 w0 (rhasG_fR ss c gv gd) (fun _ _ _ _ => True) 6 := by
    refine Reg.op_no2 (fun af => { dst := some 11, op := Op.fieldAddr 35 (Operand.tmp 3) 0, type := 0, pos := "ref.go:20", after := af, guard := some (3, true) }) #[{ on := 3, ground := Ground.guard }] (by kernel_rfl) [3] (by kernel_rfl) fun af v W hb hd => ?_
    have d3 : v 3 = (Value.bool false) := hd 3 (by decide)
    have e8 := (Reg.gfr_eval (ops := (Reg.opsOf Try.f24 1)) (a0 := a0) (v := v) (L := [3]) 8 3 (by kernel_rfl) (by rw [hsz]; omega)).trans d3
    exact ⟨Reg.wanted_not rfl (by kernel_rfl) e8, rfl, fun _ _ _ _ => ⟨trivial, trivial⟩⟩
  have h7 : Reg.OpOK Try.prog (Reg.opsOf Try.f24 1) a0 w0 (rhasG_fR ss c gv gd) (fun _ _ _ _ => True) 7 := by
    refine Reg.op_no2 (fun af => { dst := some 12, op := Op.load 3 (Operand.tmp 11), type := 3, pos := "ref.go:20", after := af, guard := some (3, true) }) #[{ on := 6, ground := Ground.data }, { on := 3, ground := Ground.guard }] (by kernel_rfl) [6, 3] (by kernel_rfl) fun af v W hb hd => ?_
    have d3 : v 3 = (Value.bool false) := hd 3 (by decide)
    have e8 := (Reg.gfr_eval (ops := (Reg.opsOf Try.f24 1)) (a0 := a0) (v := v) (L := [6, 3]) 8 3 (by kernel_rfl) (by rw [hsz]; omega)).trans d3
    exact ⟨Reg.wanted_not rfl (by kernel_rfl) e8, rfl, fun _ _ _ _ => ⟨trivial, trivial⟩⟩
  have h8 : Reg.OpOK Try.prog (Reg.opsOf Try.f24 1) a0 w0 (rhasG_fR ss c gv gd) (fun _ _ _ _ => True) 8 := by
    refine Reg.op_no2 (fun af => { dst := some 13, op := Op.indexAddr 24 (Operand.tmp 2) (Operand.tmp 12), type := 0, pos := "ref.go:20", after := af, guard := some (3, true) }) #[{ on := 7, ground := Ground.data }, { on := 3, ground := Ground.guard }] (by kernel_rfl) [7, 3] (by kernel_rfl) fun af v W hb hd => ?_
    have d3 : v 3 = (Value.bool false) := hd 3 (by decide)
    have e8 := (Reg.gfr_eval (ops := (Reg.opsOf Try.f24 1)) (a0 := a0) (v := v) (L := [7, 3]) 8 3 (by kernel_rfl) (by rw [hsz]; omega)).trans d3
    exact ⟨Reg.wanted_not rfl (by kernel_rfl) e8, rfl, fun _ _ _ _ => ⟨trivial, trivial⟩⟩
  have h9 : Reg.OpOK Try.prog (Reg.opsOf Try.f24 1) a0 w0 (rhasG_fR ss c gv gd) (fun _ _ _ _ => True) 9 := by
    refine Reg.op_no2 (fun af => { dst := some 14, op := Op.load 22 (Operand.tmp 13), type := 22, pos := "ref.go:20", after := af, guard := some (3, true) }) #[{ on := 8, ground := Ground.data }, { on := 3, ground := Ground.guard }] (by kernel_rfl) [8, 3] (by kernel_rfl) fun af v W hb hd => ?_
    have d3 : v 3 = (Value.bool false) := hd 3 (by decide)
    have e8 := (Reg.gfr_eval (ops := (Reg.opsOf Try.f24 1)) (a0 := a0) (v := v) (L := [8, 3]) 8 3 (by kernel_rfl) (by rw [hsz]; omega)).trans d3
    exact ⟨Reg.wanted_not rfl (by kernel_rfl) e8, rfl, fun _ _ _ _ => ⟨trivial, trivial⟩⟩
  have h10 : Reg.OpOK Try.prog (Reg.opsOf Try.f24 1) a0 w0 (rhasG_fR ss c gv gd) (fun _ _ _ _ => True) 10 := by
    refine Reg.op_no2 (fun af => { dst := some 15, op := Op.convert 22 3 (Operand.tmp 14), type := 3, pos := "ref.go:20", after := af, guard := some (3, true) }) #[{ on := 9, ground := Ground.data }, { on := 3, ground := Ground.guard }] (by kernel_rfl) [9, 3] (by kernel_rfl) fun af v W hb hd => ?_
    have d3 : v 3 = (Value.bool false) := hd 3 (by decide)
    have e8 := (Reg.gfr_eval (ops := (Reg.opsOf Try.f24 1)) (a0 := a0) (v := v) (L := [9, 3]) 8 3 (by kernel_rfl) (by rw [hsz]; omega)).trans d3
    exact ⟨Reg.wanted_not rfl (by kernel_rfl) e8, rfl, fun _ _ _ _ => ⟨trivial, trivial⟩⟩
  have h11 : Reg.OpOK Try.prog (Reg.opsOf Try.f24 1) a0 w0 (rhasG_fR ss c gv gd) (fun _ _ _ _ => True) 11 := by
    refine Reg.op_no2 (fun af => { dst := some 16, op := Op.binOp BinOp.leq 3 (Operand.tmp 10) (Operand.tmp 15) 3, type := 4, pos := "ref.go:20", after := af, guard := some (3, true) }) #[{ on := 5, ground := Ground.data }, { on := 10, ground := Ground.data }, { on := 3, ground := Ground.guard }] (by kernel_rfl) [5, 10, 3] (by kernel_rfl) fun af v W hb hd => ?_
    have d3 : v 3 = (Value.bool false) := hd 3 (by decide)
    have e8 := (Reg.gfr_eval (ops := (Reg.opsOf Try.f24 1)) (a0 := a0) (v := v) (L := [5, 10, 3]) 8 3 (by kernel_rfl) (by rw [hsz]; omega)).trans d3
    exact ⟨Reg.wanted_not rfl (by kernel_rfl) e8, rfl, fun _ _ _ _ => ⟨trivial, trivial⟩⟩
  have h12 : Reg.OpOK Try.prog (Reg.opsOf Try.f24 1) a0 w0 (rhasG_fR ss c gv gd) (fun _ _ _ _ => True) 12 := by
    refine Reg.op_ok2 (fun af => { dst := some 17, op := Op.pick (Operand.tmp 8) (Operand.tmp 16) (Operand.const (Value.bool false)), type := 4, pos := "ref.go:20", after := af, guard := none }) #[{ on := 3, ground := Ground.data }, { on := 11, ground := Ground.data }] (by kernel_rfl) [3, 11] (by kernel_rfl) fun af v W hb hd => ?_
    have d3 : v 3 = (Value.bool false) := hd 3 (by decide)
    have d11 : v 11 = undef := hd 11 (by decide)
    have e8 := (Reg.gfr_eval (ops := (Reg.opsOf Try.f24 1)) (a0 := a0) (v := v) (L := [3, 11]) 8 3 (by kernel_rfl) (by rw [hsz]; omega)).trans d3
    have e16 := (Reg.gfr_eval (ops := (Reg.opsOf Try.f24 1)) (a0 := a0) (v := v) (L := [3, 11]) 16 11 (by kernel_rfl) (by rw [hsz]; omega)).trans d11
    refine ⟨Reg.wanted_none rfl, ?_⟩
    have eC : ∀ x, (Reg.gfr (Reg.opsOf Try.f24 1) a0 v [3, 11]).eval (.const x) = x := fun _ => rfl
    generalize Reg.gfr (Reg.opsOf Try.f24 1) a0 v [3, 11] = G at e8 e16 eC ⊢
    generalize hρ : G.eval = ρ at e8 e16 eC
    have hρ' : G.eval = ρ := hρ
    refine Reg.go_run (Value.bool false) W ?_ ?_
    · rw [hρ']; simp [execOp, go_sem, e8, e16, eC]
    · exact ⟨Below.refl _ _, rfl⟩
  have h13 : Reg.OpOK Try.prog (Reg.opsOf Try.f24 1) a0 w0 (rhasG_fR ss c gv gd) (fun _ _ _ _ => True) 13 := by
    refine Reg.op_ok2 (fun af => { dst := some 4, op := Op.assign (Operand.tmp 17), type := 4, pos := "ref.go:20", after := af, guard := none }) #[{ on := 12, ground := Ground.data }, { on := 3, ground := Ground.chain }, { on := 0, ground := Ground.phase }, { on := 1, ground := Ground.phase }, { on := 2, ground := Ground.phase }, { on := 3, ground := Ground.phase }, { on := 4, ground := Ground.phase }, { on := 5, ground := Ground.phase }, { on := 6, ground := Ground.phase }, { on := 7, ground := Ground.phase }, { on := 8, ground := Ground.phase }, { on := 9, ground := Ground.phase }, { on := 10, ground := Ground.phase }, { on := 11, ground := Ground.phase }, { on := 12, ground := Ground.phase }] (by kernel_rfl) [12, 3, 0, 1, 2, 3, 4, 5, 6, 7, 8, 9, 10, 11, 12] (by kernel_rfl) fun af v W hb hd => ?_
    have d12 : v 12 = (Value.bool false) := hd 12 (by decide)
    have e17 := (Reg.gfr_eval (ops := (Reg.opsOf Try.f24 1)) (a0 := a0) (v := v) (L := [12, 3, 0, 1, 2, 3, 4, 5, 6, 7, 8, 9, 10, 11, 12]) 17 12 (by kernel_rfl) (by rw [hsz]; omega)).trans d12
    refine ⟨Reg.wanted_none rfl, ?_⟩
    generalize Reg.gfr (Reg.opsOf Try.f24 1) a0 v [12, 3, 0, 1, 2, 3, 4, 5, 6, 7, 8, 9, 10, 11, 12] = G at e17 ⊢
    generalize hρ : G.eval = ρ at e17
    have hρ' : G.eval = ρ := hρ
    refine Reg.go_run (Value.bool false) W ?_ ?_
    · rw [hρ']; simp [execOp, go_sem, e17]
    · exact ⟨Below.refl _ _, rfl⟩
  refine Reg.region_all (by kernel_rfl) (rhasG_fR ss c gv gd) (by rw [hn, hsz]; kernel_rfl) (rhasG_f_stable ss c gv gd) (fun i hi => ?_) (fun v w hb hR => ?_)
  · rw [hn] at hi
    match i, List.mem_range.1 hi with
    | 0, _ => exact h0
    | 1, _ => exact h1
    | 2, _ => exact h2
    | 3, _ => exact h3
    | 4, _ => exact h4
    | 5, _ => exact h5
    | 6, _ => exact h6
    | 7, _ => exact h7
    | 8, _ => exact h8
    | 9, _ => exact h9
    | 10, _ => exact h10
    | 11, _ => exact h11
    | 12, _ => exact h12
    | 13, _ => exact h13
    | (_ + 14), h => omega
  · rw [hn] at hR ⊢
    have v0 : v 0 = (Value.agg (dC ss c)) := hR 0 (by decide)
    have v1 : v 1 = (Value.int IntKind.i64 50) := hR 1 (by decide)
    have v2 : v 2 = (Value.bool false) := hR 2 (by decide)
    have v3 : v 3 = (Value.bool false) := hR 3 (by decide)
    have v4 : v 4 = undef := hR 4 (by decide)
    have v5 : v 5 = undef := hR 5 (by decide)
    have v6 : v 6 = undef := hR 6 (by decide)
    have v7 : v 7 = undef := hR 7 (by decide)
    have v8 : v 8 = undef := hR 8 (by decide)
    have v9 : v 9 = undef := hR 9 (by decide)
    have v10 : v 10 = undef := hR 10 (by decide)
    have v11 : v 11 = undef := hR 11 (by decide)
    have v12 : v 12 = (Value.bool false) := hR 12 (by decide)
    have v13 : v 13 = (Value.bool false) := hR 13 (by decide)
    rw [hfin v, v0, v1, v2, v3, v4, v5, v6, v7, v8, v9, v10, v11, v12, v13]
    exact hend w  hb 
end Go.Proofs.Ytfifbjlmbdgmjaa
