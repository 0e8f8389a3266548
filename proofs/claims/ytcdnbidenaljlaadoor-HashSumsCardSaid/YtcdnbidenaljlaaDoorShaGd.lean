/- Regions that draw their order: their obligations (printed by regen2.py). -/
import Derived.Test.YtcdnbidenaljlaaDoorShaQc
import Derived.Test.YtcdnbidenaljlaaDoorShaPa
import Derived.Test.YtcdnbidenaljlaaDoorRegT
namespace Go.Proofs.YtcdnbidenaljlaaDoor
open Go.RowKit
set_option linter.unusedVariables false
set_option linter.unusedSimpArgs false
set_option linter.unusedSectionVars false
def hsums11R (gw gg gh kk n c c1 r2 c2 : Nat) (A A1 A2 : Option Addr) (DC HC : Array Value) : Nat → Value → World → Prop
  | 0 => fun x_ _ => x_ = (Value.slice A1 n c1)
  | 1 => Reg.IsRow 22 #[(Value.slice A1 n c1)] 1
  | 2 => fun x_ _ => x_ = (Value.agg DC)
  | 3 => fun x_ _ => x_ = (Value.agg DC)
  | 4 => fun x_ _ => x_ = (Value.bool true)
  | 5 => fun x_ _ => x_ = (Value.bool true)
  | 6 => fun x_ _ => x_ = (Value.slice A1 n c1)
  | 7 => fun x_ _ => x_ = (Value.int IntKind.i64 (kk : Int))
  | 8 => fun x_ _ => x_ = (Value.slice A1 kk c1)
  | 9 => fun x_ _ => x_ = (Value.slice A1 n c1)
  | 10 => fun x_ _ => x_ = (Value.int IntKind.i64 (kk : Int))
  | 11 => fun x_ _ => x_ = (Value.slice A2 r2 c2)
  | 12 => Reg.IsRow 22 #[(Value.slice A1 kk c1), (Value.slice none 0 0), (Value.slice A2 r2 c2)] 3
  | 13 => fun x_ _ => x_ = (Value.agg DC)
  | 14 => fun x_ _ => x_ = (Value.agg DC)
  | 15 => fun x_ _ => x_ = (Value.bool true)
  | 16 => fun x_ _ => x_ = (Value.bool true)
  | 17 => fun x_ _ => x_ = (Value.bool true)
  | 18 => fun x_ _ => x_ = (Value.agg DC)
  | 19 => fun x_ _ => x_ = (Value.agg DC)
  | 20 => fun x_ _ => x_ = (Value.bool true)
  | 21 => fun x_ _ => x_ = (Value.bool true)
  | 22 => fun x_ _ => x_ = (Value.bool true)
  | 23 => fun x_ _ => x_ = (Value.agg HC)
  | 24 => fun x_ _ => x_ = (Value.slice A n c)
  | 25 => fun x_ _ => x_ = (Value.int IntKind.i64 (kk : Int))
  | 26 => fun x_ _ => x_ = (Value.slice A kk c)
  | 27 => fun x_ _ => x_ = (Value.agg HC)
  | 28 => fun x_ _ => x_ = (Value.bool true)
  | 29 => fun x_ _ => x_ = (Value.bool true)
  | 30 => fun x_ _ => x_ = (Value.bool true)
  | 31 => fun x_ _ => x_ = (Value.int IntKind.i64 (n : Int))
  | 32 => fun x_ _ => x_ = (Value.slice A n c)
  | 33 => fun x_ _ => x_ = (Value.int IntKind.i64 (n : Int))
  | 34 => fun x_ _ => x_ = (Value.bool true)
  | 35 => fun x_ _ => x_ = (Value.bool true)
  | 36 => fun x_ _ => x_ = (Value.bool true)
  | _ => fun _ _ => True
theorem hsums11_stable (gw gg gh kk n c c1 r2 c2 : Nat) (A A1 A2 : Option Addr) (DC HC : Array Value) : ∀ i_ u_ w_ w_', (hsums11R gw gg gh kk n c c1 r2 c2 A A1 A2 DC HC) i_ u_ w_ → Below w_.heap.size w_ w_' → (hsums11R gw gg gh kk n c c1 r2 c2 A A1 A2 DC HC) i_ u_ w_' := fun i_ u_ w_ w_' h_ hb_ => by
  match i_, h_ with
  | 0, h_ => exact h_
  | 1, h_ => exact (Reg.IsRow.below h_ hb_)
  | 2, h_ => exact h_
  | 3, h_ => exact h_
  | 4, h_ => exact h_
  | 5, h_ => exact h_
  | 6, h_ => exact h_
  | 7, h_ => exact h_
  | 8, h_ => exact h_
  | 9, h_ => exact h_
  | 10, h_ => exact h_
  | 11, h_ => exact h_
  | 12, h_ => exact (Reg.IsRow.below h_ hb_)
  | 13, h_ => exact h_
  | 14, h_ => exact h_
  | 15, h_ => exact h_
  | 16, h_ => exact h_
  | 17, h_ => exact h_
  | 18, h_ => exact h_
  | 19, h_ => exact h_
  | 20, h_ => exact h_
  | 21, h_ => exact h_
  | 22, h_ => exact h_
  | 23, h_ => exact h_
  | 24, h_ => exact h_
  | 25, h_ => exact h_
  | 26, h_ => exact h_
  | 27, h_ => exact h_
  | 28, h_ => exact h_
  | 29, h_ => exact h_
  | 30, h_ => exact h_
  | 31, h_ => exact h_
  | 32, h_ => exact h_
  | 33, h_ => exact h_
  | 34, h_ => exact h_
  | 35, h_ => exact h_
  | 36, h_ => exact h_
  | (_ + 37), _ => trivial
section
variable (gw gg gh kk n c c1 r2 c2 : Nat) (A A1 A2 : Option Addr) (DC HC : Array Value) (w0 : World) (a0 : Act)
variable (hDi : (Tryd.prog.info? 25).map (·.size) = some DC.size)
variable (hHi : (Tryd.prog.info? 25).map (·.size) = some HC.size)
variable (hO1 : ∀ W b, Below w0.heap.size w0 W → W.heap[b]? = some (.cells #[(Value.slice A1 n c1)] 22) → Calls Tryd.prog 11 #[.slice (some ⟨b, 0, none⟩) 1 1] W fun e w' => e = .returned (Value.agg DC) ∧ Below W.heap.size W w')
variable (hO3 : ∀ W b, Below w0.heap.size w0 W → W.heap[b]? = some (.cells #[(Value.slice A1 kk c1), Value.slice none 0 0, (Value.slice A2 r2 c2)] 22) → Calls Tryd.prog 11 #[.slice (some ⟨b, 0, none⟩) 3 3] W fun e w' => e = .returned (Value.agg DC) ∧ Below W.heap.size W w')
variable (hSum : ∀ W, Below w0.heap.size w0 W → Calls Tryd.prog 10 #[(Value.pointer (some ⟨gg, 0, none⟩))] W fun e w' => e = .returned (Value.agg DC) ∧ Below W.heap.size W w')
variable (hRof : ∀ W, Below w0.heap.size w0 W → Calls Tryd.prog 8 #[(Value.slice A kk c)] W fun e w' => e = .returned (Value.agg HC) ∧ Below W.heap.size W w')
variable (hLen : ∀ W, Below w0.heap.size w0 W → Calls Tryd.prog 12 #[(Value.pointer (some ⟨gg, 0, none⟩))] W fun e w' => e = .returned (.int .i64 (n : Int)) ∧ W = w')
variable (hs1 : ∀ W : World, (Instr.slice 22 (Value.slice A1 n c1) none (some (.int .i64 (kk : Int))) none).run Tryd.prog W = .ok (Value.slice A1 kk c1) W)
variable (hs2 : ∀ W : World, (Instr.slice 22 (Value.slice A1 n c1) (some (.int .i64 (kk : Int))) none none).run Tryd.prog W = .ok (Value.slice A2 r2 c2) W)
variable (hs3 : ∀ W : World, (Instr.slice 22 (Value.slice A n c) none (some (.int .i64 (kk : Int))) none).run Tryd.prog W = .ok (Value.slice A kk c) W)
variable (heqD : ∀ W, (Op.equalIn 10000 25 (.agg DC) (.agg DC)).run Tryd.prog W = .ok true W)
variable (heqH : ∀ W, (Op.equalIn 10000 25 (.agg HC) (.agg HC)).run Tryd.prog W = .ok true W)
variable (M_gw : ∀ W, Below w0.heap.size w0 W → W.heap[gw]? = some (.cells DC 25 (0, 0)))
variable (M_gh : ∀ W, Below w0.heap.size w0 W → W.heap[gh]? = some (.cells HC 25 (0, 0)))
variable (i0 : a0.eval (.tmp 0) = (Value.slice A n c)) (i5 : a0.eval (.tmp 5) = (Value.slice A1 n c1)) (i6 : a0.eval (.tmp 6) = (Value.int IntKind.i64 (kk : Int))) (i7 : a0.eval (.tmp 7) = (Value.pointer (some ⟨gw, 0, none⟩))) (i8 : a0.eval (.tmp 8) = (Value.pointer (some ⟨gg, 0, none⟩))) (i9 : a0.eval (.tmp 9) = (Value.pointer (some ⟨gh, 0, none⟩))) (hsz : a0.tmps.size = 90)
include gw gg gh kk n c c1 r2 c2 A A1 A2 DC HC w0 a0 hDi hHi hO1 hO3 hSum hRof hLen hs1 hs2 hs3 heqD heqH M_gw M_gh i0 i5 i6 i7 i8 i9 hsz
set_option maxHeartbeats 4000000 in
set_option maxRecDepth 20000 in
theorem hsums11_h0 :
    Reg.OpOK Tryd.prog (Reg.opsOf Tryd.f3 11) a0 w0 (hsums11R gw gg gh kk n c c1 r2 c2 A A1 A2 DC HC) (fun _ _ _ _ => True) 0 := by
    refine Reg.op_ok2 (fun af => { dst := some 36, op := Op.move (Operand.tmp 5), type := 22, pos := "law.go:24", after := af, guard := none }) #[] (by kernel_rfl) [] (by kernel_rfl) fun af v W hb hd => ?_
    have e5 := (Reg.gfr_eval0 (ops := (Reg.opsOf Tryd.f3 11)) (a0 := a0) (v := v) (L := []) 5 (by kernel_rfl)).trans i5
    refine ⟨Reg.wanted_none rfl, ?_⟩
    generalize Reg.gfr (Reg.opsOf Tryd.f3 11) a0 v [] = G at e5 ⊢
    generalize hρ : G.eval = ρ at e5
    have hρ' : G.eval = ρ := hρ
    refine Reg.go_run (Value.slice A1 n c1) W ?_ ?_
    · rw [hρ']; simp [execOp, go_sem, e5]
    · exact ⟨Below.refl _ _, rfl⟩
set_option maxHeartbeats 4000000 in
set_option maxRecDepth 20000 in
theorem hsums11_h1 :
    Reg.OpOK Tryd.prog (Reg.opsOf Tryd.f3 11) a0 w0 (hsums11R gw gg gh kk n c c1 r2 c2 A A1 A2 DC HC) (fun _ _ _ _ => True) 1 := by
    refine Reg.op_ok2 (fun af => { dst := some 37, op := Op.buildSlice 39 1 #[(0, Operand.tmp 36)], type := 39, pos := "law.go:24", after := af, guard := none }) #[{ on := 0, ground := Ground.data }] (by kernel_rfl) [0] (by kernel_rfl) fun af v W hb hd => ?_
    have d0 : v 0 = (Value.slice A1 n c1) := hd 0 (by decide)
    have e36 := (Reg.gfr_eval (ops := (Reg.opsOf Tryd.f3 11)) (a0 := a0) (v := v) (L := [0]) 36 0 (by kernel_rfl) (by rw [hsz]; omega)).trans d0
    refine ⟨Reg.wanted_none rfl, ?_⟩
    generalize Reg.gfr (Reg.opsOf Tryd.f3 11) a0 v [0] = G at e36 ⊢
    generalize hρ : G.eval = ρ at e36
    have hρ' : G.eval = ρ := hρ
    refine Reg.go_run _ (W.alloc (.cells #[(Value.slice A1 n c1)] 22)) (by rw [hρ']; simp [execOp, go_sem, e36]) ⟨(Below.refl _ W).alloc (Nat.le_refl _) _, ⟨_, rfl, heap_alloc_new _ _⟩⟩
set_option maxHeartbeats 4000000 in
set_option maxRecDepth 20000 in
theorem hsums11_h2 :
    Reg.OpOK Tryd.prog (Reg.opsOf Tryd.f3 11) a0 w0 (hsums11R gw gg gh kk n c c1 r2 c2 A A1 A2 DC HC) (fun _ _ _ _ => True) 2 := by
    refine Reg.op_ok2 (fun af => { dst := some 38, op := Op.call { callee := Callee.value (Operand.func 11), args := #[Operand.tmp 37], argTypes := #[39] }, type := 25, pos := "law.go:24", after := af, guard := none }) #[{ on := 1, ground := Ground.data }] (by kernel_rfl) [1] (by kernel_rfl) fun af v W hb hd => ?_
    have d1 : (Reg.IsRow 22 #[(Value.slice A1 n c1)] 1) (v 1) W := hd 1 (by decide)
    have e37 := Reg.gfr_eval (ops := (Reg.opsOf Tryd.f3 11)) (a0 := a0) (v := v) (L := [1]) 37 1 (by kernel_rfl) (by rw [hsz]; omega)
    obtain ⟨gr, hg1, hg2⟩ := d1
    rw [hg1] at e37
    refine ⟨Reg.wanted_none rfl, ?_⟩
    have eF : ∀ f, (Reg.gfr (Reg.opsOf Tryd.f3 11) a0 v [1]).eval (.func f) = .func (.func f) #[] #[] := fun _ => rfl
    generalize Reg.gfr (Reg.opsOf Tryd.f3 11) a0 v [1] = G at e37 eF ⊢
    generalize hρ : G.eval = ρ at e37 eF
    have hρ' : G.eval = ρ := hρ
    refine Reg.go_call 11 #[(Value.slice (some ⟨gr, 0, none⟩) 1 1)] (by rw [hρ']; simp [execOp, go_sem, e37, eF]) ((hO1 W gr hb hg2).mono fun e w' he => ?_)
    obtain ⟨rfl, hbb⟩ := he
    exact ⟨_, rfl, hbb, rfl⟩
set_option maxHeartbeats 4000000 in
set_option maxRecDepth 20000 in
theorem hsums11_h3 :
    Reg.OpOK Tryd.prog (Reg.opsOf Tryd.f3 11) a0 w0 (hsums11R gw gg gh kk n c c1 r2 c2 A A1 A2 DC HC) (fun _ _ _ _ => True) 3 := by
    refine Reg.op_ok2 (fun af => { dst := some 39, op := Op.load 25 (Operand.tmp 7), type := 25, pos := "law.go:24", after := af, guard := none }) #[] (by kernel_rfl) [] (by kernel_rfl) fun af v W hb hd => ?_
    have e7 := (Reg.gfr_eval0 (ops := (Reg.opsOf Tryd.f3 11)) (a0 := a0) (v := v) (L := []) 7 (by kernel_rfl)).trans i7
    refine ⟨Reg.wanted_none rfl, ?_⟩
    generalize Reg.gfr (Reg.opsOf Tryd.f3 11) a0 v [] = G at e7 ⊢
    generalize hρ : G.eval = ρ at e7
    have hρ' : G.eval = ρ := hρ
    exact fun K hK => wp_load_row 25 (.tmp 7) rfl gw (by rw [hρ']; exact e7) 25 DC (0, 0) _ (M_gw W hb) Tryd.underlying25 rfl hDi (hK _ _ ⟨Below.refl _ _, rfl⟩)
set_option maxHeartbeats 4000000 in
set_option maxRecDepth 20000 in
theorem hsums11_h4 :
    Reg.OpOK Tryd.prog (Reg.opsOf Tryd.f3 11) a0 w0 (hsums11R gw gg gh kk n c c1 r2 c2 A A1 A2 DC HC) (fun _ _ _ _ => True) 4 := by
    refine Reg.op_ok2 (fun af => { dst := some 40, op := Op.binOp BinOp.eql 25 (Operand.tmp 38) (Operand.tmp 39) 25, type := 4, pos := "law.go:24", after := af, guard := none }) #[{ on := 2, ground := Ground.data }, { on := 3, ground := Ground.data }] (by kernel_rfl) [2, 3] (by kernel_rfl) fun af v W hb hd => ?_
    have d2 : v 2 = (Value.agg DC) := hd 2 (by decide)
    have d3 : v 3 = (Value.agg DC) := hd 3 (by decide)
    have e38 := (Reg.gfr_eval (ops := (Reg.opsOf Tryd.f3 11)) (a0 := a0) (v := v) (L := [2, 3]) 38 2 (by kernel_rfl) (by rw [hsz]; omega)).trans d2
    have e39 := (Reg.gfr_eval (ops := (Reg.opsOf Tryd.f3 11)) (a0 := a0) (v := v) (L := [2, 3]) 39 3 (by kernel_rfl) (by rw [hsz]; omega)).trans d3
    refine ⟨Reg.wanted_none rfl, ?_⟩
    generalize Reg.gfr (Reg.opsOf Tryd.f3 11) a0 v [2, 3] = G at e38 e39 ⊢
    generalize hρ : G.eval = ρ at e38 e39
    have hρ' : G.eval = ρ := hρ
    refine Reg.go_run (Value.bool true) W ?_ ?_
    · rw [hρ']; simp [execOp, go_sem, e38, e39, heqD]
    · exact ⟨Below.refl _ _, rfl⟩
set_option maxHeartbeats 4000000 in
set_option maxRecDepth 20000 in
theorem hsums11_h5 :
    Reg.OpOK Tryd.prog (Reg.opsOf Tryd.f3 11) a0 w0 (hsums11R gw gg gh kk n c c1 r2 c2 A A1 A2 DC HC) (fun _ _ _ _ => True) 5 := by
    refine Reg.op_ok2 (fun af => { dst := some 41, op := Op.move (Operand.tmp 40), type := 4, pos := "law.go:24", after := af, guard := none }) #[{ on := 4, ground := Ground.data }, { on := 2, ground := Ground.chain }] (by kernel_rfl) [4, 2] (by kernel_rfl) fun af v W hb hd => ?_
    have d4 : v 4 = (Value.bool true) := hd 4 (by decide)
    have e40 := (Reg.gfr_eval (ops := (Reg.opsOf Tryd.f3 11)) (a0 := a0) (v := v) (L := [4, 2]) 40 4 (by kernel_rfl) (by rw [hsz]; omega)).trans d4
    refine ⟨Reg.wanted_none rfl, ?_⟩
    generalize Reg.gfr (Reg.opsOf Tryd.f3 11) a0 v [4, 2] = G at e40 ⊢
    generalize hρ : G.eval = ρ at e40
    have hρ' : G.eval = ρ := hρ
    refine Reg.go_run (Value.bool true) W ?_ ?_
    · rw [hρ']; simp [execOp, go_sem, e40]
    · exact ⟨Below.refl _ _, rfl⟩
set_option maxHeartbeats 4000000 in
set_option maxRecDepth 20000 in
theorem hsums11_h6 :
    Reg.OpOK Tryd.prog (Reg.opsOf Tryd.f3 11) a0 w0 (hsums11R gw gg gh kk n c c1 r2 c2 A A1 A2 DC HC) (fun _ _ _ _ => True) 6 := by
    refine Reg.op_ok2 (fun af => { dst := some 42, op := Op.move (Operand.tmp 5), type := 22, pos := "law.go:24", after := af, guard := some (5, true) }) #[{ on := 5, ground := Ground.guard }] (by kernel_rfl) [5] (by kernel_rfl) fun af v W hb hd => ?_
    have d5 : v 5 = (Value.bool true) := hd 5 (by decide)
    have e5 := (Reg.gfr_eval0 (ops := (Reg.opsOf Tryd.f3 11)) (a0 := a0) (v := v) (L := [5]) 5 (by kernel_rfl)).trans i5
    have e41 := (Reg.gfr_eval (ops := (Reg.opsOf Tryd.f3 11)) (a0 := a0) (v := v) (L := [5]) 41 5 (by kernel_rfl) (by rw [hsz]; omega)).trans d5
    refine ⟨Reg.wanted_of rfl (by kernel_rfl) e41, ?_⟩
    generalize Reg.gfr (Reg.opsOf Tryd.f3 11) a0 v [5] = G at e5 ⊢
    generalize hρ : G.eval = ρ at e5
    have hρ' : G.eval = ρ := hρ
    refine Reg.go_run (Value.slice A1 n c1) W ?_ ?_
    · rw [hρ']; simp [execOp, go_sem, e5]
    · exact ⟨Below.refl _ _, rfl⟩
set_option maxHeartbeats 4000000 in
set_option maxRecDepth 20000 in
theorem hsums11_h7 :
    Reg.OpOK Tryd.prog (Reg.opsOf Tryd.f3 11) a0 w0 (hsums11R gw gg gh kk n c c1 r2 c2 A A1 A2 DC HC) (fun _ _ _ _ => True) 7 := by
    refine Reg.op_ok2 (fun af => { dst := some 43, op := Op.move (Operand.tmp 6), type := 3, pos := "law.go:24", after := af, guard := some (5, true) }) #[{ on := 5, ground := Ground.guard }] (by kernel_rfl) [5] (by kernel_rfl) fun af v W hb hd => ?_
    have d5 : v 5 = (Value.bool true) := hd 5 (by decide)
    have e6 := (Reg.gfr_eval0 (ops := (Reg.opsOf Tryd.f3 11)) (a0 := a0) (v := v) (L := [5]) 6 (by kernel_rfl)).trans i6
    have e41 := (Reg.gfr_eval (ops := (Reg.opsOf Tryd.f3 11)) (a0 := a0) (v := v) (L := [5]) 41 5 (by kernel_rfl) (by rw [hsz]; omega)).trans d5
    refine ⟨Reg.wanted_of rfl (by kernel_rfl) e41, ?_⟩
    generalize Reg.gfr (Reg.opsOf Tryd.f3 11) a0 v [5] = G at e6 ⊢
    generalize hρ : G.eval = ρ at e6
    have hρ' : G.eval = ρ := hρ
    refine Reg.go_run (Value.int IntKind.i64 (kk : Int)) W ?_ ?_
    · rw [hρ']; simp [execOp, go_sem, e6]
    · exact ⟨Below.refl _ _, rfl⟩
set_option maxHeartbeats 4000000 in
set_option maxRecDepth 20000 in
theorem hsums11_h8 :
    Reg.OpOK Tryd.prog (Reg.opsOf Tryd.f3 11) a0 w0 (hsums11R gw gg gh kk n c c1 r2 c2 A A1 A2 DC HC) (fun _ _ _ _ => True) 8 := by
    refine Reg.op_ok2 (fun af => { dst := some 44, op := Op.slice 22 (Operand.tmp 42) none (some (Operand.tmp 43)) none, type := 22, pos := "law.go:24", after := af, guard := some (5, true) }) #[{ on := 6, ground := Ground.data }, { on := 7, ground := Ground.data }, { on := 5, ground := Ground.guard }] (by kernel_rfl) [6, 7, 5] (by kernel_rfl) fun af v W hb hd => ?_
    have d5 : v 5 = (Value.bool true) := hd 5 (by decide)
    have d6 : v 6 = (Value.slice A1 n c1) := hd 6 (by decide)
    have d7 : v 7 = (Value.int IntKind.i64 (kk : Int)) := hd 7 (by decide)
    have e42 := (Reg.gfr_eval (ops := (Reg.opsOf Tryd.f3 11)) (a0 := a0) (v := v) (L := [6, 7, 5]) 42 6 (by kernel_rfl) (by rw [hsz]; omega)).trans d6
    have e43 := (Reg.gfr_eval (ops := (Reg.opsOf Tryd.f3 11)) (a0 := a0) (v := v) (L := [6, 7, 5]) 43 7 (by kernel_rfl) (by rw [hsz]; omega)).trans d7
    have e41 := (Reg.gfr_eval (ops := (Reg.opsOf Tryd.f3 11)) (a0 := a0) (v := v) (L := [6, 7, 5]) 41 5 (by kernel_rfl) (by rw [hsz]; omega)).trans d5
    refine ⟨Reg.wanted_of rfl (by kernel_rfl) e41, ?_⟩
    generalize Reg.gfr (Reg.opsOf Tryd.f3 11) a0 v [6, 7, 5] = G at e42 e43 ⊢
    generalize hρ : G.eval = ρ at e42 e43
    have hρ' : G.eval = ρ := hρ
    refine Reg.go_run (Value.slice A1 kk c1) W ?_ ?_
    · rw [hρ']; simp [execOp, go_sem, e42, e43, hs1]
    · exact ⟨Below.refl _ _, rfl⟩
set_option maxHeartbeats 4000000 in
set_option maxRecDepth 20000 in
theorem hsums11_h9 :
    Reg.OpOK Tryd.prog (Reg.opsOf Tryd.f3 11) a0 w0 (hsums11R gw gg gh kk n c c1 r2 c2 A A1 A2 DC HC) (fun _ _ _ _ => True) 9 := by
    refine Reg.op_ok2 (fun af => { dst := some 45, op := Op.move (Operand.tmp 5), type := 22, pos := "law.go:24", after := af, guard := some (5, true) }) #[{ on := 5, ground := Ground.guard }] (by kernel_rfl) [5] (by kernel_rfl) fun af v W hb hd => ?_
    have d5 : v 5 = (Value.bool true) := hd 5 (by decide)
    have e5 := (Reg.gfr_eval0 (ops := (Reg.opsOf Tryd.f3 11)) (a0 := a0) (v := v) (L := [5]) 5 (by kernel_rfl)).trans i5
    have e41 := (Reg.gfr_eval (ops := (Reg.opsOf Tryd.f3 11)) (a0 := a0) (v := v) (L := [5]) 41 5 (by kernel_rfl) (by rw [hsz]; omega)).trans d5
    refine ⟨Reg.wanted_of rfl (by kernel_rfl) e41, ?_⟩
    generalize Reg.gfr (Reg.opsOf Tryd.f3 11) a0 v [5] = G at e5 ⊢
    generalize hρ : G.eval = ρ at e5
    have hρ' : G.eval = ρ := hρ
    refine Reg.go_run (Value.slice A1 n c1) W ?_ ?_
    · rw [hρ']; simp [execOp, go_sem, e5]
    · exact ⟨Below.refl _ _, rfl⟩
set_option maxHeartbeats 4000000 in
set_option maxRecDepth 20000 in
theorem hsums11_h10 :
    Reg.OpOK Tryd.prog (Reg.opsOf Tryd.f3 11) a0 w0 (hsums11R gw gg gh kk n c c1 r2 c2 A A1 A2 DC HC) (fun _ _ _ _ => True) 10 := by
    refine Reg.op_ok2 (fun af => { dst := some 46, op := Op.move (Operand.tmp 6), type := 3, pos := "law.go:24", after := af, guard := some (5, true) }) #[{ on := 5, ground := Ground.guard }] (by kernel_rfl) [5] (by kernel_rfl) fun af v W hb hd => ?_
    have d5 : v 5 = (Value.bool true) := hd 5 (by decide)
    have e6 := (Reg.gfr_eval0 (ops := (Reg.opsOf Tryd.f3 11)) (a0 := a0) (v := v) (L := [5]) 6 (by kernel_rfl)).trans i6
    have e41 := (Reg.gfr_eval (ops := (Reg.opsOf Tryd.f3 11)) (a0 := a0) (v := v) (L := [5]) 41 5 (by kernel_rfl) (by rw [hsz]; omega)).trans d5
    refine ⟨Reg.wanted_of rfl (by kernel_rfl) e41, ?_⟩
    generalize Reg.gfr (Reg.opsOf Tryd.f3 11) a0 v [5] = G at e6 ⊢
    generalize hρ : G.eval = ρ at e6
    have hρ' : G.eval = ρ := hρ
    refine Reg.go_run (Value.int IntKind.i64 (kk : Int)) W ?_ ?_
    · rw [hρ']; simp [execOp, go_sem, e6]
    · exact ⟨Below.refl _ _, rfl⟩
set_option maxHeartbeats 4000000 in
set_option maxRecDepth 20000 in
theorem hsums11_h11 :
    Reg.OpOK Tryd.prog (Reg.opsOf Tryd.f3 11) a0 w0 (hsums11R gw gg gh kk n c c1 r2 c2 A A1 A2 DC HC) (fun _ _ _ _ => True) 11 := by
    refine Reg.op_ok2 (fun af => { dst := some 47, op := Op.slice 22 (Operand.tmp 45) (some (Operand.tmp 46)) none none, type := 22, pos := "law.go:24", after := af, guard := some (5, true) }) #[{ on := 9, ground := Ground.data }, { on := 10, ground := Ground.data }, { on := 5, ground := Ground.guard }] (by kernel_rfl) [9, 10, 5] (by kernel_rfl) fun af v W hb hd => ?_
    have d5 : v 5 = (Value.bool true) := hd 5 (by decide)
    have d9 : v 9 = (Value.slice A1 n c1) := hd 9 (by decide)
    have d10 : v 10 = (Value.int IntKind.i64 (kk : Int)) := hd 10 (by decide)
    have e45 := (Reg.gfr_eval (ops := (Reg.opsOf Tryd.f3 11)) (a0 := a0) (v := v) (L := [9, 10, 5]) 45 9 (by kernel_rfl) (by rw [hsz]; omega)).trans d9
    have e46 := (Reg.gfr_eval (ops := (Reg.opsOf Tryd.f3 11)) (a0 := a0) (v := v) (L := [9, 10, 5]) 46 10 (by kernel_rfl) (by rw [hsz]; omega)).trans d10
    have e41 := (Reg.gfr_eval (ops := (Reg.opsOf Tryd.f3 11)) (a0 := a0) (v := v) (L := [9, 10, 5]) 41 5 (by kernel_rfl) (by rw [hsz]; omega)).trans d5
    refine ⟨Reg.wanted_of rfl (by kernel_rfl) e41, ?_⟩
    generalize Reg.gfr (Reg.opsOf Tryd.f3 11) a0 v [9, 10, 5] = G at e45 e46 ⊢
    generalize hρ : G.eval = ρ at e45 e46
    have hρ' : G.eval = ρ := hρ
    refine Reg.go_run (Value.slice A2 r2 c2) W ?_ ?_
    · rw [hρ']; simp [execOp, go_sem, e45, e46, hs2]
    · exact ⟨Below.refl _ _, rfl⟩
set_option maxHeartbeats 4000000 in
set_option maxRecDepth 20000 in
theorem hsums11_h12 :
    Reg.OpOK Tryd.prog (Reg.opsOf Tryd.f3 11) a0 w0 (hsums11R gw gg gh kk n c c1 r2 c2 A A1 A2 DC HC) (fun _ _ _ _ => True) 12 := by
    refine Reg.op_ok2 (fun af => { dst := some 48, op := Op.buildSlice 39 3 #[(0, Operand.tmp 44), (1, Operand.const (Value.slice none 0 0)), (2, Operand.tmp 47)], type := 39, pos := "law.go:24", after := af, guard := some (5, true) }) #[{ on := 8, ground := Ground.data }, { on := 11, ground := Ground.data }, { on := 5, ground := Ground.guard }] (by kernel_rfl) [8, 11, 5] (by kernel_rfl) fun af v W hb hd => ?_
    have d5 : v 5 = (Value.bool true) := hd 5 (by decide)
    have d8 : v 8 = (Value.slice A1 kk c1) := hd 8 (by decide)
    have d11 : v 11 = (Value.slice A2 r2 c2) := hd 11 (by decide)
    have e44 := (Reg.gfr_eval (ops := (Reg.opsOf Tryd.f3 11)) (a0 := a0) (v := v) (L := [8, 11, 5]) 44 8 (by kernel_rfl) (by rw [hsz]; omega)).trans d8
    have e47 := (Reg.gfr_eval (ops := (Reg.opsOf Tryd.f3 11)) (a0 := a0) (v := v) (L := [8, 11, 5]) 47 11 (by kernel_rfl) (by rw [hsz]; omega)).trans d11
    have e41 := (Reg.gfr_eval (ops := (Reg.opsOf Tryd.f3 11)) (a0 := a0) (v := v) (L := [8, 11, 5]) 41 5 (by kernel_rfl) (by rw [hsz]; omega)).trans d5
    refine ⟨Reg.wanted_of rfl (by kernel_rfl) e41, ?_⟩
    have eC : ∀ x, (Reg.gfr (Reg.opsOf Tryd.f3 11) a0 v [8, 11, 5]).eval (.const x) = x := fun _ => rfl
    generalize Reg.gfr (Reg.opsOf Tryd.f3 11) a0 v [8, 11, 5] = G at e44 e47 eC ⊢
    generalize hρ : G.eval = ρ at e44 e47 eC
    have hρ' : G.eval = ρ := hρ
    refine Reg.go_run _ (W.alloc (.cells #[(Value.slice A1 kk c1), (Value.slice none 0 0), (Value.slice A2 r2 c2)] 22)) (by rw [hρ']; simp [execOp, go_sem, e44, e47, eC]) ⟨(Below.refl _ W).alloc (Nat.le_refl _) _, ⟨_, rfl, heap_alloc_new _ _⟩⟩
set_option maxHeartbeats 4000000 in
set_option maxRecDepth 20000 in
theorem hsums11_h13 :
    Reg.OpOK Tryd.prog (Reg.opsOf Tryd.f3 11) a0 w0 (hsums11R gw gg gh kk n c c1 r2 c2 A A1 A2 DC HC) (fun _ _ _ _ => True) 13 := by
    refine Reg.op_ok2 (fun af => { dst := some 49, op := Op.call { callee := Callee.value (Operand.func 11), args := #[Operand.tmp 48], argTypes := #[39] }, type := 25, pos := "law.go:24", after := af, guard := some (5, true) }) #[{ on := 12, ground := Ground.data }, { on := 5, ground := Ground.chain }, { on := 5, ground := Ground.guard }] (by kernel_rfl) [12, 5, 5] (by kernel_rfl) fun af v W hb hd => ?_
    have d5 : v 5 = (Value.bool true) := hd 5 (by decide)
    have d12 : (Reg.IsRow 22 #[(Value.slice A1 kk c1), (Value.slice none 0 0), (Value.slice A2 r2 c2)] 3) (v 12) W := hd 12 (by decide)
    have e48 := Reg.gfr_eval (ops := (Reg.opsOf Tryd.f3 11)) (a0 := a0) (v := v) (L := [12, 5, 5]) 48 12 (by kernel_rfl) (by rw [hsz]; omega)
    have e41 := (Reg.gfr_eval (ops := (Reg.opsOf Tryd.f3 11)) (a0 := a0) (v := v) (L := [12, 5, 5]) 41 5 (by kernel_rfl) (by rw [hsz]; omega)).trans d5
    obtain ⟨gr, hg1, hg2⟩ := d12
    rw [hg1] at e48
    refine ⟨Reg.wanted_of rfl (by kernel_rfl) e41, ?_⟩
    have eF : ∀ f, (Reg.gfr (Reg.opsOf Tryd.f3 11) a0 v [12, 5, 5]).eval (.func f) = .func (.func f) #[] #[] := fun _ => rfl
    generalize Reg.gfr (Reg.opsOf Tryd.f3 11) a0 v [12, 5, 5] = G at e48 eF ⊢
    generalize hρ : G.eval = ρ at e48 eF
    have hρ' : G.eval = ρ := hρ
    refine Reg.go_call 11 #[(Value.slice (some ⟨gr, 0, none⟩) 3 3)] (by rw [hρ']; simp [execOp, go_sem, e48, eF]) ((hO3 W gr hb hg2).mono fun e w' he => ?_)
    obtain ⟨rfl, hbb⟩ := he
    exact ⟨_, rfl, hbb, rfl⟩
set_option maxHeartbeats 4000000 in
set_option maxRecDepth 20000 in
theorem hsums11_h14 :
    Reg.OpOK Tryd.prog (Reg.opsOf Tryd.f3 11) a0 w0 (hsums11R gw gg gh kk n c c1 r2 c2 A A1 A2 DC HC) (fun _ _ _ _ => True) 14 := by
    refine Reg.op_ok2 (fun af => { dst := some 50, op := Op.load 25 (Operand.tmp 7), type := 25, pos := "law.go:24", after := af, guard := some (5, true) }) #[{ on := 5, ground := Ground.guard }] (by kernel_rfl) [5] (by kernel_rfl) fun af v W hb hd => ?_
    have d5 : v 5 = (Value.bool true) := hd 5 (by decide)
    have e7 := (Reg.gfr_eval0 (ops := (Reg.opsOf Tryd.f3 11)) (a0 := a0) (v := v) (L := [5]) 7 (by kernel_rfl)).trans i7
    have e41 := (Reg.gfr_eval (ops := (Reg.opsOf Tryd.f3 11)) (a0 := a0) (v := v) (L := [5]) 41 5 (by kernel_rfl) (by rw [hsz]; omega)).trans d5
    refine ⟨Reg.wanted_of rfl (by kernel_rfl) e41, ?_⟩
    generalize Reg.gfr (Reg.opsOf Tryd.f3 11) a0 v [5] = G at e7 ⊢
    generalize hρ : G.eval = ρ at e7
    have hρ' : G.eval = ρ := hρ
    exact fun K hK => wp_load_row 25 (.tmp 7) rfl gw (by rw [hρ']; exact e7) 25 DC (0, 0) _ (M_gw W hb) Tryd.underlying25 rfl hDi (hK _ _ ⟨Below.refl _ _, rfl⟩)
set_option maxHeartbeats 4000000 in
set_option maxRecDepth 20000 in
theorem hsums11_h15 :
    Reg.OpOK Tryd.prog (Reg.opsOf Tryd.f3 11) a0 w0 (hsums11R gw gg gh kk n c c1 r2 c2 A A1 A2 DC HC) (fun _ _ _ _ => True) 15 := by
    refine Reg.op_ok2 (fun af => { dst := some 51, op := Op.binOp BinOp.eql 25 (Operand.tmp 49) (Operand.tmp 50) 25, type := 4, pos := "law.go:24", after := af, guard := some (5, true) }) #[{ on := 13, ground := Ground.data }, { on := 14, ground := Ground.data }, { on := 5, ground := Ground.guard }] (by kernel_rfl) [13, 14, 5] (by kernel_rfl) fun af v W hb hd => ?_
    have d5 : v 5 = (Value.bool true) := hd 5 (by decide)
    have d13 : v 13 = (Value.agg DC) := hd 13 (by decide)
    have d14 : v 14 = (Value.agg DC) := hd 14 (by decide)
    have e49 := (Reg.gfr_eval (ops := (Reg.opsOf Tryd.f3 11)) (a0 := a0) (v := v) (L := [13, 14, 5]) 49 13 (by kernel_rfl) (by rw [hsz]; omega)).trans d13
    have e50 := (Reg.gfr_eval (ops := (Reg.opsOf Tryd.f3 11)) (a0 := a0) (v := v) (L := [13, 14, 5]) 50 14 (by kernel_rfl) (by rw [hsz]; omega)).trans d14
    have e41 := (Reg.gfr_eval (ops := (Reg.opsOf Tryd.f3 11)) (a0 := a0) (v := v) (L := [13, 14, 5]) 41 5 (by kernel_rfl) (by rw [hsz]; omega)).trans d5
    refine ⟨Reg.wanted_of rfl (by kernel_rfl) e41, ?_⟩
    generalize Reg.gfr (Reg.opsOf Tryd.f3 11) a0 v [13, 14, 5] = G at e49 e50 ⊢
    generalize hρ : G.eval = ρ at e49 e50
    have hρ' : G.eval = ρ := hρ
    refine Reg.go_run (Value.bool true) W ?_ ?_
    · rw [hρ']; simp [execOp, go_sem, e49, e50, heqD]
    · exact ⟨Below.refl _ _, rfl⟩
set_option maxHeartbeats 4000000 in
set_option maxRecDepth 20000 in
theorem hsums11_h16 :
    Reg.OpOK Tryd.prog (Reg.opsOf Tryd.f3 11) a0 w0 (hsums11R gw gg gh kk n c c1 r2 c2 A A1 A2 DC HC) (fun _ _ _ _ => True) 16 := by
    refine Reg.op_ok2 (fun af => { dst := some 52, op := Op.pick (Operand.tmp 41) (Operand.tmp 51) (Operand.const (Value.bool false)), type := 4, pos := "law.go:24", after := af, guard := none }) #[{ on := 5, ground := Ground.data }, { on := 15, ground := Ground.data }] (by kernel_rfl) [5, 15] (by kernel_rfl) fun af v W hb hd => ?_
    have d5 : v 5 = (Value.bool true) := hd 5 (by decide)
    have d15 : v 15 = (Value.bool true) := hd 15 (by decide)
    have e41 := (Reg.gfr_eval (ops := (Reg.opsOf Tryd.f3 11)) (a0 := a0) (v := v) (L := [5, 15]) 41 5 (by kernel_rfl) (by rw [hsz]; omega)).trans d5
    have e51 := (Reg.gfr_eval (ops := (Reg.opsOf Tryd.f3 11)) (a0 := a0) (v := v) (L := [5, 15]) 51 15 (by kernel_rfl) (by rw [hsz]; omega)).trans d15
    refine ⟨Reg.wanted_none rfl, ?_⟩
    have eC : ∀ x, (Reg.gfr (Reg.opsOf Tryd.f3 11) a0 v [5, 15]).eval (.const x) = x := fun _ => rfl
    generalize Reg.gfr (Reg.opsOf Tryd.f3 11) a0 v [5, 15] = G at e41 e51 eC ⊢
    generalize hρ : G.eval = ρ at e41 e51 eC
    have hρ' : G.eval = ρ := hρ
    refine Reg.go_run (Value.bool true) W ?_ ?_
    · rw [hρ']; simp [execOp, go_sem, e41, e51, eC]
    · exact ⟨Below.refl _ _, rfl⟩
set_option maxHeartbeats 4000000 in
set_option maxRecDepth 20000 in
theorem hsums11_h17 :
    Reg.OpOK Tryd.prog (Reg.opsOf Tryd.f3 11) a0 w0 (hsums11R gw gg gh kk n c c1 r2 c2 A A1 A2 DC HC) (fun _ _ _ _ => True) 17 := by
    refine Reg.op_ok2 (fun af => { dst := some 53, op := Op.move (Operand.tmp 52), type := 4, pos := "law.go:24", after := af, guard := none }) #[{ on := 16, ground := Ground.data }, { on := 13, ground := Ground.chain }] (by kernel_rfl) [16, 13] (by kernel_rfl) fun af v W hb hd => ?_
    have d16 : v 16 = (Value.bool true) := hd 16 (by decide)
    have e52 := (Reg.gfr_eval (ops := (Reg.opsOf Tryd.f3 11)) (a0 := a0) (v := v) (L := [16, 13]) 52 16 (by kernel_rfl) (by rw [hsz]; omega)).trans d16
    refine ⟨Reg.wanted_none rfl, ?_⟩
    generalize Reg.gfr (Reg.opsOf Tryd.f3 11) a0 v [16, 13] = G at e52 ⊢
    generalize hρ : G.eval = ρ at e52
    have hρ' : G.eval = ρ := hρ
    refine Reg.go_run (Value.bool true) W ?_ ?_
    · rw [hρ']; simp [execOp, go_sem, e52]
    · exact ⟨Below.refl _ _, rfl⟩
set_option maxHeartbeats 4000000 in
set_option maxRecDepth 20000 in
theorem hsums11_h18 :
    Reg.OpOK Tryd.prog (Reg.opsOf Tryd.f3 11) a0 w0 (hsums11R gw gg gh kk n c c1 r2 c2 A A1 A2 DC HC) (fun _ _ _ _ => True) 18 := by
    refine Reg.op_ok2 (fun af => { dst := some 54, op := Op.call { callee := Callee.value (Operand.func 10), args := #[Operand.tmp 8], argTypes := #[30] }, type := 25, pos := "law.go:24", after := af, guard := some (17, true) }) #[{ on := 17, ground := Ground.chain }, { on := 17, ground := Ground.guard }] (by kernel_rfl) [17, 17] (by kernel_rfl) fun af v W hb hd => ?_
    have d17 : v 17 = (Value.bool true) := hd 17 (by decide)
    have e8 := (Reg.gfr_eval0 (ops := (Reg.opsOf Tryd.f3 11)) (a0 := a0) (v := v) (L := [17, 17]) 8 (by kernel_rfl)).trans i8
    have e53 := (Reg.gfr_eval (ops := (Reg.opsOf Tryd.f3 11)) (a0 := a0) (v := v) (L := [17, 17]) 53 17 (by kernel_rfl) (by rw [hsz]; omega)).trans d17
    refine ⟨Reg.wanted_of rfl (by kernel_rfl) e53, ?_⟩
    have eF : ∀ f, (Reg.gfr (Reg.opsOf Tryd.f3 11) a0 v [17, 17]).eval (.func f) = .func (.func f) #[] #[] := fun _ => rfl
    generalize Reg.gfr (Reg.opsOf Tryd.f3 11) a0 v [17, 17] = G at e8 eF ⊢
    generalize hρ : G.eval = ρ at e8 eF
    have hρ' : G.eval = ρ := hρ
    refine Reg.go_call 10 #[(Value.pointer (some ⟨gg, 0, none⟩))] (by rw [hρ']; simp [execOp, go_sem, e8, eF]) ((hSum W hb).mono fun e w' he => ?_)
    obtain ⟨rfl, hbb⟩ := he
    exact ⟨_, rfl, hbb, rfl⟩
set_option maxHeartbeats 4000000 in
set_option maxRecDepth 20000 in
theorem hsums11_h19 :
    Reg.OpOK Tryd.prog (Reg.opsOf Tryd.f3 11) a0 w0 (hsums11R gw gg gh kk n c c1 r2 c2 A A1 A2 DC HC) (fun _ _ _ _ => True) 19 := by
    refine Reg.op_ok2 (fun af => { dst := some 55, op := Op.load 25 (Operand.tmp 7), type := 25, pos := "law.go:24", after := af, guard := some (17, true) }) #[{ on := 17, ground := Ground.guard }] (by kernel_rfl) [17] (by kernel_rfl) fun af v W hb hd => ?_
    have d17 : v 17 = (Value.bool true) := hd 17 (by decide)
    have e7 := (Reg.gfr_eval0 (ops := (Reg.opsOf Tryd.f3 11)) (a0 := a0) (v := v) (L := [17]) 7 (by kernel_rfl)).trans i7
    have e53 := (Reg.gfr_eval (ops := (Reg.opsOf Tryd.f3 11)) (a0 := a0) (v := v) (L := [17]) 53 17 (by kernel_rfl) (by rw [hsz]; omega)).trans d17
    refine ⟨Reg.wanted_of rfl (by kernel_rfl) e53, ?_⟩
    generalize Reg.gfr (Reg.opsOf Tryd.f3 11) a0 v [17] = G at e7 ⊢
    generalize hρ : G.eval = ρ at e7
    have hρ' : G.eval = ρ := hρ
    exact fun K hK => wp_load_row 25 (.tmp 7) rfl gw (by rw [hρ']; exact e7) 25 DC (0, 0) _ (M_gw W hb) Tryd.underlying25 rfl hDi (hK _ _ ⟨Below.refl _ _, rfl⟩)
set_option maxHeartbeats 4000000 in
set_option maxRecDepth 20000 in
theorem hsums11_h20 :
    Reg.OpOK Tryd.prog (Reg.opsOf Tryd.f3 11) a0 w0 (hsums11R gw gg gh kk n c c1 r2 c2 A A1 A2 DC HC) (fun _ _ _ _ => True) 20 := by
    refine Reg.op_ok2 (fun af => { dst := some 56, op := Op.binOp BinOp.eql 25 (Operand.tmp 54) (Operand.tmp 55) 25, type := 4, pos := "law.go:24", after := af, guard := some (17, true) }) #[{ on := 18, ground := Ground.data }, { on := 19, ground := Ground.data }, { on := 17, ground := Ground.guard }] (by kernel_rfl) [18, 19, 17] (by kernel_rfl) fun af v W hb hd => ?_
    have d17 : v 17 = (Value.bool true) := hd 17 (by decide)
    have d18 : v 18 = (Value.agg DC) := hd 18 (by decide)
    have d19 : v 19 = (Value.agg DC) := hd 19 (by decide)
    have e54 := (Reg.gfr_eval (ops := (Reg.opsOf Tryd.f3 11)) (a0 := a0) (v := v) (L := [18, 19, 17]) 54 18 (by kernel_rfl) (by rw [hsz]; omega)).trans d18
    have e55 := (Reg.gfr_eval (ops := (Reg.opsOf Tryd.f3 11)) (a0 := a0) (v := v) (L := [18, 19, 17]) 55 19 (by kernel_rfl) (by rw [hsz]; omega)).trans d19
    have e53 := (Reg.gfr_eval (ops := (Reg.opsOf Tryd.f3 11)) (a0 := a0) (v := v) (L := [18, 19, 17]) 53 17 (by kernel_rfl) (by rw [hsz]; omega)).trans d17
    refine ⟨Reg.wanted_of rfl (by kernel_rfl) e53, ?_⟩
    generalize Reg.gfr (Reg.opsOf Tryd.f3 11) a0 v [18, 19, 17] = G at e54 e55 ⊢
    generalize hρ : G.eval = ρ at e54 e55
    have hρ' : G.eval = ρ := hρ
    refine Reg.go_run (Value.bool true) W ?_ ?_
    · rw [hρ']; simp [execOp, go_sem, e54, e55, heqD]
    · exact ⟨Below.refl _ _, rfl⟩
set_option maxHeartbeats 4000000 in
set_option maxRecDepth 20000 in
theorem hsums11_h21 :
    Reg.OpOK Tryd.prog (Reg.opsOf Tryd.f3 11) a0 w0 (hsums11R gw gg gh kk n c c1 r2 c2 A A1 A2 DC HC) (fun _ _ _ _ => True) 21 := by
    refine Reg.op_ok2 (fun af => { dst := some 57, op := Op.pick (Operand.tmp 53) (Operand.tmp 56) (Operand.const (Value.bool false)), type := 4, pos := "law.go:24", after := af, guard := none }) #[{ on := 17, ground := Ground.data }, { on := 20, ground := Ground.data }] (by kernel_rfl) [17, 20] (by kernel_rfl) fun af v W hb hd => ?_
    have d17 : v 17 = (Value.bool true) := hd 17 (by decide)
    have d20 : v 20 = (Value.bool true) := hd 20 (by decide)
    have e53 := (Reg.gfr_eval (ops := (Reg.opsOf Tryd.f3 11)) (a0 := a0) (v := v) (L := [17, 20]) 53 17 (by kernel_rfl) (by rw [hsz]; omega)).trans d17
    have e56 := (Reg.gfr_eval (ops := (Reg.opsOf Tryd.f3 11)) (a0 := a0) (v := v) (L := [17, 20]) 56 20 (by kernel_rfl) (by rw [hsz]; omega)).trans d20
    refine ⟨Reg.wanted_none rfl, ?_⟩
    have eC : ∀ x, (Reg.gfr (Reg.opsOf Tryd.f3 11) a0 v [17, 20]).eval (.const x) = x := fun _ => rfl
    generalize Reg.gfr (Reg.opsOf Tryd.f3 11) a0 v [17, 20] = G at e53 e56 eC ⊢
    generalize hρ : G.eval = ρ at e53 e56 eC
    have hρ' : G.eval = ρ := hρ
    refine Reg.go_run (Value.bool true) W ?_ ?_
    · rw [hρ']; simp [execOp, go_sem, e53, e56, eC]
    · exact ⟨Below.refl _ _, rfl⟩
set_option maxHeartbeats 4000000 in
set_option maxRecDepth 20000 in
theorem hsums11_h22 :
    Reg.OpOK Tryd.prog (Reg.opsOf Tryd.f3 11) a0 w0 (hsums11R gw gg gh kk n c c1 r2 c2 A A1 A2 DC HC) (fun _ _ _ _ => True) 22 := by
    refine Reg.op_ok2 (fun af => { dst := some 58, op := Op.move (Operand.tmp 57), type := 4, pos := "law.go:24", after := af, guard := none }) #[{ on := 21, ground := Ground.data }, { on := 18, ground := Ground.chain }] (by kernel_rfl) [21, 18] (by kernel_rfl) fun af v W hb hd => ?_
    have d21 : v 21 = (Value.bool true) := hd 21 (by decide)
    have e57 := (Reg.gfr_eval (ops := (Reg.opsOf Tryd.f3 11)) (a0 := a0) (v := v) (L := [21, 18]) 57 21 (by kernel_rfl) (by rw [hsz]; omega)).trans d21
    refine ⟨Reg.wanted_none rfl, ?_⟩
    generalize Reg.gfr (Reg.opsOf Tryd.f3 11) a0 v [21, 18] = G at e57 ⊢
    generalize hρ : G.eval = ρ at e57
    have hρ' : G.eval = ρ := hρ
    refine Reg.go_run (Value.bool true) W ?_ ?_
    · rw [hρ']; simp [execOp, go_sem, e57]
    · exact ⟨Below.refl _ _, rfl⟩
set_option maxHeartbeats 4000000 in
set_option maxRecDepth 20000 in
theorem hsums11_h23 :
    Reg.OpOK Tryd.prog (Reg.opsOf Tryd.f3 11) a0 w0 (hsums11R gw gg gh kk n c c1 r2 c2 A A1 A2 DC HC) (fun _ _ _ _ => True) 23 := by
    refine Reg.op_ok2 (fun af => { dst := some 59, op := Op.load 25 (Operand.tmp 9), type := 25, pos := "law.go:24", after := af, guard := some (22, true) }) #[{ on := 22, ground := Ground.guard }] (by kernel_rfl) [22] (by kernel_rfl) fun af v W hb hd => ?_
    have d22 : v 22 = (Value.bool true) := hd 22 (by decide)
    have e9 := (Reg.gfr_eval0 (ops := (Reg.opsOf Tryd.f3 11)) (a0 := a0) (v := v) (L := [22]) 9 (by kernel_rfl)).trans i9
    have e58 := (Reg.gfr_eval (ops := (Reg.opsOf Tryd.f3 11)) (a0 := a0) (v := v) (L := [22]) 58 22 (by kernel_rfl) (by rw [hsz]; omega)).trans d22
    refine ⟨Reg.wanted_of rfl (by kernel_rfl) e58, ?_⟩
    generalize Reg.gfr (Reg.opsOf Tryd.f3 11) a0 v [22] = G at e9 ⊢
    generalize hρ : G.eval = ρ at e9
    have hρ' : G.eval = ρ := hρ
    exact fun K hK => wp_load_row 25 (.tmp 9) rfl gh (by rw [hρ']; exact e9) 25 HC (0, 0) _ (M_gh W hb) Tryd.underlying25 rfl hHi (hK _ _ ⟨Below.refl _ _, rfl⟩)
set_option maxHeartbeats 4000000 in
set_option maxRecDepth 20000 in
theorem hsums11_h24 :
    Reg.OpOK Tryd.prog (Reg.opsOf Tryd.f3 11) a0 w0 (hsums11R gw gg gh kk n c c1 r2 c2 A A1 A2 DC HC) (fun _ _ _ _ => True) 24 := by
    refine Reg.op_ok2 (fun af => { dst := some 60, op := Op.move (Operand.tmp 0), type := 22, pos := "law.go:24", after := af, guard := some (22, true) }) #[{ on := 22, ground := Ground.guard }] (by kernel_rfl) [22] (by kernel_rfl) fun af v W hb hd => ?_
    have d22 : v 22 = (Value.bool true) := hd 22 (by decide)
    have e0 := (Reg.gfr_eval0 (ops := (Reg.opsOf Tryd.f3 11)) (a0 := a0) (v := v) (L := [22]) 0 (by kernel_rfl)).trans i0
    have e58 := (Reg.gfr_eval (ops := (Reg.opsOf Tryd.f3 11)) (a0 := a0) (v := v) (L := [22]) 58 22 (by kernel_rfl) (by rw [hsz]; omega)).trans d22
    refine ⟨Reg.wanted_of rfl (by kernel_rfl) e58, ?_⟩
    generalize Reg.gfr (Reg.opsOf Tryd.f3 11) a0 v [22] = G at e0 ⊢
    generalize hρ : G.eval = ρ at e0
    have hρ' : G.eval = ρ := hρ
    refine Reg.go_run (Value.slice A n c) W ?_ ?_
    · rw [hρ']; simp [execOp, go_sem, e0]
    · exact ⟨Below.refl _ _, rfl⟩
set_option maxHeartbeats 4000000 in
set_option maxRecDepth 20000 in
theorem hsums11_h25 :
    Reg.OpOK Tryd.prog (Reg.opsOf Tryd.f3 11) a0 w0 (hsums11R gw gg gh kk n c c1 r2 c2 A A1 A2 DC HC) (fun _ _ _ _ => True) 25 := by
    refine Reg.op_ok2 (fun af => { dst := some 61, op := Op.move (Operand.tmp 6), type := 3, pos := "law.go:24", after := af, guard := some (22, true) }) #[{ on := 22, ground := Ground.guard }] (by kernel_rfl) [22] (by kernel_rfl) fun af v W hb hd => ?_
    have d22 : v 22 = (Value.bool true) := hd 22 (by decide)
    have e6 := (Reg.gfr_eval0 (ops := (Reg.opsOf Tryd.f3 11)) (a0 := a0) (v := v) (L := [22]) 6 (by kernel_rfl)).trans i6
    have e58 := (Reg.gfr_eval (ops := (Reg.opsOf Tryd.f3 11)) (a0 := a0) (v := v) (L := [22]) 58 22 (by kernel_rfl) (by rw [hsz]; omega)).trans d22
    refine ⟨Reg.wanted_of rfl (by kernel_rfl) e58, ?_⟩
    generalize Reg.gfr (Reg.opsOf Tryd.f3 11) a0 v [22] = G at e6 ⊢
    generalize hρ : G.eval = ρ at e6
    have hρ' : G.eval = ρ := hρ
    refine Reg.go_run (Value.int IntKind.i64 (kk : Int)) W ?_ ?_
    · rw [hρ']; simp [execOp, go_sem, e6]
    · exact ⟨Below.refl _ _, rfl⟩
set_option maxHeartbeats 4000000 in
set_option maxRecDepth 20000 in
theorem hsums11_h26 :
    Reg.OpOK Tryd.prog (Reg.opsOf Tryd.f3 11) a0 w0 (hsums11R gw gg gh kk n c c1 r2 c2 A A1 A2 DC HC) (fun _ _ _ _ => True) 26 := by
    refine Reg.op_ok2 (fun af => { dst := some 62, op := Op.slice 22 (Operand.tmp 60) none (some (Operand.tmp 61)) none, type := 22, pos := "law.go:24", after := af, guard := some (22, true) }) #[{ on := 24, ground := Ground.data }, { on := 25, ground := Ground.data }, { on := 22, ground := Ground.guard }] (by kernel_rfl) [24, 25, 22] (by kernel_rfl) fun af v W hb hd => ?_
    have d22 : v 22 = (Value.bool true) := hd 22 (by decide)
    have d24 : v 24 = (Value.slice A n c) := hd 24 (by decide)
    have d25 : v 25 = (Value.int IntKind.i64 (kk : Int)) := hd 25 (by decide)
    have e60 := (Reg.gfr_eval (ops := (Reg.opsOf Tryd.f3 11)) (a0 := a0) (v := v) (L := [24, 25, 22]) 60 24 (by kernel_rfl) (by rw [hsz]; omega)).trans d24
    have e61 := (Reg.gfr_eval (ops := (Reg.opsOf Tryd.f3 11)) (a0 := a0) (v := v) (L := [24, 25, 22]) 61 25 (by kernel_rfl) (by rw [hsz]; omega)).trans d25
    have e58 := (Reg.gfr_eval (ops := (Reg.opsOf Tryd.f3 11)) (a0 := a0) (v := v) (L := [24, 25, 22]) 58 22 (by kernel_rfl) (by rw [hsz]; omega)).trans d22
    refine ⟨Reg.wanted_of rfl (by kernel_rfl) e58, ?_⟩
    generalize Reg.gfr (Reg.opsOf Tryd.f3 11) a0 v [24, 25, 22] = G at e60 e61 ⊢
    generalize hρ : G.eval = ρ at e60 e61
    have hρ' : G.eval = ρ := hρ
    refine Reg.go_run (Value.slice A kk c) W ?_ ?_
    · rw [hρ']; simp [execOp, go_sem, e60, e61, hs3]
    · exact ⟨Below.refl _ _, rfl⟩
set_option maxHeartbeats 4000000 in
set_option maxRecDepth 20000 in
theorem hsums11_h27 :
    Reg.OpOK Tryd.prog (Reg.opsOf Tryd.f3 11) a0 w0 (hsums11R gw gg gh kk n c c1 r2 c2 A A1 A2 DC HC) (fun _ _ _ _ => True) 27 := by
    refine Reg.op_ok2 (fun af => { dst := some 63, op := Op.call { callee := Callee.value (Operand.func 8), args := #[Operand.tmp 62], argTypes := #[22] }, type := 25, pos := "law.go:24", after := af, guard := some (22, true) }) #[{ on := 26, ground := Ground.data }, { on := 22, ground := Ground.chain }, { on := 22, ground := Ground.guard }] (by kernel_rfl) [26, 22, 22] (by kernel_rfl) fun af v W hb hd => ?_
    have d22 : v 22 = (Value.bool true) := hd 22 (by decide)
    have d26 : v 26 = (Value.slice A kk c) := hd 26 (by decide)
    have e62 := (Reg.gfr_eval (ops := (Reg.opsOf Tryd.f3 11)) (a0 := a0) (v := v) (L := [26, 22, 22]) 62 26 (by kernel_rfl) (by rw [hsz]; omega)).trans d26
    have e58 := (Reg.gfr_eval (ops := (Reg.opsOf Tryd.f3 11)) (a0 := a0) (v := v) (L := [26, 22, 22]) 58 22 (by kernel_rfl) (by rw [hsz]; omega)).trans d22
    refine ⟨Reg.wanted_of rfl (by kernel_rfl) e58, ?_⟩
    have eF : ∀ f, (Reg.gfr (Reg.opsOf Tryd.f3 11) a0 v [26, 22, 22]).eval (.func f) = .func (.func f) #[] #[] := fun _ => rfl
    generalize Reg.gfr (Reg.opsOf Tryd.f3 11) a0 v [26, 22, 22] = G at e62 eF ⊢
    generalize hρ : G.eval = ρ at e62 eF
    have hρ' : G.eval = ρ := hρ
    refine Reg.go_call 8 #[(Value.slice A kk c)] (by rw [hρ']; simp [execOp, go_sem, e62, eF]) ((hRof W hb).mono fun e w' he => ?_)
    obtain ⟨rfl, hbb⟩ := he
    exact ⟨_, rfl, hbb, rfl⟩
set_option maxHeartbeats 4000000 in
set_option maxRecDepth 20000 in
theorem hsums11_h28 :
    Reg.OpOK Tryd.prog (Reg.opsOf Tryd.f3 11) a0 w0 (hsums11R gw gg gh kk n c c1 r2 c2 A A1 A2 DC HC) (fun _ _ _ _ => True) 28 := by
    refine Reg.op_ok2 (fun af => { dst := some 64, op := Op.binOp BinOp.eql 25 (Operand.tmp 59) (Operand.tmp 63) 25, type := 4, pos := "law.go:24", after := af, guard := some (22, true) }) #[{ on := 23, ground := Ground.data }, { on := 27, ground := Ground.data }, { on := 22, ground := Ground.guard }] (by kernel_rfl) [23, 27, 22] (by kernel_rfl) fun af v W hb hd => ?_
    have d22 : v 22 = (Value.bool true) := hd 22 (by decide)
    have d23 : v 23 = (Value.agg HC) := hd 23 (by decide)
    have d27 : v 27 = (Value.agg HC) := hd 27 (by decide)
    have e59 := (Reg.gfr_eval (ops := (Reg.opsOf Tryd.f3 11)) (a0 := a0) (v := v) (L := [23, 27, 22]) 59 23 (by kernel_rfl) (by rw [hsz]; omega)).trans d23
    have e63 := (Reg.gfr_eval (ops := (Reg.opsOf Tryd.f3 11)) (a0 := a0) (v := v) (L := [23, 27, 22]) 63 27 (by kernel_rfl) (by rw [hsz]; omega)).trans d27
    have e58 := (Reg.gfr_eval (ops := (Reg.opsOf Tryd.f3 11)) (a0 := a0) (v := v) (L := [23, 27, 22]) 58 22 (by kernel_rfl) (by rw [hsz]; omega)).trans d22
    refine ⟨Reg.wanted_of rfl (by kernel_rfl) e58, ?_⟩
    generalize Reg.gfr (Reg.opsOf Tryd.f3 11) a0 v [23, 27, 22] = G at e59 e63 ⊢
    generalize hρ : G.eval = ρ at e59 e63
    have hρ' : G.eval = ρ := hρ
    refine Reg.go_run (Value.bool true) W ?_ ?_
    · rw [hρ']; simp [execOp, go_sem, e59, e63, heqH]
    · exact ⟨Below.refl _ _, rfl⟩
set_option maxHeartbeats 4000000 in
set_option maxRecDepth 20000 in
theorem hsums11_h29 :
    Reg.OpOK Tryd.prog (Reg.opsOf Tryd.f3 11) a0 w0 (hsums11R gw gg gh kk n c c1 r2 c2 A A1 A2 DC HC) (fun _ _ _ _ => True) 29 := by
    refine Reg.op_ok2 (fun af => { dst := some 65, op := Op.pick (Operand.tmp 58) (Operand.tmp 64) (Operand.const (Value.bool false)), type := 4, pos := "law.go:24", after := af, guard := none }) #[{ on := 22, ground := Ground.data }, { on := 28, ground := Ground.data }] (by kernel_rfl) [22, 28] (by kernel_rfl) fun af v W hb hd => ?_
    have d22 : v 22 = (Value.bool true) := hd 22 (by decide)
    have d28 : v 28 = (Value.bool true) := hd 28 (by decide)
    have e58 := (Reg.gfr_eval (ops := (Reg.opsOf Tryd.f3 11)) (a0 := a0) (v := v) (L := [22, 28]) 58 22 (by kernel_rfl) (by rw [hsz]; omega)).trans d22
    have e64 := (Reg.gfr_eval (ops := (Reg.opsOf Tryd.f3 11)) (a0 := a0) (v := v) (L := [22, 28]) 64 28 (by kernel_rfl) (by rw [hsz]; omega)).trans d28
    refine ⟨Reg.wanted_none rfl, ?_⟩
    have eC : ∀ x, (Reg.gfr (Reg.opsOf Tryd.f3 11) a0 v [22, 28]).eval (.const x) = x := fun _ => rfl
    generalize Reg.gfr (Reg.opsOf Tryd.f3 11) a0 v [22, 28] = G at e58 e64 eC ⊢
    generalize hρ : G.eval = ρ at e58 e64 eC
    have hρ' : G.eval = ρ := hρ
    refine Reg.go_run (Value.bool true) W ?_ ?_
    · rw [hρ']; simp [execOp, go_sem, e58, e64, eC]
    · exact ⟨Below.refl _ _, rfl⟩
set_option maxHeartbeats 4000000 in
set_option maxRecDepth 20000 in
theorem hsums11_h30 :
    Reg.OpOK Tryd.prog (Reg.opsOf Tryd.f3 11) a0 w0 (hsums11R gw gg gh kk n c c1 r2 c2 A A1 A2 DC HC) (fun _ _ _ _ => True) 30 := by
    refine Reg.op_ok2 (fun af => { dst := some 66, op := Op.move (Operand.tmp 65), type := 4, pos := "law.go:24", after := af, guard := none }) #[{ on := 29, ground := Ground.data }, { on := 27, ground := Ground.chain }] (by kernel_rfl) [29, 27] (by kernel_rfl) fun af v W hb hd => ?_
    have d29 : v 29 = (Value.bool true) := hd 29 (by decide)
    have e65 := (Reg.gfr_eval (ops := (Reg.opsOf Tryd.f3 11)) (a0 := a0) (v := v) (L := [29, 27]) 65 29 (by kernel_rfl) (by rw [hsz]; omega)).trans d29
    refine ⟨Reg.wanted_none rfl, ?_⟩
    generalize Reg.gfr (Reg.opsOf Tryd.f3 11) a0 v [29, 27] = G at e65 ⊢
    generalize hρ : G.eval = ρ at e65
    have hρ' : G.eval = ρ := hρ
    refine Reg.go_run (Value.bool true) W ?_ ?_
    · rw [hρ']; simp [execOp, go_sem, e65]
    · exact ⟨Below.refl _ _, rfl⟩
set_option maxHeartbeats 4000000 in
set_option maxRecDepth 20000 in
theorem hsums11_h31 :
    Reg.OpOK Tryd.prog (Reg.opsOf Tryd.f3 11) a0 w0 (hsums11R gw gg gh kk n c c1 r2 c2 A A1 A2 DC HC) (fun _ _ _ _ => True) 31 := by
    refine Reg.op_ok2 (fun af => { dst := some 67, op := Op.call { callee := Callee.value (Operand.func 12), args := #[Operand.tmp 8], argTypes := #[30] }, type := 3, pos := "law.go:24", after := af, guard := some (30, true) }) #[{ on := 30, ground := Ground.chain }, { on := 30, ground := Ground.guard }] (by kernel_rfl) [30, 30] (by kernel_rfl) fun af v W hb hd => ?_
    have d30 : v 30 = (Value.bool true) := hd 30 (by decide)
    have e8 := (Reg.gfr_eval0 (ops := (Reg.opsOf Tryd.f3 11)) (a0 := a0) (v := v) (L := [30, 30]) 8 (by kernel_rfl)).trans i8
    have e66 := (Reg.gfr_eval (ops := (Reg.opsOf Tryd.f3 11)) (a0 := a0) (v := v) (L := [30, 30]) 66 30 (by kernel_rfl) (by rw [hsz]; omega)).trans d30
    refine ⟨Reg.wanted_of rfl (by kernel_rfl) e66, ?_⟩
    have eF : ∀ f, (Reg.gfr (Reg.opsOf Tryd.f3 11) a0 v [30, 30]).eval (.func f) = .func (.func f) #[] #[] := fun _ => rfl
    generalize Reg.gfr (Reg.opsOf Tryd.f3 11) a0 v [30, 30] = G at e8 eF ⊢
    generalize hρ : G.eval = ρ at e8 eF
    have hρ' : G.eval = ρ := hρ
    refine Reg.go_call 12 #[(Value.pointer (some ⟨gg, 0, none⟩))] (by rw [hρ']; simp [execOp, go_sem, e8, eF]) ((hLen W hb).mono fun e w' he => ?_)
    obtain ⟨rfl, rfl⟩ := he
    exact ⟨_, rfl, Below.refl _ _, rfl⟩
set_option maxHeartbeats 4000000 in
set_option maxRecDepth 20000 in
theorem hsums11_h32 :
    Reg.OpOK Tryd.prog (Reg.opsOf Tryd.f3 11) a0 w0 (hsums11R gw gg gh kk n c c1 r2 c2 A A1 A2 DC HC) (fun _ _ _ _ => True) 32 := by
    refine Reg.op_ok2 (fun af => { dst := some 68, op := Op.move (Operand.tmp 0), type := 22, pos := "law.go:24", after := af, guard := some (30, true) }) #[{ on := 30, ground := Ground.guard }] (by kernel_rfl) [30] (by kernel_rfl) fun af v W hb hd => ?_
    have d30 : v 30 = (Value.bool true) := hd 30 (by decide)
    have e0 := (Reg.gfr_eval0 (ops := (Reg.opsOf Tryd.f3 11)) (a0 := a0) (v := v) (L := [30]) 0 (by kernel_rfl)).trans i0
    have e66 := (Reg.gfr_eval (ops := (Reg.opsOf Tryd.f3 11)) (a0 := a0) (v := v) (L := [30]) 66 30 (by kernel_rfl) (by rw [hsz]; omega)).trans d30
    refine ⟨Reg.wanted_of rfl (by kernel_rfl) e66, ?_⟩
    generalize Reg.gfr (Reg.opsOf Tryd.f3 11) a0 v [30] = G at e0 ⊢
    generalize hρ : G.eval = ρ at e0
    have hρ' : G.eval = ρ := hρ
    refine Reg.go_run (Value.slice A n c) W ?_ ?_
    · rw [hρ']; simp [execOp, go_sem, e0]
    · exact ⟨Below.refl _ _, rfl⟩
set_option maxHeartbeats 4000000 in
set_option maxRecDepth 20000 in
theorem hsums11_h33 :
    Reg.OpOK Tryd.prog (Reg.opsOf Tryd.f3 11) a0 w0 (hsums11R gw gg gh kk n c c1 r2 c2 A A1 A2 DC HC) (fun _ _ _ _ => True) 33 := by
    refine Reg.op_ok2 (fun af => { dst := some 69, op := Op.call { callee := Callee.builtin Builtin.len, args := #[Operand.tmp 68], argTypes := #[22] }, type := 3, pos := "law.go:24", after := af, guard := some (30, true) }) #[{ on := 32, ground := Ground.data }, { on := 30, ground := Ground.guard }] (by kernel_rfl) [32, 30] (by kernel_rfl) fun af v W hb hd => ?_
    have d30 : v 30 = (Value.bool true) := hd 30 (by decide)
    have d32 : v 32 = (Value.slice A n c) := hd 32 (by decide)
    have e68 := (Reg.gfr_eval (ops := (Reg.opsOf Tryd.f3 11)) (a0 := a0) (v := v) (L := [32, 30]) 68 32 (by kernel_rfl) (by rw [hsz]; omega)).trans d32
    have e66 := (Reg.gfr_eval (ops := (Reg.opsOf Tryd.f3 11)) (a0 := a0) (v := v) (L := [32, 30]) 66 30 (by kernel_rfl) (by rw [hsz]; omega)).trans d30
    refine ⟨Reg.wanted_of rfl (by kernel_rfl) e66, ?_⟩
    generalize Reg.gfr (Reg.opsOf Tryd.f3 11) a0 v [32, 30] = G at e68 ⊢
    generalize hρ : G.eval = ρ at e68
    have hρ' : G.eval = ρ := hρ
    refine Reg.go_run (Value.int IntKind.i64 (n : Int)) W ?_ ?_
    · rw [hρ']; simp [execOp, go_sem, e68]
    · exact ⟨Below.refl _ _, rfl⟩
set_option maxHeartbeats 4000000 in
set_option maxRecDepth 20000 in
theorem hsums11_h34 :
    Reg.OpOK Tryd.prog (Reg.opsOf Tryd.f3 11) a0 w0 (hsums11R gw gg gh kk n c c1 r2 c2 A A1 A2 DC HC) (fun _ _ _ _ => True) 34 := by
    refine Reg.op_ok2 (fun af => { dst := some 70, op := Op.binOp BinOp.eql 3 (Operand.tmp 67) (Operand.tmp 69) 3, type := 4, pos := "law.go:24", after := af, guard := some (30, true) }) #[{ on := 31, ground := Ground.data }, { on := 33, ground := Ground.data }, { on := 30, ground := Ground.guard }] (by kernel_rfl) [31, 33, 30] (by kernel_rfl) fun af v W hb hd => ?_
    have d30 : v 30 = (Value.bool true) := hd 30 (by decide)
    have d31 : v 31 = (Value.int IntKind.i64 (n : Int)) := hd 31 (by decide)
    have d33 : v 33 = (Value.int IntKind.i64 (n : Int)) := hd 33 (by decide)
    have e67 := (Reg.gfr_eval (ops := (Reg.opsOf Tryd.f3 11)) (a0 := a0) (v := v) (L := [31, 33, 30]) 67 31 (by kernel_rfl) (by rw [hsz]; omega)).trans d31
    have e69 := (Reg.gfr_eval (ops := (Reg.opsOf Tryd.f3 11)) (a0 := a0) (v := v) (L := [31, 33, 30]) 69 33 (by kernel_rfl) (by rw [hsz]; omega)).trans d33
    have e66 := (Reg.gfr_eval (ops := (Reg.opsOf Tryd.f3 11)) (a0 := a0) (v := v) (L := [31, 33, 30]) 66 30 (by kernel_rfl) (by rw [hsz]; omega)).trans d30
    refine ⟨Reg.wanted_of rfl (by kernel_rfl) e66, ?_⟩
    generalize Reg.gfr (Reg.opsOf Tryd.f3 11) a0 v [31, 33, 30] = G at e67 e69 ⊢
    generalize hρ : G.eval = ρ at e67 e69
    have hρ' : G.eval = ρ := hρ
    refine Reg.go_run (Value.bool true) W ?_ ?_
    · rw [hρ']; simp [execOp, go_sem, e67, e69]
    · exact ⟨Below.refl _ _, rfl⟩
set_option maxHeartbeats 4000000 in
set_option maxRecDepth 20000 in
theorem hsums11_h35 :
    Reg.OpOK Tryd.prog (Reg.opsOf Tryd.f3 11) a0 w0 (hsums11R gw gg gh kk n c c1 r2 c2 A A1 A2 DC HC) (fun _ _ _ _ => True) 35 := by
    refine Reg.op_ok2 (fun af => { dst := some 71, op := Op.pick (Operand.tmp 66) (Operand.tmp 70) (Operand.const (Value.bool false)), type := 4, pos := "law.go:24", after := af, guard := none }) #[{ on := 30, ground := Ground.data }, { on := 34, ground := Ground.data }] (by kernel_rfl) [30, 34] (by kernel_rfl) fun af v W hb hd => ?_
    have d30 : v 30 = (Value.bool true) := hd 30 (by decide)
    have d34 : v 34 = (Value.bool true) := hd 34 (by decide)
    have e66 := (Reg.gfr_eval (ops := (Reg.opsOf Tryd.f3 11)) (a0 := a0) (v := v) (L := [30, 34]) 66 30 (by kernel_rfl) (by rw [hsz]; omega)).trans d30
    have e70 := (Reg.gfr_eval (ops := (Reg.opsOf Tryd.f3 11)) (a0 := a0) (v := v) (L := [30, 34]) 70 34 (by kernel_rfl) (by rw [hsz]; omega)).trans d34
    refine ⟨Reg.wanted_none rfl, ?_⟩
    have eC : ∀ x, (Reg.gfr (Reg.opsOf Tryd.f3 11) a0 v [30, 34]).eval (.const x) = x := fun _ => rfl
    generalize Reg.gfr (Reg.opsOf Tryd.f3 11) a0 v [30, 34] = G at e66 e70 eC ⊢
    generalize hρ : G.eval = ρ at e66 e70 eC
    have hρ' : G.eval = ρ := hρ
    refine Reg.go_run (Value.bool true) W ?_ ?_
    · rw [hρ']; simp [execOp, go_sem, e66, e70, eC]
    · exact ⟨Below.refl _ _, rfl⟩
set_option maxHeartbeats 4000000 in
set_option maxRecDepth 20000 in
theorem hsums11_h36 :
    Reg.OpOK Tryd.prog (Reg.opsOf Tryd.f3 11) a0 w0 (hsums11R gw gg gh kk n c c1 r2 c2 A A1 A2 DC HC) (fun _ _ _ _ => True) 36 := by
    refine Reg.op_ok2 (fun af => { dst := some 10, op := Op.assign (Operand.tmp 71), type := 4, pos := "law.go:24", after := af, guard := none }) #[{ on := 35, ground := Ground.data }, { on := 31, ground := Ground.chain }, { on := 0, ground := Ground.phase }, { on := 1, ground := Ground.phase }, { on := 2, ground := Ground.phase }, { on := 3, ground := Ground.phase }, { on := 4, ground := Ground.phase }, { on := 5, ground := Ground.phase }, { on := 6, ground := Ground.phase }, { on := 7, ground := Ground.phase }, { on := 8, ground := Ground.phase }, { on := 9, ground := Ground.phase }, { on := 10, ground := Ground.phase }, { on := 11, ground := Ground.phase }, { on := 12, ground := Ground.phase }, { on := 13, ground := Ground.phase }, { on := 14, ground := Ground.phase }, { on := 15, ground := Ground.phase }, { on := 16, ground := Ground.phase }, { on := 17, ground := Ground.phase }, { on := 18, ground := Ground.phase }, { on := 19, ground := Ground.phase }, { on := 20, ground := Ground.phase }, { on := 21, ground := Ground.phase }, { on := 22, ground := Ground.phase }, { on := 23, ground := Ground.phase }, { on := 24, ground := Ground.phase }, { on := 25, ground := Ground.phase }, { on := 26, ground := Ground.phase }, { on := 27, ground := Ground.phase }, { on := 28, ground := Ground.phase }, { on := 29, ground := Ground.phase }, { on := 30, ground := Ground.phase }, { on := 31, ground := Ground.phase }, { on := 32, ground := Ground.phase }, { on := 33, ground := Ground.phase }, { on := 34, ground := Ground.phase }, { on := 35, ground := Ground.phase }] (by kernel_rfl) [35, 31, 0, 1, 2, 3, 4, 5, 6, 7, 8, 9, 10, 11, 12, 13, 14, 15, 16, 17, 18, 19, 20, 21, 22, 23, 24, 25, 26, 27, 28, 29, 30, 31, 32, 33, 34, 35] (by kernel_rfl) fun af v W hb hd => ?_
    have d35 : v 35 = (Value.bool true) := hd 35 (by decide)
    have e71 := (Reg.gfr_eval (ops := (Reg.opsOf Tryd.f3 11)) (a0 := a0) (v := v) (L := [35, 31, 0, 1, 2, 3, 4, 5, 6, 7, 8, 9, 10, 11, 12, 13, 14, 15, 16, 17, 18, 19, 20, 21, 22, 23, 24, 25, 26, 27, 28, 29, 30, 31, 32, 33, 34, 35]) 71 35 (by kernel_rfl) (by rw [hsz]; omega)).trans d35
    refine ⟨Reg.wanted_none rfl, ?_⟩
    generalize Reg.gfr (Reg.opsOf Tryd.f3 11) a0 v [35, 31, 0, 1, 2, 3, 4, 5, 6, 7, 8, 9, 10, 11, 12, 13, 14, 15, 16, 17, 18, 19, 20, 21, 22, 23, 24, 25, 26, 27, 28, 29, 30, 31, 32, 33, 34, 35] = G at e71 ⊢
    generalize hρ : G.eval = ρ at e71
    have hρ' : G.eval = ρ := hρ
    refine Reg.go_run (Value.bool true) W ?_ ?_
    · rw [hρ']; simp [execOp, go_sem, e71]
    · exact ⟨Below.refl _ _, rfl⟩
end
set_option maxHeartbeats 4000000 in
set_option maxRecDepth 20000 in
theorem hsums11 (gw gg gh kk n c c1 r2 c2 : Nat) (A A1 A2 : Option Addr) (DC HC : Array Value) (w0 : World) {s1 s2 s3 s4 s10 s11 s12 s13 s14 s15 s16 s17 s18 s19 s20 s21 s22 s23 s24 s25 s26 s27 s28 s29 s30 s31 s32 s33 s34 s35 s36 s37 s38 s39 s40 s41 s42 s43 s44 s45 s46 s47 s48 s49 s50 s51 s52 s53 s54 s55 s56 s57 s58 s59 s60 s61 s62 s63 s64 s65 s66 s67 s68 s69 s70 s71 s72 s73 s74 s75 s76 s77 s78 s79 s80 s81 s82 s83 s84 s85 s86 s87 s88 s89 : Value}
    (hDi : (Tryd.prog.info? 25).map (·.size) = some DC.size)
    (hHi : (Tryd.prog.info? 25).map (·.size) = some HC.size)
    (hO1 : ∀ W b, Below w0.heap.size w0 W → W.heap[b]? = some (.cells #[(Value.slice A1 n c1)] 22) → Calls Tryd.prog 11 #[.slice (some ⟨b, 0, none⟩) 1 1] W fun e w' => e = .returned (Value.agg DC) ∧ Below W.heap.size W w')
    (hO3 : ∀ W b, Below w0.heap.size w0 W → W.heap[b]? = some (.cells #[(Value.slice A1 kk c1), Value.slice none 0 0, (Value.slice A2 r2 c2)] 22) → Calls Tryd.prog 11 #[.slice (some ⟨b, 0, none⟩) 3 3] W fun e w' => e = .returned (Value.agg DC) ∧ Below W.heap.size W w')
    (hSum : ∀ W, Below w0.heap.size w0 W → Calls Tryd.prog 10 #[(Value.pointer (some ⟨gg, 0, none⟩))] W fun e w' => e = .returned (Value.agg DC) ∧ Below W.heap.size W w')
    (hRof : ∀ W, Below w0.heap.size w0 W → Calls Tryd.prog 8 #[(Value.slice A kk c)] W fun e w' => e = .returned (Value.agg HC) ∧ Below W.heap.size W w')
    (hLen : ∀ W, Below w0.heap.size w0 W → Calls Tryd.prog 12 #[(Value.pointer (some ⟨gg, 0, none⟩))] W fun e w' => e = .returned (.int .i64 (n : Int)) ∧ W = w')
    (hs1 : ∀ W : World, (Instr.slice 22 (Value.slice A1 n c1) none (some (.int .i64 (kk : Int))) none).run Tryd.prog W = .ok (Value.slice A1 kk c1) W)
    (hs2 : ∀ W : World, (Instr.slice 22 (Value.slice A1 n c1) (some (.int .i64 (kk : Int))) none none).run Tryd.prog W = .ok (Value.slice A2 r2 c2) W)
    (hs3 : ∀ W : World, (Instr.slice 22 (Value.slice A n c) none (some (.int .i64 (kk : Int))) none).run Tryd.prog W = .ok (Value.slice A kk c) W)
    (heqD : ∀ W, (Op.equalIn 10000 25 (.agg DC) (.agg DC)).run Tryd.prog W = .ok true W)
    (heqH : ∀ W, (Op.equalIn 10000 25 (.agg HC) (.agg HC)).run Tryd.prog W = .ok true W)
    (M_gw : ∀ W, Below w0.heap.size w0 W → W.heap[gw]? = some (.cells DC 25 (0, 0)))
    (M_gh : ∀ W, Below w0.heap.size w0 W → W.heap[gh]? = some (.cells HC 25 (0, 0)))
    {Q : Exit → Act → World → Prop}
    (hend : ∀ (w : World) (r37 r48 : Value), Below w0.heap.size w0 w → Q .normal { tmps := #[(Value.slice A n c), s1, s2, s3, s4, (Value.slice A1 n c1), (Value.int IntKind.i64 (kk : Int)), (Value.pointer (some ⟨gw, 0, none⟩)), (Value.pointer (some ⟨gg, 0, none⟩)), (Value.pointer (some ⟨gh, 0, none⟩)), (Value.bool true), s11, s12, s13, s14, s15, s16, s17, s18, s19, s20, s21, s22, s23, s24, s25, s26, s27, s28, s29, s30, s31, s32, s33, s34, s35, (Value.slice A1 n c1), r37, (Value.agg DC), (Value.agg DC), (Value.bool true), (Value.bool true), (Value.slice A1 n c1), (Value.int IntKind.i64 (kk : Int)), (Value.slice A1 kk c1), (Value.slice A1 n c1), (Value.int IntKind.i64 (kk : Int)), (Value.slice A2 r2 c2), r48, (Value.agg DC), (Value.agg DC), (Value.bool true), (Value.bool true), (Value.bool true), (Value.agg DC), (Value.agg DC), (Value.bool true), (Value.bool true), (Value.bool true), (Value.agg HC), (Value.slice A n c), (Value.int IntKind.i64 (kk : Int)), (Value.slice A kk c), (Value.agg HC), (Value.bool true), (Value.bool true), (Value.bool true), (Value.int IntKind.i64 (n : Int)), (Value.slice A n c), (Value.int IntKind.i64 (n : Int)), (Value.bool true), (Value.bool true), s72, s73, s74, s75, s76, s77, s78, s79, s80, s81, s82, s83, s84, s85, s86, s87, s88, s89], defers := [] } w) :
    (Code.region 11 (Reg.opsOf Tryd.f3 11) true).wp Tryd.prog Q { tmps := #[(Value.slice A n c), s1, s2, s3, s4, (Value.slice A1 n c1), (Value.int IntKind.i64 (kk : Int)), (Value.pointer (some ⟨gw, 0, none⟩)), (Value.pointer (some ⟨gg, 0, none⟩)), (Value.pointer (some ⟨gh, 0, none⟩)), s10, s11, s12, s13, s14, s15, s16, s17, s18, s19, s20, s21, s22, s23, s24, s25, s26, s27, s28, s29, s30, s31, s32, s33, s34, s35, s36, s37, s38, s39, s40, s41, s42, s43, s44, s45, s46, s47, s48, s49, s50, s51, s52, s53, s54, s55, s56, s57, s58, s59, s60, s61, s62, s63, s64, s65, s66, s67, s68, s69, s70, s71, s72, s73, s74, s75, s76, s77, s78, s79, s80, s81, s82, s83, s84, s85, s86, s87, s88, s89], defers := [] } w0 := by
  obtain ⟨a0, ha0⟩ : ∃ a0 : Act, a0 = { tmps := #[(Value.slice A n c), s1, s2, s3, s4, (Value.slice A1 n c1), (Value.int IntKind.i64 (kk : Int)), (Value.pointer (some ⟨gw, 0, none⟩)), (Value.pointer (some ⟨gg, 0, none⟩)), (Value.pointer (some ⟨gh, 0, none⟩)), s10, s11, s12, s13, s14, s15, s16, s17, s18, s19, s20, s21, s22, s23, s24, s25, s26, s27, s28, s29, s30, s31, s32, s33, s34, s35, s36, s37, s38, s39, s40, s41, s42, s43, s44, s45, s46, s47, s48, s49, s50, s51, s52, s53, s54, s55, s56, s57, s58, s59, s60, s61, s62, s63, s64, s65, s66, s67, s68, s69, s70, s71, s72, s73, s74, s75, s76, s77, s78, s79, s80, s81, s82, s83, s84, s85, s86, s87, s88, s89], defers := [] } := ⟨_, rfl⟩
  have hfin : ∀ v : Nat → Value, Reg.gfr (Reg.opsOf Tryd.f3 11) a0 v (List.range 37) = { tmps := #[(Value.slice A n c), s1, s2, s3, s4, (Value.slice A1 n c1), (Value.int IntKind.i64 (kk : Int)), (Value.pointer (some ⟨gw, 0, none⟩)), (Value.pointer (some ⟨gg, 0, none⟩)), (Value.pointer (some ⟨gh, 0, none⟩)), v 36, s11, s12, s13, s14, s15, s16, s17, s18, s19, s20, s21, s22, s23, s24, s25, s26, s27, s28, s29, s30, s31, s32, s33, s34, s35, v 0, v 1, v 2, v 3, v 4, v 5, v 6, v 7, v 8, v 9, v 10, v 11, v 12, v 13, v 14, v 15, v 16, v 17, v 18, v 19, v 20, v 21, v 22, v 23, v 24, v 25, v 26, v 27, v 28, v 29, v 30, v 31, v 32, v 33, v 34, v 35, s72, s73, s74, s75, s76, s77, s78, s79, s80, s81, s82, s83, s84, s85, s86, s87, s88, s89], defers := [] } := fun v => by rw [ha0]; kernel_rfl
  rw [← ha0]
  have i0 : a0.eval (.tmp 0) = (Value.slice A n c) := by rw [ha0]; rfl
  have i5 : a0.eval (.tmp 5) = (Value.slice A1 n c1) := by rw [ha0]; rfl
  have i6 : a0.eval (.tmp 6) = (Value.int IntKind.i64 (kk : Int)) := by rw [ha0]; rfl
  have i7 : a0.eval (.tmp 7) = (Value.pointer (some ⟨gw, 0, none⟩)) := by rw [ha0]; rfl
  have i8 : a0.eval (.tmp 8) = (Value.pointer (some ⟨gg, 0, none⟩)) := by rw [ha0]; rfl
  have i9 : a0.eval (.tmp 9) = (Value.pointer (some ⟨gh, 0, none⟩)) := by rw [ha0]; rfl
  have hsz : a0.tmps.size = 90 := by rw [ha0]; rfl
  clear ha0
  have hn : (Reg.opsOf Tryd.f3 11).size = 37 := by kernel_rfl
  have h0 := hsums11_h0 gw gg gh kk n c c1 r2 c2 A A1 A2 DC HC w0 a0 hDi hHi hO1 hO3 hSum hRof hLen hs1 hs2 hs3 heqD heqH M_gw M_gh i0 i5 i6 i7 i8 i9 hsz
  have h1 := hsums11_h1 gw gg gh kk n c c1 r2 c2 A A1 A2 DC HC w0 a0 hDi hHi hO1 hO3 hSum hRof hLen hs1 hs2 hs3 heqD heqH M_gw M_gh i0 i5 i6 i7 i8 i9 hsz
  have h2 := hsums11_h2 gw gg gh kk n c c1 r2 c2 A A1 A2 DC HC w0 a0 hDi hHi hO1 hO3 hSum hRof hLen hs1 hs2 hs3 heqD heqH M_gw M_gh i0 i5 i6 i7 i8 i9 hsz
  have h3 := hsums11_h3 gw gg gh kk n c c1 r2 c2 A A1 A2 DC HC w0 a0 hDi hHi hO1 hO3 hSum hRof hLen hs1 hs2 hs3 heqD heqH M_gw M_gh i0 i5 i6 i7 i8 i9 hsz
  have h4 := hsums11_h4 gw gg gh kk n c c1 r2 c2 A A1 A2 DC HC w0 a0 hDi hHi hO1 hO3 hSum hRof hLen hs1 hs2 hs3 heqD heqH M_gw M_gh i0 i5 i6 i7 i8 i9 hsz
  have h5 := hsums11_h5 gw gg gh kk n c c1 r2 c2 A A1 A2 DC HC w0 a0 hDi hHi hO1 hO3 hSum hRof hLen hs1 hs2 hs3 heqD heqH M_gw M_gh i0 i5 i6 i7 i8 i9 hsz
  have h6 := hsums11_h6 gw gg gh kk n c c1 r2 c2 A A1 A2 DC HC w0 a0 hDi hHi hO1 hO3 hSum hRof hLen hs1 hs2 hs3 heqD heqH M_gw M_gh i0 i5 i6 i7 i8 i9 hsz
  have h7 := hsums11_h7 gw gg gh kk n c c1 r2 c2 A A1 A2 DC HC w0 a0 hDi hHi hO1 hO3 hSum hRof hLen hs1 hs2 hs3 heqD heqH M_gw M_gh i0 i5 i6 i7 i8 i9 hsz
  have h8 := hsums11_h8 gw gg gh kk n c c1 r2 c2 A A1 A2 DC HC w0 a0 hDi hHi hO1 hO3 hSum hRof hLen hs1 hs2 hs3 heqD heqH M_gw M_gh i0 i5 i6 i7 i8 i9 hsz
  have h9 := hsums11_h9 gw gg gh kk n c c1 r2 c2 A A1 A2 DC HC w0 a0 hDi hHi hO1 hO3 hSum hRof hLen hs1 hs2 hs3 heqD heqH M_gw M_gh i0 i5 i6 i7 i8 i9 hsz
  have h10 := hsums11_h10 gw gg gh kk n c c1 r2 c2 A A1 A2 DC HC w0 a0 hDi hHi hO1 hO3 hSum hRof hLen hs1 hs2 hs3 heqD heqH M_gw M_gh i0 i5 i6 i7 i8 i9 hsz
  have h11 := hsums11_h11 gw gg gh kk n c c1 r2 c2 A A1 A2 DC HC w0 a0 hDi hHi hO1 hO3 hSum hRof hLen hs1 hs2 hs3 heqD heqH M_gw M_gh i0 i5 i6 i7 i8 i9 hsz
  have h12 := hsums11_h12 gw gg gh kk n c c1 r2 c2 A A1 A2 DC HC w0 a0 hDi hHi hO1 hO3 hSum hRof hLen hs1 hs2 hs3 heqD heqH M_gw M_gh i0 i5 i6 i7 i8 i9 hsz
  have h13 := hsums11_h13 gw gg gh kk n c c1 r2 c2 A A1 A2 DC HC w0 a0 hDi hHi hO1 hO3 hSum hRof hLen hs1 hs2 hs3 heqD heqH M_gw M_gh i0 i5 i6 i7 i8 i9 hsz
  have h14 := hsums11_h14 gw gg gh kk n c c1 r2 c2 A A1 A2 DC HC w0 a0 hDi hHi hO1 hO3 hSum hRof hLen hs1 hs2 hs3 heqD heqH M_gw M_gh i0 i5 i6 i7 i8 i9 hsz
  have h15 := hsums11_h15 gw gg gh kk n c c1 r2 c2 A A1 A2 DC HC w0 a0 hDi hHi hO1 hO3 hSum hRof hLen hs1 hs2 hs3 heqD heqH M_gw M_gh i0 i5 i6 i7 i8 i9 hsz
  have h16 := hsums11_h16 gw gg gh kk n c c1 r2 c2 A A1 A2 DC HC w0 a0 hDi hHi hO1 hO3 hSum hRof hLen hs1 hs2 hs3 heqD heqH M_gw M_gh i0 i5 i6 i7 i8 i9 hsz
  have h17 := hsums11_h17 gw gg gh kk n c c1 r2 c2 A A1 A2 DC HC w0 a0 hDi hHi hO1 hO3 hSum hRof hLen hs1 hs2 hs3 heqD heqH M_gw M_gh i0 i5 i6 i7 i8 i9 hsz
  have h18 := hsums11_h18 gw gg gh kk n c c1 r2 c2 A A1 A2 DC HC w0 a0 hDi hHi hO1 hO3 hSum hRof hLen hs1 hs2 hs3 heqD heqH M_gw M_gh i0 i5 i6 i7 i8 i9 hsz
  have h19 := hsums11_h19 gw gg gh kk n c c1 r2 c2 A A1 A2 DC HC w0 a0 hDi hHi hO1 hO3 hSum hRof hLen hs1 hs2 hs3 heqD heqH M_gw M_gh i0 i5 i6 i7 i8 i9 hsz
  have h20 := hsums11_h20 gw gg gh kk n c c1 r2 c2 A A1 A2 DC HC w0 a0 hDi hHi hO1 hO3 hSum hRof hLen hs1 hs2 hs3 heqD heqH M_gw M_gh i0 i5 i6 i7 i8 i9 hsz
  have h21 := hsums11_h21 gw gg gh kk n c c1 r2 c2 A A1 A2 DC HC w0 a0 hDi hHi hO1 hO3 hSum hRof hLen hs1 hs2 hs3 heqD heqH M_gw M_gh i0 i5 i6 i7 i8 i9 hsz
  have h22 := hsums11_h22 gw gg gh kk n c c1 r2 c2 A A1 A2 DC HC w0 a0 hDi hHi hO1 hO3 hSum hRof hLen hs1 hs2 hs3 heqD heqH M_gw M_gh i0 i5 i6 i7 i8 i9 hsz
  have h23 := hsums11_h23 gw gg gh kk n c c1 r2 c2 A A1 A2 DC HC w0 a0 hDi hHi hO1 hO3 hSum hRof hLen hs1 hs2 hs3 heqD heqH M_gw M_gh i0 i5 i6 i7 i8 i9 hsz
  have h24 := hsums11_h24 gw gg gh kk n c c1 r2 c2 A A1 A2 DC HC w0 a0 hDi hHi hO1 hO3 hSum hRof hLen hs1 hs2 hs3 heqD heqH M_gw M_gh i0 i5 i6 i7 i8 i9 hsz
  have h25 := hsums11_h25 gw gg gh kk n c c1 r2 c2 A A1 A2 DC HC w0 a0 hDi hHi hO1 hO3 hSum hRof hLen hs1 hs2 hs3 heqD heqH M_gw M_gh i0 i5 i6 i7 i8 i9 hsz
  have h26 := hsums11_h26 gw gg gh kk n c c1 r2 c2 A A1 A2 DC HC w0 a0 hDi hHi hO1 hO3 hSum hRof hLen hs1 hs2 hs3 heqD heqH M_gw M_gh i0 i5 i6 i7 i8 i9 hsz
  have h27 := hsums11_h27 gw gg gh kk n c c1 r2 c2 A A1 A2 DC HC w0 a0 hDi hHi hO1 hO3 hSum hRof hLen hs1 hs2 hs3 heqD heqH M_gw M_gh i0 i5 i6 i7 i8 i9 hsz
  have h28 := hsums11_h28 gw gg gh kk n c c1 r2 c2 A A1 A2 DC HC w0 a0 hDi hHi hO1 hO3 hSum hRof hLen hs1 hs2 hs3 heqD heqH M_gw M_gh i0 i5 i6 i7 i8 i9 hsz
  have h29 := hsums11_h29 gw gg gh kk n c c1 r2 c2 A A1 A2 DC HC w0 a0 hDi hHi hO1 hO3 hSum hRof hLen hs1 hs2 hs3 heqD heqH M_gw M_gh i0 i5 i6 i7 i8 i9 hsz
  have h30 := hsums11_h30 gw gg gh kk n c c1 r2 c2 A A1 A2 DC HC w0 a0 hDi hHi hO1 hO3 hSum hRof hLen hs1 hs2 hs3 heqD heqH M_gw M_gh i0 i5 i6 i7 i8 i9 hsz
  have h31 := hsums11_h31 gw gg gh kk n c c1 r2 c2 A A1 A2 DC HC w0 a0 hDi hHi hO1 hO3 hSum hRof hLen hs1 hs2 hs3 heqD heqH M_gw M_gh i0 i5 i6 i7 i8 i9 hsz
  have h32 := hsums11_h32 gw gg gh kk n c c1 r2 c2 A A1 A2 DC HC w0 a0 hDi hHi hO1 hO3 hSum hRof hLen hs1 hs2 hs3 heqD heqH M_gw M_gh i0 i5 i6 i7 i8 i9 hsz
  have h33 := hsums11_h33 gw gg gh kk n c c1 r2 c2 A A1 A2 DC HC w0 a0 hDi hHi hO1 hO3 hSum hRof hLen hs1 hs2 hs3 heqD heqH M_gw M_gh i0 i5 i6 i7 i8 i9 hsz
  have h34 := hsums11_h34 gw gg gh kk n c c1 r2 c2 A A1 A2 DC HC w0 a0 hDi hHi hO1 hO3 hSum hRof hLen hs1 hs2 hs3 heqD heqH M_gw M_gh i0 i5 i6 i7 i8 i9 hsz
  have h35 := hsums11_h35 gw gg gh kk n c c1 r2 c2 A A1 A2 DC HC w0 a0 hDi hHi hO1 hO3 hSum hRof hLen hs1 hs2 hs3 heqD heqH M_gw M_gh i0 i5 i6 i7 i8 i9 hsz
  have h36 := hsums11_h36 gw gg gh kk n c c1 r2 c2 A A1 A2 DC HC w0 a0 hDi hHi hO1 hO3 hSum hRof hLen hs1 hs2 hs3 heqD heqH M_gw M_gh i0 i5 i6 i7 i8 i9 hsz
  refine Reg.region_all (by kernel_rfl) (hsums11R gw gg gh kk n c c1 r2 c2 A A1 A2 DC HC) (by rw [hn, hsz]; kernel_rfl) (hsums11_stable gw gg gh kk n c c1 r2 c2 A A1 A2 DC HC) (fun i hi => ?_) (fun v w hb hR => ?_)
  · rw [hn] at hi
    match i, List.mem_range.1 hi with
    | 0, _ => exact h0
    | 1, _ => exact h1
    | 2, _ => exact h2
    | 3, _ => exact h3
    | 4, _ => exact h4
    | 5, _ => exact h5
    | 6, _ => exact h6
    | 7, _ => exact h7
    | 8, _ => exact h8
    | 9, _ => exact h9
    | 10, _ => exact h10
    | 11, _ => exact h11
    | 12, _ => exact h12
    | 13, _ => exact h13
    | 14, _ => exact h14
    | 15, _ => exact h15
    | 16, _ => exact h16
    | 17, _ => exact h17
    | 18, _ => exact h18
    | 19, _ => exact h19
    | 20, _ => exact h20
    | 21, _ => exact h21
    | 22, _ => exact h22
    | 23, _ => exact h23
    | 24, _ => exact h24
    | 25, _ => exact h25
    | 26, _ => exact h26
    | 27, _ => exact h27
    | 28, _ => exact h28
    | 29, _ => exact h29
    | 30, _ => exact h30
    | 31, _ => exact h31
    | 32, _ => exact h32
    | 33, _ => exact h33
    | 34, _ => exact h34
    | 35, _ => exact h35
    | 36, _ => exact h36
    | (_ + 37), h => omega
  · rw [hn] at hR ⊢
    have v0 : v 0 = (Value.slice A1 n c1) := hR 0 (by decide)
    have v2 : v 2 = (Value.agg DC) := hR 2 (by decide)
    have v3 : v 3 = (Value.agg DC) := hR 3 (by decide)
    have v4 : v 4 = (Value.bool true) := hR 4 (by decide)
    have v5 : v 5 = (Value.bool true) := hR 5 (by decide)
    have v6 : v 6 = (Value.slice A1 n c1) := hR 6 (by decide)
    have v7 : v 7 = (Value.int IntKind.i64 (kk : Int)) := hR 7 (by decide)
    have v8 : v 8 = (Value.slice A1 kk c1) := hR 8 (by decide)
    have v9 : v 9 = (Value.slice A1 n c1) := hR 9 (by decide)
    have v10 : v 10 = (Value.int IntKind.i64 (kk : Int)) := hR 10 (by decide)
    have v11 : v 11 = (Value.slice A2 r2 c2) := hR 11 (by decide)
    have v13 : v 13 = (Value.agg DC) := hR 13 (by decide)
    have v14 : v 14 = (Value.agg DC) := hR 14 (by decide)
    have v15 : v 15 = (Value.bool true) := hR 15 (by decide)
    have v16 : v 16 = (Value.bool true) := hR 16 (by decide)
    have v17 : v 17 = (Value.bool true) := hR 17 (by decide)
    have v18 : v 18 = (Value.agg DC) := hR 18 (by decide)
    have v19 : v 19 = (Value.agg DC) := hR 19 (by decide)
    have v20 : v 20 = (Value.bool true) := hR 20 (by decide)
    have v21 : v 21 = (Value.bool true) := hR 21 (by decide)
    have v22 : v 22 = (Value.bool true) := hR 22 (by decide)
    have v23 : v 23 = (Value.agg HC) := hR 23 (by decide)
    have v24 : v 24 = (Value.slice A n c) := hR 24 (by decide)
    have v25 : v 25 = (Value.int IntKind.i64 (kk : Int)) := hR 25 (by decide)
    have v26 : v 26 = (Value.slice A kk c) := hR 26 (by decide)
    have v27 : v 27 = (Value.agg HC) := hR 27 (by decide)
    have v28 : v 28 = (Value.bool true) := hR 28 (by decide)
    have v29 : v 29 = (Value.bool true) := hR 29 (by decide)
    have v30 : v 30 = (Value.bool true) := hR 30 (by decide)
    have v31 : v 31 = (Value.int IntKind.i64 (n : Int)) := hR 31 (by decide)
    have v32 : v 32 = (Value.slice A n c) := hR 32 (by decide)
    have v33 : v 33 = (Value.int IntKind.i64 (n : Int)) := hR 33 (by decide)
    have v34 : v 34 = (Value.bool true) := hR 34 (by decide)
    have v35 : v 35 = (Value.bool true) := hR 35 (by decide)
    have v36 : v 36 = (Value.bool true) := hR 36 (by decide)
    rw [hfin v, v0, v2, v3, v4, v5, v6, v7, v8, v9, v10, v11, v13, v14, v15, v16, v17, v18, v19, v20, v21, v22, v23, v24, v25, v26, v27, v28, v29, v30, v31, v32, v33, v34, v35, v36]
    exact hend w (v 1) (v 12) hb 
def hsums17R (gw gg : Nat) (DC : Array Value) : Nat → Value → World → Prop
  | 0 => fun x_ _ => x_ = (Value.bool true)
  | 1 => fun x_ _ => x_ = (Value.bool true)
  | 2 => fun x_ _ => x_ = (Value.agg DC)
  | 3 => fun x_ _ => x_ = (Value.agg DC)
  | 4 => fun x_ _ => x_ = (Value.bool true)
  | 5 => fun x_ _ => x_ = (Value.bool true)
  | 6 => fun x_ _ => x_ = (Value.bool true)
  | _ => fun _ _ => True
theorem hsums17_stable (gw gg : Nat) (DC : Array Value) : ∀ i_ u_ w_ w_', (hsums17R gw gg DC) i_ u_ w_ → Below w_.heap.size w_ w_' → (hsums17R gw gg DC) i_ u_ w_' := fun i_ u_ w_ w_' h_ hb_ => by
  match i_, h_ with
  | 0, h_ => exact h_
  | 1, h_ => exact h_
  | 2, h_ => exact h_
  | 3, h_ => exact h_
  | 4, h_ => exact h_
  | 5, h_ => exact h_
  | 6, h_ => exact h_
  | (_ + 7), _ => trivial
section
variable (gw gg : Nat) (DC : Array Value) (w0 : World) (a0 : Act)
variable (hDi : (Tryd.prog.info? 25).map (·.size) = some DC.size)
variable (hSum : ∀ W, Below w0.heap.size w0 W → Calls Tryd.prog 10 #[(Value.pointer (some ⟨gg, 0, none⟩))] W fun e w' => e = .returned (Value.agg DC) ∧ Below W.heap.size W w')
variable (heqD : ∀ W, (Op.equalIn 10000 25 (.agg DC) (.agg DC)).run Tryd.prog W = .ok true W)
variable (M_gw : ∀ W, Below w0.heap.size w0 W → W.heap[gw]? = some (.cells DC 25 (0, 0)))
variable (i7 : a0.eval (.tmp 7) = (Value.pointer (some ⟨gw, 0, none⟩))) (i8 : a0.eval (.tmp 8) = (Value.pointer (some ⟨gg, 0, none⟩))) (i10 : a0.eval (.tmp 10) = (Value.bool true)) (hsz : a0.tmps.size = 90)
include gw gg DC w0 a0 hDi hSum heqD M_gw i7 i8 i10 hsz
set_option maxHeartbeats 4000000 in
set_option maxRecDepth 20000 in
theorem hsums17_h0 :
    Reg.OpOK Tryd.prog (Reg.opsOf Tryd.f3 17) a0 w0 (hsums17R gw gg DC) (fun _ _ _ _ => True) 0 := by
    refine Reg.op_ok2 (fun af => { dst := some 84, op := Op.move (Operand.tmp 10), type := 4, pos := "law.go:28", after := af, guard := none }) #[] (by kernel_rfl) [] (by kernel_rfl) fun af v W hb hd => ?_
    have e10 := (Reg.gfr_eval0 (ops := (Reg.opsOf Tryd.f3 17)) (a0 := a0) (v := v) (L := []) 10 (by kernel_rfl)).trans i10
    refine ⟨Reg.wanted_none rfl, ?_⟩
    generalize Reg.gfr (Reg.opsOf Tryd.f3 17) a0 v [] = G at e10 ⊢
    generalize hρ : G.eval = ρ at e10
    have hρ' : G.eval = ρ := hρ
    refine Reg.go_run (Value.bool true) W ?_ ?_
    · rw [hρ']; simp [execOp, go_sem, e10]
    · exact ⟨Below.refl _ _, rfl⟩
set_option maxHeartbeats 4000000 in
set_option maxRecDepth 20000 in
theorem hsums17_h1 :
    Reg.OpOK Tryd.prog (Reg.opsOf Tryd.f3 17) a0 w0 (hsums17R gw gg DC) (fun _ _ _ _ => True) 1 := by
    refine Reg.op_ok2 (fun af => { dst := some 85, op := Op.move (Operand.tmp 84), type := 4, pos := "law.go:28", after := af, guard := none }) #[{ on := 0, ground := Ground.data }] (by kernel_rfl) [0] (by kernel_rfl) fun af v W hb hd => ?_
    have d0 : v 0 = (Value.bool true) := hd 0 (by decide)
    have e84 := (Reg.gfr_eval (ops := (Reg.opsOf Tryd.f3 17)) (a0 := a0) (v := v) (L := [0]) 84 0 (by kernel_rfl) (by rw [hsz]; omega)).trans d0
    refine ⟨Reg.wanted_none rfl, ?_⟩
    generalize Reg.gfr (Reg.opsOf Tryd.f3 17) a0 v [0] = G at e84 ⊢
    generalize hρ : G.eval = ρ at e84
    have hρ' : G.eval = ρ := hρ
    refine Reg.go_run (Value.bool true) W ?_ ?_
    · rw [hρ']; simp [execOp, go_sem, e84]
    · exact ⟨Below.refl _ _, rfl⟩
set_option maxHeartbeats 4000000 in
set_option maxRecDepth 20000 in
theorem hsums17_h2 :
    Reg.OpOK Tryd.prog (Reg.opsOf Tryd.f3 17) a0 w0 (hsums17R gw gg DC) (fun _ _ _ _ => True) 2 := by
    refine Reg.op_ok2 (fun af => { dst := some 86, op := Op.call { callee := Callee.value (Operand.func 10), args := #[Operand.tmp 8], argTypes := #[30] }, type := 25, pos := "law.go:28", after := af, guard := some (1, true) }) #[{ on := 1, ground := Ground.chain }, { on := 1, ground := Ground.guard }] (by kernel_rfl) [1, 1] (by kernel_rfl) fun af v W hb hd => ?_
    have d1 : v 1 = (Value.bool true) := hd 1 (by decide)
    have e8 := (Reg.gfr_eval0 (ops := (Reg.opsOf Tryd.f3 17)) (a0 := a0) (v := v) (L := [1, 1]) 8 (by kernel_rfl)).trans i8
    have e85 := (Reg.gfr_eval (ops := (Reg.opsOf Tryd.f3 17)) (a0 := a0) (v := v) (L := [1, 1]) 85 1 (by kernel_rfl) (by rw [hsz]; omega)).trans d1
    refine ⟨Reg.wanted_of rfl (by kernel_rfl) e85, ?_⟩
    have eF : ∀ f, (Reg.gfr (Reg.opsOf Tryd.f3 17) a0 v [1, 1]).eval (.func f) = .func (.func f) #[] #[] := fun _ => rfl
    generalize Reg.gfr (Reg.opsOf Tryd.f3 17) a0 v [1, 1] = G at e8 eF ⊢
    generalize hρ : G.eval = ρ at e8 eF
    have hρ' : G.eval = ρ := hρ
    refine Reg.go_call 10 #[(Value.pointer (some ⟨gg, 0, none⟩))] (by rw [hρ']; simp [execOp, go_sem, e8, eF]) ((hSum W hb).mono fun e w' he => ?_)
    obtain ⟨rfl, hbb⟩ := he
    exact ⟨_, rfl, hbb, rfl⟩
set_option maxHeartbeats 4000000 in
set_option maxRecDepth 20000 in
theorem hsums17_h3 :
    Reg.OpOK Tryd.prog (Reg.opsOf Tryd.f3 17) a0 w0 (hsums17R gw gg DC) (fun _ _ _ _ => True) 3 := by
    refine Reg.op_ok2 (fun af => { dst := some 87, op := Op.load 25 (Operand.tmp 7), type := 25, pos := "law.go:28", after := af, guard := some (1, true) }) #[{ on := 1, ground := Ground.guard }] (by kernel_rfl) [1] (by kernel_rfl) fun af v W hb hd => ?_
    have d1 : v 1 = (Value.bool true) := hd 1 (by decide)
    have e7 := (Reg.gfr_eval0 (ops := (Reg.opsOf Tryd.f3 17)) (a0 := a0) (v := v) (L := [1]) 7 (by kernel_rfl)).trans i7
    have e85 := (Reg.gfr_eval (ops := (Reg.opsOf Tryd.f3 17)) (a0 := a0) (v := v) (L := [1]) 85 1 (by kernel_rfl) (by rw [hsz]; omega)).trans d1
    refine ⟨Reg.wanted_of rfl (by kernel_rfl) e85, ?_⟩
    generalize Reg.gfr (Reg.opsOf Tryd.f3 17) a0 v [1] = G at e7 ⊢
    generalize hρ : G.eval = ρ at e7
    have hρ' : G.eval = ρ := hρ
    exact fun K hK => wp_load_row 25 (.tmp 7) rfl gw (by rw [hρ']; exact e7) 25 DC (0, 0) _ (M_gw W hb) Tryd.underlying25 rfl hDi (hK _ _ ⟨Below.refl _ _, rfl⟩)
set_option maxHeartbeats 4000000 in
set_option maxRecDepth 20000 in
theorem hsums17_h4 :
    Reg.OpOK Tryd.prog (Reg.opsOf Tryd.f3 17) a0 w0 (hsums17R gw gg DC) (fun _ _ _ _ => True) 4 := by
    refine Reg.op_ok2 (fun af => { dst := some 88, op := Op.binOp BinOp.eql 25 (Operand.tmp 86) (Operand.tmp 87) 25, type := 4, pos := "law.go:28", after := af, guard := some (1, true) }) #[{ on := 2, ground := Ground.data }, { on := 3, ground := Ground.data }, { on := 1, ground := Ground.guard }] (by kernel_rfl) [2, 3, 1] (by kernel_rfl) fun af v W hb hd => ?_
    have d1 : v 1 = (Value.bool true) := hd 1 (by decide)
    have d2 : v 2 = (Value.agg DC) := hd 2 (by decide)
    have d3 : v 3 = (Value.agg DC) := hd 3 (by decide)
    have e86 := (Reg.gfr_eval (ops := (Reg.opsOf Tryd.f3 17)) (a0 := a0) (v := v) (L := [2, 3, 1]) 86 2 (by kernel_rfl) (by rw [hsz]; omega)).trans d2
    have e87 := (Reg.gfr_eval (ops := (Reg.opsOf Tryd.f3 17)) (a0 := a0) (v := v) (L := [2, 3, 1]) 87 3 (by kernel_rfl) (by rw [hsz]; omega)).trans d3
    have e85 := (Reg.gfr_eval (ops := (Reg.opsOf Tryd.f3 17)) (a0 := a0) (v := v) (L := [2, 3, 1]) 85 1 (by kernel_rfl) (by rw [hsz]; omega)).trans d1
    refine ⟨Reg.wanted_of rfl (by kernel_rfl) e85, ?_⟩
    generalize Reg.gfr (Reg.opsOf Tryd.f3 17) a0 v [2, 3, 1] = G at e86 e87 ⊢
    generalize hρ : G.eval = ρ at e86 e87
    have hρ' : G.eval = ρ := hρ
    refine Reg.go_run (Value.bool true) W ?_ ?_
    · rw [hρ']; simp [execOp, go_sem, e86, e87, heqD]
    · exact ⟨Below.refl _ _, rfl⟩
set_option maxHeartbeats 4000000 in
set_option maxRecDepth 20000 in
theorem hsums17_h5 :
    Reg.OpOK Tryd.prog (Reg.opsOf Tryd.f3 17) a0 w0 (hsums17R gw gg DC) (fun _ _ _ _ => True) 5 := by
    refine Reg.op_ok2 (fun af => { dst := some 89, op := Op.pick (Operand.tmp 85) (Operand.tmp 88) (Operand.const (Value.bool false)), type := 4, pos := "law.go:28", after := af, guard := none }) #[{ on := 1, ground := Ground.data }, { on := 4, ground := Ground.data }] (by kernel_rfl) [1, 4] (by kernel_rfl) fun af v W hb hd => ?_
    have d1 : v 1 = (Value.bool true) := hd 1 (by decide)
    have d4 : v 4 = (Value.bool true) := hd 4 (by decide)
    have e85 := (Reg.gfr_eval (ops := (Reg.opsOf Tryd.f3 17)) (a0 := a0) (v := v) (L := [1, 4]) 85 1 (by kernel_rfl) (by rw [hsz]; omega)).trans d1
    have e88 := (Reg.gfr_eval (ops := (Reg.opsOf Tryd.f3 17)) (a0 := a0) (v := v) (L := [1, 4]) 88 4 (by kernel_rfl) (by rw [hsz]; omega)).trans d4
    refine ⟨Reg.wanted_none rfl, ?_⟩
    have eC : ∀ x, (Reg.gfr (Reg.opsOf Tryd.f3 17) a0 v [1, 4]).eval (.const x) = x := fun _ => rfl
    generalize Reg.gfr (Reg.opsOf Tryd.f3 17) a0 v [1, 4] = G at e85 e88 eC ⊢
    generalize hρ : G.eval = ρ at e85 e88 eC
    have hρ' : G.eval = ρ := hρ
    refine Reg.go_run (Value.bool true) W ?_ ?_
    · rw [hρ']; simp [execOp, go_sem, e85, e88, eC]
    · exact ⟨Below.refl _ _, rfl⟩
set_option maxHeartbeats 4000000 in
set_option maxRecDepth 20000 in
theorem hsums17_h6 :
    Reg.OpOK Tryd.prog (Reg.opsOf Tryd.f3 17) a0 w0 (hsums17R gw gg DC) (fun _ _ _ _ => True) 6 := by
    refine Reg.op_ok2 (fun af => { dst := some 4, op := Op.assign (Operand.tmp 89), type := 4, pos := "law.go:28", after := af, guard := none }) #[{ on := 5, ground := Ground.data }, { on := 2, ground := Ground.chain }, { on := 0, ground := Ground.phase }, { on := 1, ground := Ground.phase }, { on := 2, ground := Ground.phase }, { on := 3, ground := Ground.phase }, { on := 4, ground := Ground.phase }, { on := 5, ground := Ground.phase }] (by kernel_rfl) [5, 2, 0, 1, 2, 3, 4, 5] (by kernel_rfl) fun af v W hb hd => ?_
    have d5 : v 5 = (Value.bool true) := hd 5 (by decide)
    have e89 := (Reg.gfr_eval (ops := (Reg.opsOf Tryd.f3 17)) (a0 := a0) (v := v) (L := [5, 2, 0, 1, 2, 3, 4, 5]) 89 5 (by kernel_rfl) (by rw [hsz]; omega)).trans d5
    refine ⟨Reg.wanted_none rfl, ?_⟩
    generalize Reg.gfr (Reg.opsOf Tryd.f3 17) a0 v [5, 2, 0, 1, 2, 3, 4, 5] = G at e89 ⊢
    generalize hρ : G.eval = ρ at e89
    have hρ' : G.eval = ρ := hρ
    refine Reg.go_run (Value.bool true) W ?_ ?_
    · rw [hρ']; simp [execOp, go_sem, e89]
    · exact ⟨Below.refl _ _, rfl⟩
end
set_option maxHeartbeats 4000000 in
set_option maxRecDepth 20000 in
theorem hsums17 (gw gg : Nat) (DC : Array Value) (w0 : World) {s0 s1 s2 s3 s4 s5 s6 s9 s11 s12 s13 s14 s15 s16 s17 s18 s19 s20 s21 s22 s23 s24 s25 s26 s27 s28 s29 s30 s31 s32 s33 s34 s35 s36 s37 s38 s39 s40 s41 s42 s43 s44 s45 s46 s47 s48 s49 s50 s51 s52 s53 s54 s55 s56 s57 s58 s59 s60 s61 s62 s63 s64 s65 s66 s67 s68 s69 s70 s71 s72 s73 s74 s75 s76 s77 s78 s79 s80 s81 s82 s83 s84 s85 s86 s87 s88 s89 : Value}
    (hDi : (Tryd.prog.info? 25).map (·.size) = some DC.size)
    (hSum : ∀ W, Below w0.heap.size w0 W → Calls Tryd.prog 10 #[(Value.pointer (some ⟨gg, 0, none⟩))] W fun e w' => e = .returned (Value.agg DC) ∧ Below W.heap.size W w')
    (heqD : ∀ W, (Op.equalIn 10000 25 (.agg DC) (.agg DC)).run Tryd.prog W = .ok true W)
    (M_gw : ∀ W, Below w0.heap.size w0 W → W.heap[gw]? = some (.cells DC 25 (0, 0)))
    {Q : Exit → Act → World → Prop}
    (hend : ∀ (w : World), Below w0.heap.size w0 w → Q .normal { tmps := #[s0, s1, s2, s3, (Value.bool true), s5, s6, (Value.pointer (some ⟨gw, 0, none⟩)), (Value.pointer (some ⟨gg, 0, none⟩)), s9, (Value.bool true), s11, s12, s13, s14, s15, s16, s17, s18, s19, s20, s21, s22, s23, s24, s25, s26, s27, s28, s29, s30, s31, s32, s33, s34, s35, s36, s37, s38, s39, s40, s41, s42, s43, s44, s45, s46, s47, s48, s49, s50, s51, s52, s53, s54, s55, s56, s57, s58, s59, s60, s61, s62, s63, s64, s65, s66, s67, s68, s69, s70, s71, s72, s73, s74, s75, s76, s77, s78, s79, s80, s81, s82, s83, (Value.bool true), (Value.bool true), (Value.agg DC), (Value.agg DC), (Value.bool true), (Value.bool true)], defers := [] } w) :
    (Code.region 17 (Reg.opsOf Tryd.f3 17) true).wp Tryd.prog Q { tmps := #[s0, s1, s2, s3, s4, s5, s6, (Value.pointer (some ⟨gw, 0, none⟩)), (Value.pointer (some ⟨gg, 0, none⟩)), s9, (Value.bool true), s11, s12, s13, s14, s15, s16, s17, s18, s19, s20, s21, s22, s23, s24, s25, s26, s27, s28, s29, s30, s31, s32, s33, s34, s35, s36, s37, s38, s39, s40, s41, s42, s43, s44, s45, s46, s47, s48, s49, s50, s51, s52, s53, s54, s55, s56, s57, s58, s59, s60, s61, s62, s63, s64, s65, s66, s67, s68, s69, s70, s71, s72, s73, s74, s75, s76, s77, s78, s79, s80, s81, s82, s83, s84, s85, s86, s87, s88, s89], defers := [] } w0 := by
  obtain ⟨a0, ha0⟩ : ∃ a0 : Act, a0 = { tmps := #[s0, s1, s2, s3, s4, s5, s6, (Value.pointer (some ⟨gw, 0, none⟩)), (Value.pointer (some ⟨gg, 0, none⟩)), s9, (Value.bool true), s11, s12, s13, s14, s15, s16, s17, s18, s19, s20, s21, s22, s23, s24, s25, s26, s27, s28, s29, s30, s31, s32, s33, s34, s35, s36, s37, s38, s39, s40, s41, s42, s43, s44, s45, s46, s47, s48, s49, s50, s51, s52, s53, s54, s55, s56, s57, s58, s59, s60, s61, s62, s63, s64, s65, s66, s67, s68, s69, s70, s71, s72, s73, s74, s75, s76, s77, s78, s79, s80, s81, s82, s83, s84, s85, s86, s87, s88, s89], defers := [] } := ⟨_, rfl⟩
  have hfin : ∀ v : Nat → Value, Reg.gfr (Reg.opsOf Tryd.f3 17) a0 v (List.range 7) = { tmps := #[s0, s1, s2, s3, v 6, s5, s6, (Value.pointer (some ⟨gw, 0, none⟩)), (Value.pointer (some ⟨gg, 0, none⟩)), s9, (Value.bool true), s11, s12, s13, s14, s15, s16, s17, s18, s19, s20, s21, s22, s23, s24, s25, s26, s27, s28, s29, s30, s31, s32, s33, s34, s35, s36, s37, s38, s39, s40, s41, s42, s43, s44, s45, s46, s47, s48, s49, s50, s51, s52, s53, s54, s55, s56, s57, s58, s59, s60, s61, s62, s63, s64, s65, s66, s67, s68, s69, s70, s71, s72, s73, s74, s75, s76, s77, s78, s79, s80, s81, s82, s83, v 0, v 1, v 2, v 3, v 4, v 5], defers := [] } := fun v => by rw [ha0]; kernel_rfl
  rw [← ha0]
  have i7 : a0.eval (.tmp 7) = (Value.pointer (some ⟨gw, 0, none⟩)) := by rw [ha0]; rfl
  have i8 : a0.eval (.tmp 8) = (Value.pointer (some ⟨gg, 0, none⟩)) := by rw [ha0]; rfl
  have i10 : a0.eval (.tmp 10) = (Value.bool true) := by rw [ha0]; rfl
  have hsz : a0.tmps.size = 90 := by rw [ha0]; rfl
  clear ha0
  have hn : (Reg.opsOf Tryd.f3 17).size = 7 := by kernel_rfl
  have h0 := hsums17_h0 gw gg DC w0 a0 hDi hSum heqD M_gw i7 i8 i10 hsz
  have h1 := hsums17_h1 gw gg DC w0 a0 hDi hSum heqD M_gw i7 i8 i10 hsz
  have h2 := hsums17_h2 gw gg DC w0 a0 hDi hSum heqD M_gw i7 i8 i10 hsz
  have h3 := hsums17_h3 gw gg DC w0 a0 hDi hSum heqD M_gw i7 i8 i10 hsz
  have h4 := hsums17_h4 gw gg DC w0 a0 hDi hSum heqD M_gw i7 i8 i10 hsz
  have h5 := hsums17_h5 gw gg DC w0 a0 hDi hSum heqD M_gw i7 i8 i10 hsz
  have h6 := hsums17_h6 gw gg DC w0 a0 hDi hSum heqD M_gw i7 i8 i10 hsz
  refine Reg.region_all (by kernel_rfl) (hsums17R gw gg DC) (by rw [hn, hsz]; kernel_rfl) (hsums17_stable gw gg DC) (fun i hi => ?_) (fun v w hb hR => ?_)
  · rw [hn] at hi
    match i, List.mem_range.1 hi with
    | 0, _ => exact h0
    | 1, _ => exact h1
    | 2, _ => exact h2
    | 3, _ => exact h3
    | 4, _ => exact h4
    | 5, _ => exact h5
    | 6, _ => exact h6
    | (_ + 7), h => omega
  · rw [hn] at hR ⊢
    have v0 : v 0 = (Value.bool true) := hR 0 (by decide)
    have v1 : v 1 = (Value.bool true) := hR 1 (by decide)
    have v2 : v 2 = (Value.agg DC) := hR 2 (by decide)
    have v3 : v 3 = (Value.agg DC) := hR 3 (by decide)
    have v4 : v 4 = (Value.bool true) := hR 4 (by decide)
    have v5 : v 5 = (Value.bool true) := hR 5 (by decide)
    have v6 : v 6 = (Value.bool true) := hR 6 (by decide)
    rw [hfin v, v0, v1, v2, v3, v4, v5, v6]
    exact hend w  hb 
end Go.Proofs.YtcdnbidenaljlaaDoor
