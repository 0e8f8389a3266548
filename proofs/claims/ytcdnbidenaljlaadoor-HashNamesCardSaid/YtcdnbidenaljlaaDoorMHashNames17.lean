/- Regions that draw their order: their obligations (printed by regen2.py). -/
import Derived.Test.YtcdnbidenaljlaaDoorMHashNames15
import Derived.Test.YtcdnbidenaljlaaDoorMHashNames3
import Derived.Test.YtcdnbidenaljlaaDoorMHashNames12
import Derived.Test.YtcdnbidenaljlaaDoorMHashNames7
namespace Go.Proofs.YtcdnbidenaljlaaDoor
open Go.RowKit
set_option linter.unusedVariables false
set_option linter.unusedSimpArgs false
set_option linter.unusedSectionVars false
def hn12R (ti B0 : Nat) (TC : Array Value) : Nat → Value → World → Prop
  | 0 => fun x_ _ => x_ = (Value.int IntKind.i64 0)
  | 1 => fun x_ _ => x_ = (Value.bool true)
  | 2 => fun x_ _ => x_ = (Value.bool true)
  | 3 => fun x_ _ => x_ = (Value.agg TC)
  | 4 => (fun u_ w_ => ∃ b_, u_ = Value.slice (some ⟨b_, 0, none⟩) 3 3 ∧ w_.heap[b_]? = some (.cells #[Value.int IntKind.u8 97, Value.int IntKind.u8 98, Value.int IntKind.u8 99] 5 (0, 0)) ∧ B0 ≤ b_)
  | 5 => (fun u_ w_ => ∃ b_, u_ = Value.slice (some ⟨b_, 0, none⟩) 3 3 ∧ w_.heap[b_]? = some (.cells #[Value.int IntKind.u8 97, Value.int IntKind.u8 98, Value.int IntKind.u8 99] 5 (3, 4)))
  | 6 => (fun u_ w_ => ∃ b_ b2_, u_ = Value.slice (some ⟨b2_, 0, none⟩) 1 1 ∧ w_.heap[b_]? = some (.cells #[Value.int IntKind.u8 97, Value.int IntKind.u8 98, Value.int IntKind.u8 99] 5 (3, 4)) ∧ w_.heap[b2_]? = some (.cells #[Value.slice (some ⟨b_, 0, none⟩) 3 3] 22 (0, 0)))
  | 7 => fun x_ _ => x_ = (Value.agg TC)
  | 8 => fun x_ _ => x_ = (Value.bool true)
  | 9 => fun x_ _ => x_ = (Value.bool true)
  | 10 => fun x_ _ => x_ = (Value.bool true)
  | 11 => fun x_ _ => x_ = (Value.int IntKind.i64 30)
  | 12 => fun x_ _ => x_ = (Value.bool true)
  | 13 => fun x_ _ => x_ = (Value.bool true)
  | 14 => fun x_ _ => x_ = (Value.bool true)
  | 15 => fun x_ _ => x_ = (Value.int IntKind.i64 30)
  | 16 => fun x_ _ => x_ = (Value.bool true)
  | 17 => fun x_ _ => x_ = (Value.bool true)
  | 18 => fun x_ _ => x_ = (Value.bool true)
  | 19 => fun x_ _ => x_ = (Value.int IntKind.i64 30)
  | 20 => fun x_ _ => x_ = (Value.bool true)
  | 21 => fun x_ _ => x_ = (Value.bool true)
  | 22 => fun x_ _ => x_ = (Value.bool true)
  | 23 => fun x_ _ => x_ = (Value.int IntKind.i64 30)
  | 24 => fun x_ _ => x_ = (Value.bool true)
  | 25 => fun x_ _ => x_ = (Value.bool true)
  | 26 => fun x_ _ => x_ = (Value.bool true)
  | 27 => fun x_ _ => x_ = (Value.int IntKind.i64 30)
  | 28 => fun x_ _ => x_ = (Value.bool true)
  | 29 => fun x_ _ => x_ = (Value.bool true)
  | 30 => fun x_ _ => x_ = (Value.bool true)
  | _ => fun _ _ => True
theorem hn12_stable (ti B0 : Nat) (TC : Array Value) : ∀ i_ u_ w_ w_', (hn12R ti B0 TC) i_ u_ w_ → Below w_.heap.size w_ w_' → (hn12R ti B0 TC) i_ u_ w_' := fun i_ u_ w_ w_' h_ hb_ => by
  match i_, h_ with
  | 0, h_ => exact h_
  | 1, h_ => exact h_
  | 2, h_ => exact h_
  | 3, h_ => exact h_
  | 4, h_ => exact ((by obtain ⟨b_, h1_, h2_, h3_⟩ := h_; exact ⟨b_, h1_, (hb_.block _ (lt_of_get h2_)).trans h2_, h3_⟩))
  | 5, h_ => exact ((by obtain ⟨b_, h1_, h2_⟩ := h_; exact ⟨b_, h1_, (hb_.block _ (lt_of_get h2_)).trans h2_⟩))
  | 6, h_ => exact ((by obtain ⟨b_, b2_, h1_, h2_, h3_⟩ := h_; exact ⟨b_, b2_, h1_, (hb_.block _ (lt_of_get h2_)).trans h2_, (hb_.block _ (lt_of_get h3_)).trans h3_⟩))
  | 7, h_ => exact h_
  | 8, h_ => exact h_
  | 9, h_ => exact h_
  | 10, h_ => exact h_
  | 11, h_ => exact h_
  | 12, h_ => exact h_
  | 13, h_ => exact h_
  | 14, h_ => exact h_
  | 15, h_ => exact h_
  | 16, h_ => exact h_
  | 17, h_ => exact h_
  | 18, h_ => exact h_
  | 19, h_ => exact h_
  | 20, h_ => exact h_
  | 21, h_ => exact h_
  | 22, h_ => exact h_
  | 23, h_ => exact h_
  | 24, h_ => exact h_
  | 25, h_ => exact h_
  | 26, h_ => exact h_
  | 27, h_ => exact h_
  | 28, h_ => exact h_
  | 29, h_ => exact h_
  | 30, h_ => exact h_
  | (_ + 31), _ => trivial
section
variable (ti B0 : Nat) (TC : Array Value) (w0 : World) (a0 : Act)
variable (hB0 : B0 = w0.heap.size) (hTi : (Tryd.prog.info? 25).map (·.size) = some TC.size)
variable (heqv : ∀ W, (Op.equalIn 10000 25 (.agg TC) (.agg TC)).run Tryd.prog W = .ok true W)
variable (hof : ∀ W b b2, Below w0.heap.size w0 W → W.heap[b]? = some (.cells #[Value.int IntKind.u8 97, Value.int IntKind.u8 98, Value.int IntKind.u8 99] 5 (3, 4)) → W.heap[b2]? = some (.cells #[Value.slice (some ⟨b, 0, none⟩) 3 3] 22 (0, 0)) → Calls Tryd.prog 11 #[.slice (some ⟨b2, 0, none⟩) 1 1] W fun e w' => e = .returned (.agg TC) ∧ Below W.heap.size W w')
variable (M_ti : ∀ W, Below w0.heap.size w0 W → W.heap[ti]? = some (.cells TC 25 (0, 0)))
variable (i2 : a0.eval (.tmp 2) = (Value.pointer (some ⟨ti, 0, none⟩))) (i3 : a0.eval (.tmp 3) = (Value.int IntKind.i64 0)) (i5 : a0.eval (.tmp 5) = (Value.int IntKind.i64 30)) (i7 : a0.eval (.tmp 7) = (Value.int IntKind.i64 30)) (i9 : a0.eval (.tmp 9) = (Value.int IntKind.i64 30)) (i11 : a0.eval (.tmp 11) = (Value.int IntKind.i64 30)) (i13 : a0.eval (.tmp 13) = (Value.int IntKind.i64 30)) (hsz : a0.tmps.size = 184)
include ti B0 TC w0 a0 hB0 hTi heqv hof M_ti i2 i3 i5 i7 i9 i11 i13 hsz
set_option maxHeartbeats 4000000 in
set_option maxRecDepth 20000 in
theorem hn12_h0 :
    Reg.OpOK Tryd.prog (Reg.opsOf Tryd.f7 12) a0 w0 (hn12R ti B0 TC) (fun _ _ _ _ => True) 0 := by
    refine Reg.op_ok2 (fun af => { dst := some 60, op := Op.move (Operand.tmp 3), type := 41, pos := "outright.go:35", after := af, guard := none }) #[] (by kernel_rfl) [] (by kernel_rfl) fun af v W hb hd => ?_
    have e3 := (Reg.gfr_eval0 (ops := (Reg.opsOf Tryd.f7 12)) (a0 := a0) (v := v) (L := []) 3 (by kernel_rfl)).trans i3
    refine ⟨Reg.wanted_none rfl, ?_⟩
    generalize Reg.gfr (Reg.opsOf Tryd.f7 12) a0 v [] = G at e3 ⊢
    generalize hρ : G.eval = ρ at e3
    have hρ' : G.eval = ρ := hρ
    refine Reg.go_run (Value.int IntKind.i64 0) W ?_ ?_
    · rw [hρ']; simp [execOp, go_sem, e3]
    · exact ⟨Below.refl _ _, rfl⟩
set_option maxHeartbeats 4000000 in
set_option maxRecDepth 20000 in
theorem hn12_h1 :
    Reg.OpOK Tryd.prog (Reg.opsOf Tryd.f7 12) a0 w0 (hn12R ti B0 TC) (fun _ _ _ _ => True) 1 := by
    refine Reg.op_ok2 (fun af => { dst := some 61, op := Op.binOp BinOp.eql 41 (Operand.tmp 60) (Operand.const (Value.int IntKind.i64 0)) 41, type := 4, pos := "outright.go:35", after := af, guard := none }) #[{ on := 0, ground := Ground.data }] (by kernel_rfl) [0] (by kernel_rfl) fun af v W hb hd => ?_
    have d0 : v 0 = (Value.int IntKind.i64 0) := hd 0 (by decide)
    have e60 := (Reg.gfr_eval (ops := (Reg.opsOf Tryd.f7 12)) (a0 := a0) (v := v) (L := [0]) 60 0 (by kernel_rfl) (by rw [hsz]; omega)).trans d0
    refine ⟨Reg.wanted_none rfl, ?_⟩
    have eC : ∀ x, (Reg.gfr (Reg.opsOf Tryd.f7 12) a0 v [0]).eval (.const x) = x := fun _ => rfl
    generalize Reg.gfr (Reg.opsOf Tryd.f7 12) a0 v [0] = G at e60 eC ⊢
    generalize hρ : G.eval = ρ at e60 eC
    have hρ' : G.eval = ρ := hρ
    refine Reg.go_run (Value.bool true) W ?_ ?_
    · rw [hρ']; simp [execOp, go_sem, e60, eC]
    · exact ⟨Below.refl _ _, rfl⟩
set_option maxHeartbeats 4000000 in
set_option maxRecDepth 20000 in
theorem hn12_h2 :
    Reg.OpOK Tryd.prog (Reg.opsOf Tryd.f7 12) a0 w0 (hn12R ti B0 TC) (fun _ _ _ _ => True) 2 := by
    refine Reg.op_ok2 (fun af => { dst := some 62, op := Op.move (Operand.tmp 61), type := 4, pos := "outright.go:35", after := af, guard := none }) #[{ on := 1, ground := Ground.data }] (by kernel_rfl) [1] (by kernel_rfl) fun af v W hb hd => ?_
    have d1 : v 1 = (Value.bool true) := hd 1 (by decide)
    have e61 := (Reg.gfr_eval (ops := (Reg.opsOf Tryd.f7 12)) (a0 := a0) (v := v) (L := [1]) 61 1 (by kernel_rfl) (by rw [hsz]; omega)).trans d1
    refine ⟨Reg.wanted_none rfl, ?_⟩
    generalize Reg.gfr (Reg.opsOf Tryd.f7 12) a0 v [1] = G at e61 ⊢
    generalize hρ : G.eval = ρ at e61
    have hρ' : G.eval = ρ := hρ
    refine Reg.go_run (Value.bool true) W ?_ ?_
    · rw [hρ']; simp [execOp, go_sem, e61]
    · exact ⟨Below.refl _ _, rfl⟩
set_option maxHeartbeats 4000000 in
set_option maxRecDepth 20000 in
theorem hn12_h3 :
    Reg.OpOK Tryd.prog (Reg.opsOf Tryd.f7 12) a0 w0 (hn12R ti B0 TC) (fun _ _ _ _ => True) 3 := by
    refine Reg.op_ok2 (fun af => { dst := some 63, op := Op.load 25 (Operand.tmp 2), type := 25, pos := "outright.go:35", after := af, guard := some (2, true) }) #[{ on := 2, ground := Ground.guard }] (by kernel_rfl) [2] (by kernel_rfl) fun af v W hb hd => ?_
    have d2 : v 2 = (Value.bool true) := hd 2 (by decide)
    have e2 := (Reg.gfr_eval0 (ops := (Reg.opsOf Tryd.f7 12)) (a0 := a0) (v := v) (L := [2]) 2 (by kernel_rfl)).trans i2
    have e62 := (Reg.gfr_eval (ops := (Reg.opsOf Tryd.f7 12)) (a0 := a0) (v := v) (L := [2]) 62 2 (by kernel_rfl) (by rw [hsz]; omega)).trans d2
    refine ⟨Reg.wanted_of rfl (by kernel_rfl) e62, ?_⟩
    generalize Reg.gfr (Reg.opsOf Tryd.f7 12) a0 v [2] = G at e2 ⊢
    generalize hρ : G.eval = ρ at e2
    have hρ' : G.eval = ρ := hρ
    exact fun K hK => wp_load_row 25 (.tmp 2) rfl ti (by rw [hρ']; exact e2) 25 TC (0, 0) _ (M_ti W hb) Tryd.underlying25 rfl hTi (hK _ _ ⟨Below.refl _ _, rfl⟩)
set_option maxHeartbeats 4000000 in
set_option maxRecDepth 20000 in
theorem hn12_h4 :
    Reg.OpOK Tryd.prog (Reg.opsOf Tryd.f7 12) a0 w0 (hn12R ti B0 TC) (fun _ _ _ _ => True) 4 := by
    refine Reg.op_ok2 (fun af => { dst := some 64, op := Op.buildSlice 22 3 #[(0, Operand.const (Value.int IntKind.u8 97)), (1, Operand.const (Value.int IntKind.u8 98)), (2, Operand.const (Value.int IntKind.u8 99))], type := 22, pos := "outright.go:35", after := af, guard := some (2, true) }) #[{ on := 2, ground := Ground.guard }] (by kernel_rfl) [2] (by kernel_rfl) fun af v W hb hd => ?_
    have d2 : v 2 = (Value.bool true) := hd 2 (by decide)
    have e62 := (Reg.gfr_eval (ops := (Reg.opsOf Tryd.f7 12)) (a0 := a0) (v := v) (L := [2]) 62 2 (by kernel_rfl) (by rw [hsz]; omega)).trans d2
    refine ⟨Reg.wanted_of rfl (by kernel_rfl) e62, ?_⟩
    have eC : ∀ x, (Reg.gfr (Reg.opsOf Tryd.f7 12) a0 v [2]).eval (.const x) = x := fun _ => rfl
    generalize Reg.gfr (Reg.opsOf Tryd.f7 12) a0 v [2] = G at eC ⊢
    generalize hρ : G.eval = ρ at eC
    have hρ' : G.eval = ρ := hρ
    refine Reg.go_run (Value.slice (some ⟨W.heap.size, 0, none⟩) 3 3) (W.alloc (.cells #[Value.int IntKind.u8 97, Value.int IntKind.u8 98, Value.int IntKind.u8 99] 5)) (by rw [hρ']; simp [execOp, go_sem, eC]) ⟨(Below.refl _ _).alloc (Nat.le_refl _) _, ⟨_, rfl, heap_alloc_new _ _, by rw [hB0]; exact hb.size⟩⟩
set_option maxHeartbeats 4000000 in
set_option maxRecDepth 20000 in
theorem hn12_h5 :
    RegC.OpOK Tryd.prog (Reg.opsOf Tryd.f7 12) a0 w0 (fun i_ => if i_ = 4 then some 5 else none) (hn12R ti B0 TC) (fun _ _ _ _ => True) 5 := by
    refine RegC.op_ok2 (fun af => { dst := some 65, op := Op.convert 22 22 (Operand.tmp 64), type := 22, pos := "outright.go:35", after := af, guard := some (2, true) }) #[{ on := 4, ground := Ground.data }, { on := 2, ground := Ground.guard }] (by kernel_rfl) [4, 2] (by kernel_rfl) fun af v W hb hd => ?_
    have d2 : v 2 = (Value.bool true) := hd 2 (by decide) (by decide)
    have d4 : ((fun u_ w_ => ∃ b_, u_ = Value.slice (some ⟨b_, 0, none⟩) 3 3 ∧ w_.heap[b_]? = some (.cells #[Value.int IntKind.u8 97, Value.int IntKind.u8 98, Value.int IntKind.u8 99] 5 (0, 0)) ∧ B0 ≤ b_)) (v 4) W := hd 4 (by decide) (by decide)
    have e64 := Reg.gfr_eval (ops := (Reg.opsOf Tryd.f7 12)) (a0 := a0) (v := v) (L := [4, 2]) 64 4 (by kernel_rfl) (by rw [hsz]; omega)
    have e62 := (Reg.gfr_eval (ops := (Reg.opsOf Tryd.f7 12)) (a0 := a0) (v := v) (L := [4, 2]) 62 2 (by kernel_rfl) (by rw [hsz]; omega)).trans d2
    refine ⟨Reg.wanted_of rfl (by kernel_rfl) e62, ?_⟩
    generalize Reg.gfr (Reg.opsOf Tryd.f7 12) a0 v [4, 2] = G at e64 ⊢
    generalize hρ : G.eval = ρ at e64
    have hρ' : G.eval = ρ := hρ
    obtain ⟨b_, hv_, hc_, hge_⟩ := d4
    rw [hv_] at e64
    obtain ⟨w_, hrun_, q1_, q2_, q3_, q4_, q5_, q6_⟩ := run_convert_mark (P := Tryd.prog) W 22 5 _ b_ 3 3 Tryd.underlying22 Tryd.underlying5 hc_
    refine Reg.go_run (Value.slice (some ⟨b_, 0, none⟩) 3 3) w_ (by rw [hρ']; simp [execOp, go_sem, e64, hrun_]) ⟨⟨q4_.trans hb.os, q5_.trans hb.tape, q6_.trans hb.output, by rw [q3_]; exact hb.size, fun k_ hk_ => (q2_ k_ (fun e_ => by subst e_; omega)).trans (hb.block k_ hk_)⟩, ⟨b_, rfl, q1_⟩, ?_⟩
    refine fun j_ x_ hj_ hg_ hx_ _ => ?_
    match j_, hj_, hg_, hx_ with
    | 0, _, _, hx_ => exact ⟨hx_, trivial, trivial⟩
    | 1, _, _, hx_ => exact ⟨hx_, trivial, trivial⟩
    | 2, _, _, hx_ => exact ⟨hx_, trivial, trivial⟩
    | 3, _, _, hx_ => exact ⟨hx_, trivial, trivial⟩
    | 4, _, hg_, _ => exact absurd hg_ (by rw [show RegC.gone (Reg.opsOf Tryd.f7 12) (fun i_ => if i_ = 4 then some 5 else none) 5 4 = true by kernel_rfl]; decide)
    | 5, hj_, _, _ => exact absurd rfl hj_
    | 6, _, hg_, _ => exact absurd hg_ (by rw [show RegC.gone (Reg.opsOf Tryd.f7 12) (fun i_ => if i_ = 4 then some 5 else none) 5 6 = true by kernel_rfl]; decide)
    | 7, _, hg_, _ => exact absurd hg_ (by rw [show RegC.gone (Reg.opsOf Tryd.f7 12) (fun i_ => if i_ = 4 then some 5 else none) 5 7 = true by kernel_rfl]; decide)
    | 8, _, hg_, _ => exact absurd hg_ (by rw [show RegC.gone (Reg.opsOf Tryd.f7 12) (fun i_ => if i_ = 4 then some 5 else none) 5 8 = true by kernel_rfl]; decide)
    | 9, _, _, hx_ => exact ⟨hx_, trivial, trivial⟩
    | 10, _, _, hx_ => exact ⟨hx_, trivial, trivial⟩
    | 11, _, _, hx_ => exact ⟨hx_, trivial, trivial⟩
    | 12, _, _, hx_ => exact ⟨hx_, trivial, trivial⟩
    | 13, _, _, hx_ => exact ⟨hx_, trivial, trivial⟩
    | 14, _, _, hx_ => exact ⟨hx_, trivial, trivial⟩
    | 15, _, _, hx_ => exact ⟨hx_, trivial, trivial⟩
    | 16, _, _, hx_ => exact ⟨hx_, trivial, trivial⟩
    | 17, _, _, hx_ => exact ⟨hx_, trivial, trivial⟩
    | 18, _, _, hx_ => exact ⟨hx_, trivial, trivial⟩
    | 19, _, _, hx_ => exact ⟨hx_, trivial, trivial⟩
    | 20, _, _, hx_ => exact ⟨hx_, trivial, trivial⟩
    | 21, _, _, hx_ => exact ⟨hx_, trivial, trivial⟩
    | 22, _, _, hx_ => exact ⟨hx_, trivial, trivial⟩
    | 23, _, _, hx_ => exact ⟨hx_, trivial, trivial⟩
    | 24, _, _, hx_ => exact ⟨hx_, trivial, trivial⟩
    | 25, _, _, hx_ => exact ⟨hx_, trivial, trivial⟩
    | 26, _, _, hx_ => exact ⟨hx_, trivial, trivial⟩
    | 27, _, _, hx_ => exact ⟨hx_, trivial, trivial⟩
    | 28, _, _, hx_ => exact ⟨hx_, trivial, trivial⟩
    | 29, _, _, hx_ => exact ⟨hx_, trivial, trivial⟩
    | 30, _, _, hx_ => exact ⟨hx_, trivial, trivial⟩
    | (j_ + 31), _, _, _ => exact ⟨trivial, trivial, trivial⟩
set_option maxHeartbeats 4000000 in
set_option maxRecDepth 20000 in
theorem hn12_h6 :
    Reg.OpOK Tryd.prog (Reg.opsOf Tryd.f7 12) a0 w0 (hn12R ti B0 TC) (fun _ _ _ _ => True) 6 := by
    refine Reg.op_ok2 (fun af => { dst := some 66, op := Op.buildSlice 39 1 #[(0, Operand.tmp 65)], type := 39, pos := "outright.go:35", after := af, guard := some (2, true) }) #[{ on := 5, ground := Ground.data }, { on := 2, ground := Ground.guard }] (by kernel_rfl) [5, 2] (by kernel_rfl) fun af v W hb hd => ?_
    have d2 : v 2 = (Value.bool true) := hd 2 (by decide)
    have d5 : ((fun u_ w_ => ∃ b_, u_ = Value.slice (some ⟨b_, 0, none⟩) 3 3 ∧ w_.heap[b_]? = some (.cells #[Value.int IntKind.u8 97, Value.int IntKind.u8 98, Value.int IntKind.u8 99] 5 (3, 4)))) (v 5) W := hd 5 (by decide)
    have e65 := Reg.gfr_eval (ops := (Reg.opsOf Tryd.f7 12)) (a0 := a0) (v := v) (L := [5, 2]) 65 5 (by kernel_rfl) (by rw [hsz]; omega)
    have e62 := (Reg.gfr_eval (ops := (Reg.opsOf Tryd.f7 12)) (a0 := a0) (v := v) (L := [5, 2]) 62 2 (by kernel_rfl) (by rw [hsz]; omega)).trans d2
    refine ⟨Reg.wanted_of rfl (by kernel_rfl) e62, ?_⟩
    generalize Reg.gfr (Reg.opsOf Tryd.f7 12) a0 v [5, 2] = G at e65 ⊢
    generalize hρ : G.eval = ρ at e65
    have hρ' : G.eval = ρ := hρ
    obtain ⟨b_, hv_, hc_⟩ := d5
    rw [hv_] at e65
    have hbn_ : Below W.heap.size W (W.alloc (.cells #[Value.slice (some ⟨b_, 0, none⟩) 3 3] 22)) := (Below.refl _ _).alloc (Nat.le_refl _) _
    refine Reg.go_run (Value.slice (some ⟨W.heap.size, 0, none⟩) 1 1) (W.alloc (.cells #[Value.slice (some ⟨b_, 0, none⟩) 3 3] 22)) (by rw [hρ']; simp [execOp, go_sem, e65]) ⟨hbn_, ⟨b_, _, rfl, (hbn_.block _ (lt_of_get hc_)).trans hc_, heap_alloc_new _ _⟩⟩
set_option maxHeartbeats 4000000 in
set_option maxRecDepth 20000 in
theorem hn12_h7 :
    Reg.OpOK Tryd.prog (Reg.opsOf Tryd.f7 12) a0 w0 (hn12R ti B0 TC) (fun _ _ _ _ => True) 7 := by
    refine Reg.op_ok2 (fun af => { dst := some 67, op := Op.call { callee := Callee.value (Operand.func 11), args := #[Operand.tmp 66], argTypes := #[39] }, type := 25, pos := "outright.go:35", after := af, guard := some (2, true) }) #[{ on := 6, ground := Ground.data }, { on := 2, ground := Ground.chain }, { on := 2, ground := Ground.guard }] (by kernel_rfl) [6, 2, 2] (by kernel_rfl) fun af v W hb hd => ?_
    have d2 : v 2 = (Value.bool true) := hd 2 (by decide)
    have d6 : ((fun u_ w_ => ∃ b_ b2_, u_ = Value.slice (some ⟨b2_, 0, none⟩) 1 1 ∧ w_.heap[b_]? = some (.cells #[Value.int IntKind.u8 97, Value.int IntKind.u8 98, Value.int IntKind.u8 99] 5 (3, 4)) ∧ w_.heap[b2_]? = some (.cells #[Value.slice (some ⟨b_, 0, none⟩) 3 3] 22 (0, 0)))) (v 6) W := hd 6 (by decide)
    have e66 := Reg.gfr_eval (ops := (Reg.opsOf Tryd.f7 12)) (a0 := a0) (v := v) (L := [6, 2, 2]) 66 6 (by kernel_rfl) (by rw [hsz]; omega)
    have e62 := (Reg.gfr_eval (ops := (Reg.opsOf Tryd.f7 12)) (a0 := a0) (v := v) (L := [6, 2, 2]) 62 2 (by kernel_rfl) (by rw [hsz]; omega)).trans d2
    refine ⟨Reg.wanted_of rfl (by kernel_rfl) e62, ?_⟩
    have eF : ∀ f, (Reg.gfr (Reg.opsOf Tryd.f7 12) a0 v [6, 2, 2]).eval (.func f) = .func (.func f) #[] #[] := fun _ => rfl
    generalize Reg.gfr (Reg.opsOf Tryd.f7 12) a0 v [6, 2, 2] = G at e66 eF ⊢
    generalize hρ : G.eval = ρ at e66 eF
    have hρ' : G.eval = ρ := hρ
    obtain ⟨b_, b2_, hv_, hc_, hc2_⟩ := d6
    rw [hv_] at e66
    refine Reg.go_call 11 #[(Value.slice (some ⟨b2_, 0, none⟩) 1 1)] (by rw [hρ']; simp [execOp, go_sem, e66, eF]) ((hof W b_ b2_ hb hc_ hc2_).mono fun e w' he => ?_)
    obtain ⟨rfl, hbb_⟩ := he
    exact ⟨_, rfl, hbb_, rfl⟩
set_option maxHeartbeats 4000000 in
set_option maxRecDepth 20000 in
theorem hn12_h8 :
    Reg.OpOK Tryd.prog (Reg.opsOf Tryd.f7 12) a0 w0 (hn12R ti B0 TC) (fun _ _ _ _ => True) 8 := by
    refine Reg.op_ok2 (fun af => { dst := some 68, op := Op.binOp BinOp.eql 25 (Operand.tmp 63) (Operand.tmp 67) 25, type := 4, pos := "outright.go:35", after := af, guard := some (2, true) }) #[{ on := 3, ground := Ground.data }, { on := 7, ground := Ground.data }, { on := 2, ground := Ground.guard }] (by kernel_rfl) [3, 7, 2] (by kernel_rfl) fun af v W hb hd => ?_
    have d2 : v 2 = (Value.bool true) := hd 2 (by decide)
    have d3 : v 3 = (Value.agg TC) := hd 3 (by decide)
    have d7 : v 7 = (Value.agg TC) := hd 7 (by decide)
    have e63 := (Reg.gfr_eval (ops := (Reg.opsOf Tryd.f7 12)) (a0 := a0) (v := v) (L := [3, 7, 2]) 63 3 (by kernel_rfl) (by rw [hsz]; omega)).trans d3
    have e67 := (Reg.gfr_eval (ops := (Reg.opsOf Tryd.f7 12)) (a0 := a0) (v := v) (L := [3, 7, 2]) 67 7 (by kernel_rfl) (by rw [hsz]; omega)).trans d7
    have e62 := (Reg.gfr_eval (ops := (Reg.opsOf Tryd.f7 12)) (a0 := a0) (v := v) (L := [3, 7, 2]) 62 2 (by kernel_rfl) (by rw [hsz]; omega)).trans d2
    refine ⟨Reg.wanted_of rfl (by kernel_rfl) e62, ?_⟩
    generalize Reg.gfr (Reg.opsOf Tryd.f7 12) a0 v [3, 7, 2] = G at e63 e67 ⊢
    generalize hρ : G.eval = ρ at e63 e67
    have hρ' : G.eval = ρ := hρ
    refine Reg.go_run (Value.bool true) W ?_ ?_
    · rw [hρ']; simp [execOp, go_sem, e63, e67, heqv]
    · exact ⟨Below.refl _ _, rfl⟩
set_option maxHeartbeats 4000000 in
set_option maxRecDepth 20000 in
theorem hn12_h9 :
    Reg.OpOK Tryd.prog (Reg.opsOf Tryd.f7 12) a0 w0 (hn12R ti B0 TC) (fun _ _ _ _ => True) 9 := by
    refine Reg.op_ok2 (fun af => { dst := some 69, op := Op.pick (Operand.tmp 62) (Operand.tmp 68) (Operand.const (Value.bool false)), type := 4, pos := "outright.go:35", after := af, guard := none }) #[{ on := 2, ground := Ground.data }, { on := 8, ground := Ground.data }] (by kernel_rfl) [2, 8] (by kernel_rfl) fun af v W hb hd => ?_
    have d2 : v 2 = (Value.bool true) := hd 2 (by decide)
    have d8 : v 8 = (Value.bool true) := hd 8 (by decide)
    have e62 := (Reg.gfr_eval (ops := (Reg.opsOf Tryd.f7 12)) (a0 := a0) (v := v) (L := [2, 8]) 62 2 (by kernel_rfl) (by rw [hsz]; omega)).trans d2
    have e68 := (Reg.gfr_eval (ops := (Reg.opsOf Tryd.f7 12)) (a0 := a0) (v := v) (L := [2, 8]) 68 8 (by kernel_rfl) (by rw [hsz]; omega)).trans d8
    refine ⟨Reg.wanted_none rfl, ?_⟩
    have eC : ∀ x, (Reg.gfr (Reg.opsOf Tryd.f7 12) a0 v [2, 8]).eval (.const x) = x := fun _ => rfl
    generalize Reg.gfr (Reg.opsOf Tryd.f7 12) a0 v [2, 8] = G at e62 e68 eC ⊢
    generalize hρ : G.eval = ρ at e62 e68 eC
    have hρ' : G.eval = ρ := hρ
    refine Reg.go_run (Value.bool true) W ?_ ?_
    · rw [hρ']; simp [execOp, go_sem, e62, e68, eC]
    · exact ⟨Below.refl _ _, rfl⟩
set_option maxHeartbeats 4000000 in
set_option maxRecDepth 20000 in
theorem hn12_h10 :
    Reg.OpOK Tryd.prog (Reg.opsOf Tryd.f7 12) a0 w0 (hn12R ti B0 TC) (fun _ _ _ _ => True) 10 := by
    refine Reg.op_ok2 (fun af => { dst := some 70, op := Op.move (Operand.tmp 69), type := 4, pos := "outright.go:35", after := af, guard := none }) #[{ on := 9, ground := Ground.data }, { on := 7, ground := Ground.chain }] (by kernel_rfl) [9, 7] (by kernel_rfl) fun af v W hb hd => ?_
    have d9 : v 9 = (Value.bool true) := hd 9 (by decide)
    have e69 := (Reg.gfr_eval (ops := (Reg.opsOf Tryd.f7 12)) (a0 := a0) (v := v) (L := [9, 7]) 69 9 (by kernel_rfl) (by rw [hsz]; omega)).trans d9
    refine ⟨Reg.wanted_none rfl, ?_⟩
    generalize Reg.gfr (Reg.opsOf Tryd.f7 12) a0 v [9, 7] = G at e69 ⊢
    generalize hρ : G.eval = ρ at e69
    have hρ' : G.eval = ρ := hρ
    refine Reg.go_run (Value.bool true) W ?_ ?_
    · rw [hρ']; simp [execOp, go_sem, e69]
    · exact ⟨Below.refl _ _, rfl⟩
set_option maxHeartbeats 4000000 in
set_option maxRecDepth 20000 in
theorem hn12_h11 :
    Reg.OpOK Tryd.prog (Reg.opsOf Tryd.f7 12) a0 w0 (hn12R ti B0 TC) (fun _ _ _ _ => True) 11 := by
    refine Reg.op_ok2 (fun af => { dst := some 71, op := Op.move (Operand.tmp 5), type := 41, pos := "outright.go:35", after := af, guard := some (10, true) }) #[{ on := 10, ground := Ground.guard }] (by kernel_rfl) [10] (by kernel_rfl) fun af v W hb hd => ?_
    have d10 : v 10 = (Value.bool true) := hd 10 (by decide)
    have e5 := (Reg.gfr_eval0 (ops := (Reg.opsOf Tryd.f7 12)) (a0 := a0) (v := v) (L := [10]) 5 (by kernel_rfl)).trans i5
    have e70 := (Reg.gfr_eval (ops := (Reg.opsOf Tryd.f7 12)) (a0 := a0) (v := v) (L := [10]) 70 10 (by kernel_rfl) (by rw [hsz]; omega)).trans d10
    refine ⟨Reg.wanted_of rfl (by kernel_rfl) e70, ?_⟩
    generalize Reg.gfr (Reg.opsOf Tryd.f7 12) a0 v [10] = G at e5 ⊢
    generalize hρ : G.eval = ρ at e5
    have hρ' : G.eval = ρ := hρ
    refine Reg.go_run (Value.int IntKind.i64 30) W ?_ ?_
    · rw [hρ']; simp [execOp, go_sem, e5]
    · exact ⟨Below.refl _ _, rfl⟩
set_option maxHeartbeats 4000000 in
set_option maxRecDepth 20000 in
theorem hn12_h12 :
    Reg.OpOK Tryd.prog (Reg.opsOf Tryd.f7 12) a0 w0 (hn12R ti B0 TC) (fun _ _ _ _ => True) 12 := by
    refine Reg.op_ok2 (fun af => { dst := some 72, op := Op.binOp BinOp.eql 41 (Operand.tmp 71) (Operand.const (Value.int IntKind.i64 30)) 41, type := 4, pos := "outright.go:35", after := af, guard := some (10, true) }) #[{ on := 11, ground := Ground.data }, { on := 10, ground := Ground.guard }] (by kernel_rfl) [11, 10] (by kernel_rfl) fun af v W hb hd => ?_
    have d10 : v 10 = (Value.bool true) := hd 10 (by decide)
    have d11 : v 11 = (Value.int IntKind.i64 30) := hd 11 (by decide)
    have e71 := (Reg.gfr_eval (ops := (Reg.opsOf Tryd.f7 12)) (a0 := a0) (v := v) (L := [11, 10]) 71 11 (by kernel_rfl) (by rw [hsz]; omega)).trans d11
    have e70 := (Reg.gfr_eval (ops := (Reg.opsOf Tryd.f7 12)) (a0 := a0) (v := v) (L := [11, 10]) 70 10 (by kernel_rfl) (by rw [hsz]; omega)).trans d10
    refine ⟨Reg.wanted_of rfl (by kernel_rfl) e70, ?_⟩
    have eC : ∀ x, (Reg.gfr (Reg.opsOf Tryd.f7 12) a0 v [11, 10]).eval (.const x) = x := fun _ => rfl
    generalize Reg.gfr (Reg.opsOf Tryd.f7 12) a0 v [11, 10] = G at e71 eC ⊢
    generalize hρ : G.eval = ρ at e71 eC
    have hρ' : G.eval = ρ := hρ
    refine Reg.go_run (Value.bool true) W ?_ ?_
    · rw [hρ']; simp [execOp, go_sem, e71, eC]
    · exact ⟨Below.refl _ _, rfl⟩
set_option maxHeartbeats 4000000 in
set_option maxRecDepth 20000 in
theorem hn12_h13 :
    Reg.OpOK Tryd.prog (Reg.opsOf Tryd.f7 12) a0 w0 (hn12R ti B0 TC) (fun _ _ _ _ => True) 13 := by
    refine Reg.op_ok2 (fun af => { dst := some 73, op := Op.pick (Operand.tmp 70) (Operand.tmp 72) (Operand.const (Value.bool false)), type := 4, pos := "outright.go:35", after := af, guard := none }) #[{ on := 10, ground := Ground.data }, { on := 12, ground := Ground.data }] (by kernel_rfl) [10, 12] (by kernel_rfl) fun af v W hb hd => ?_
    have d10 : v 10 = (Value.bool true) := hd 10 (by decide)
    have d12 : v 12 = (Value.bool true) := hd 12 (by decide)
    have e70 := (Reg.gfr_eval (ops := (Reg.opsOf Tryd.f7 12)) (a0 := a0) (v := v) (L := [10, 12]) 70 10 (by kernel_rfl) (by rw [hsz]; omega)).trans d10
    have e72 := (Reg.gfr_eval (ops := (Reg.opsOf Tryd.f7 12)) (a0 := a0) (v := v) (L := [10, 12]) 72 12 (by kernel_rfl) (by rw [hsz]; omega)).trans d12
    refine ⟨Reg.wanted_none rfl, ?_⟩
    have eC : ∀ x, (Reg.gfr (Reg.opsOf Tryd.f7 12) a0 v [10, 12]).eval (.const x) = x := fun _ => rfl
    generalize Reg.gfr (Reg.opsOf Tryd.f7 12) a0 v [10, 12] = G at e70 e72 eC ⊢
    generalize hρ : G.eval = ρ at e70 e72 eC
    have hρ' : G.eval = ρ := hρ
    refine Reg.go_run (Value.bool true) W ?_ ?_
    · rw [hρ']; simp [execOp, go_sem, e70, e72, eC]
    · exact ⟨Below.refl _ _, rfl⟩
set_option maxHeartbeats 4000000 in
set_option maxRecDepth 20000 in
theorem hn12_h14 :
    Reg.OpOK Tryd.prog (Reg.opsOf Tryd.f7 12) a0 w0 (hn12R ti B0 TC) (fun _ _ _ _ => True) 14 := by
    refine Reg.op_ok2 (fun af => { dst := some 74, op := Op.move (Operand.tmp 73), type := 4, pos := "outright.go:35", after := af, guard := none }) #[{ on := 13, ground := Ground.data }, { on := 10, ground := Ground.chain }] (by kernel_rfl) [13, 10] (by kernel_rfl) fun af v W hb hd => ?_
    have d13 : v 13 = (Value.bool true) := hd 13 (by decide)
    have e73 := (Reg.gfr_eval (ops := (Reg.opsOf Tryd.f7 12)) (a0 := a0) (v := v) (L := [13, 10]) 73 13 (by kernel_rfl) (by rw [hsz]; omega)).trans d13
    refine ⟨Reg.wanted_none rfl, ?_⟩
    generalize Reg.gfr (Reg.opsOf Tryd.f7 12) a0 v [13, 10] = G at e73 ⊢
    generalize hρ : G.eval = ρ at e73
    have hρ' : G.eval = ρ := hρ
    refine Reg.go_run (Value.bool true) W ?_ ?_
    · rw [hρ']; simp [execOp, go_sem, e73]
    · exact ⟨Below.refl _ _, rfl⟩
set_option maxHeartbeats 4000000 in
set_option maxRecDepth 20000 in
theorem hn12_h15 :
    Reg.OpOK Tryd.prog (Reg.opsOf Tryd.f7 12) a0 w0 (hn12R ti B0 TC) (fun _ _ _ _ => True) 15 := by
    refine Reg.op_ok2 (fun af => { dst := some 75, op := Op.move (Operand.tmp 7), type := 41, pos := "outright.go:35", after := af, guard := some (14, true) }) #[{ on := 14, ground := Ground.guard }] (by kernel_rfl) [14] (by kernel_rfl) fun af v W hb hd => ?_
    have d14 : v 14 = (Value.bool true) := hd 14 (by decide)
    have e7 := (Reg.gfr_eval0 (ops := (Reg.opsOf Tryd.f7 12)) (a0 := a0) (v := v) (L := [14]) 7 (by kernel_rfl)).trans i7
    have e74 := (Reg.gfr_eval (ops := (Reg.opsOf Tryd.f7 12)) (a0 := a0) (v := v) (L := [14]) 74 14 (by kernel_rfl) (by rw [hsz]; omega)).trans d14
    refine ⟨Reg.wanted_of rfl (by kernel_rfl) e74, ?_⟩
    generalize Reg.gfr (Reg.opsOf Tryd.f7 12) a0 v [14] = G at e7 ⊢
    generalize hρ : G.eval = ρ at e7
    have hρ' : G.eval = ρ := hρ
    refine Reg.go_run (Value.int IntKind.i64 30) W ?_ ?_
    · rw [hρ']; simp [execOp, go_sem, e7]
    · exact ⟨Below.refl _ _, rfl⟩
set_option maxHeartbeats 4000000 in
set_option maxRecDepth 20000 in
theorem hn12_h16 :
    Reg.OpOK Tryd.prog (Reg.opsOf Tryd.f7 12) a0 w0 (hn12R ti B0 TC) (fun _ _ _ _ => True) 16 := by
    refine Reg.op_ok2 (fun af => { dst := some 76, op := Op.binOp BinOp.eql 41 (Operand.tmp 75) (Operand.const (Value.int IntKind.i64 30)) 41, type := 4, pos := "outright.go:35", after := af, guard := some (14, true) }) #[{ on := 15, ground := Ground.data }, { on := 14, ground := Ground.guard }] (by kernel_rfl) [15, 14] (by kernel_rfl) fun af v W hb hd => ?_
    have d14 : v 14 = (Value.bool true) := hd 14 (by decide)
    have d15 : v 15 = (Value.int IntKind.i64 30) := hd 15 (by decide)
    have e75 := (Reg.gfr_eval (ops := (Reg.opsOf Tryd.f7 12)) (a0 := a0) (v := v) (L := [15, 14]) 75 15 (by kernel_rfl) (by rw [hsz]; omega)).trans d15
    have e74 := (Reg.gfr_eval (ops := (Reg.opsOf Tryd.f7 12)) (a0 := a0) (v := v) (L := [15, 14]) 74 14 (by kernel_rfl) (by rw [hsz]; omega)).trans d14
    refine ⟨Reg.wanted_of rfl (by kernel_rfl) e74, ?_⟩
    have eC : ∀ x, (Reg.gfr (Reg.opsOf Tryd.f7 12) a0 v [15, 14]).eval (.const x) = x := fun _ => rfl
    generalize Reg.gfr (Reg.opsOf Tryd.f7 12) a0 v [15, 14] = G at e75 eC ⊢
    generalize hρ : G.eval = ρ at e75 eC
    have hρ' : G.eval = ρ := hρ
    refine Reg.go_run (Value.bool true) W ?_ ?_
    · rw [hρ']; simp [execOp, go_sem, e75, eC]
    · exact ⟨Below.refl _ _, rfl⟩
set_option maxHeartbeats 4000000 in
set_option maxRecDepth 20000 in
theorem hn12_h17 :
    Reg.OpOK Tryd.prog (Reg.opsOf Tryd.f7 12) a0 w0 (hn12R ti B0 TC) (fun _ _ _ _ => True) 17 := by
    refine Reg.op_ok2 (fun af => { dst := some 77, op := Op.pick (Operand.tmp 74) (Operand.tmp 76) (Operand.const (Value.bool false)), type := 4, pos := "outright.go:35", after := af, guard := none }) #[{ on := 14, ground := Ground.data }, { on := 16, ground := Ground.data }] (by kernel_rfl) [14, 16] (by kernel_rfl) fun af v W hb hd => ?_
    have d14 : v 14 = (Value.bool true) := hd 14 (by decide)
    have d16 : v 16 = (Value.bool true) := hd 16 (by decide)
    have e74 := (Reg.gfr_eval (ops := (Reg.opsOf Tryd.f7 12)) (a0 := a0) (v := v) (L := [14, 16]) 74 14 (by kernel_rfl) (by rw [hsz]; omega)).trans d14
    have e76 := (Reg.gfr_eval (ops := (Reg.opsOf Tryd.f7 12)) (a0 := a0) (v := v) (L := [14, 16]) 76 16 (by kernel_rfl) (by rw [hsz]; omega)).trans d16
    refine ⟨Reg.wanted_none rfl, ?_⟩
    have eC : ∀ x, (Reg.gfr (Reg.opsOf Tryd.f7 12) a0 v [14, 16]).eval (.const x) = x := fun _ => rfl
    generalize Reg.gfr (Reg.opsOf Tryd.f7 12) a0 v [14, 16] = G at e74 e76 eC ⊢
    generalize hρ : G.eval = ρ at e74 e76 eC
    have hρ' : G.eval = ρ := hρ
    refine Reg.go_run (Value.bool true) W ?_ ?_
    · rw [hρ']; simp [execOp, go_sem, e74, e76, eC]
    · exact ⟨Below.refl _ _, rfl⟩
set_option maxHeartbeats 4000000 in
set_option maxRecDepth 20000 in
theorem hn12_h18 :
    Reg.OpOK Tryd.prog (Reg.opsOf Tryd.f7 12) a0 w0 (hn12R ti B0 TC) (fun _ _ _ _ => True) 18 := by
    refine Reg.op_ok2 (fun af => { dst := some 78, op := Op.move (Operand.tmp 77), type := 4, pos := "outright.go:35", after := af, guard := none }) #[{ on := 17, ground := Ground.data }, { on := 14, ground := Ground.chain }] (by kernel_rfl) [17, 14] (by kernel_rfl) fun af v W hb hd => ?_
    have d17 : v 17 = (Value.bool true) := hd 17 (by decide)
    have e77 := (Reg.gfr_eval (ops := (Reg.opsOf Tryd.f7 12)) (a0 := a0) (v := v) (L := [17, 14]) 77 17 (by kernel_rfl) (by rw [hsz]; omega)).trans d17
    refine ⟨Reg.wanted_none rfl, ?_⟩
    generalize Reg.gfr (Reg.opsOf Tryd.f7 12) a0 v [17, 14] = G at e77 ⊢
    generalize hρ : G.eval = ρ at e77
    have hρ' : G.eval = ρ := hρ
    refine Reg.go_run (Value.bool true) W ?_ ?_
    · rw [hρ']; simp [execOp, go_sem, e77]
    · exact ⟨Below.refl _ _, rfl⟩
set_option maxHeartbeats 4000000 in
set_option maxRecDepth 20000 in
theorem hn12_h19 :
    Reg.OpOK Tryd.prog (Reg.opsOf Tryd.f7 12) a0 w0 (hn12R ti B0 TC) (fun _ _ _ _ => True) 19 := by
    refine Reg.op_ok2 (fun af => { dst := some 79, op := Op.move (Operand.tmp 9), type := 41, pos := "outright.go:35", after := af, guard := some (18, true) }) #[{ on := 18, ground := Ground.guard }] (by kernel_rfl) [18] (by kernel_rfl) fun af v W hb hd => ?_
    have d18 : v 18 = (Value.bool true) := hd 18 (by decide)
    have e9 := (Reg.gfr_eval0 (ops := (Reg.opsOf Tryd.f7 12)) (a0 := a0) (v := v) (L := [18]) 9 (by kernel_rfl)).trans i9
    have e78 := (Reg.gfr_eval (ops := (Reg.opsOf Tryd.f7 12)) (a0 := a0) (v := v) (L := [18]) 78 18 (by kernel_rfl) (by rw [hsz]; omega)).trans d18
    refine ⟨Reg.wanted_of rfl (by kernel_rfl) e78, ?_⟩
    generalize Reg.gfr (Reg.opsOf Tryd.f7 12) a0 v [18] = G at e9 ⊢
    generalize hρ : G.eval = ρ at e9
    have hρ' : G.eval = ρ := hρ
    refine Reg.go_run (Value.int IntKind.i64 30) W ?_ ?_
    · rw [hρ']; simp [execOp, go_sem, e9]
    · exact ⟨Below.refl _ _, rfl⟩
set_option maxHeartbeats 4000000 in
set_option maxRecDepth 20000 in
theorem hn12_h20 :
    Reg.OpOK Tryd.prog (Reg.opsOf Tryd.f7 12) a0 w0 (hn12R ti B0 TC) (fun _ _ _ _ => True) 20 := by
    refine Reg.op_ok2 (fun af => { dst := some 80, op := Op.binOp BinOp.eql 41 (Operand.tmp 79) (Operand.const (Value.int IntKind.i64 30)) 41, type := 4, pos := "outright.go:35", after := af, guard := some (18, true) }) #[{ on := 19, ground := Ground.data }, { on := 18, ground := Ground.guard }] (by kernel_rfl) [19, 18] (by kernel_rfl) fun af v W hb hd => ?_
    have d18 : v 18 = (Value.bool true) := hd 18 (by decide)
    have d19 : v 19 = (Value.int IntKind.i64 30) := hd 19 (by decide)
    have e79 := (Reg.gfr_eval (ops := (Reg.opsOf Tryd.f7 12)) (a0 := a0) (v := v) (L := [19, 18]) 79 19 (by kernel_rfl) (by rw [hsz]; omega)).trans d19
    have e78 := (Reg.gfr_eval (ops := (Reg.opsOf Tryd.f7 12)) (a0 := a0) (v := v) (L := [19, 18]) 78 18 (by kernel_rfl) (by rw [hsz]; omega)).trans d18
    refine ⟨Reg.wanted_of rfl (by kernel_rfl) e78, ?_⟩
    have eC : ∀ x, (Reg.gfr (Reg.opsOf Tryd.f7 12) a0 v [19, 18]).eval (.const x) = x := fun _ => rfl
    generalize Reg.gfr (Reg.opsOf Tryd.f7 12) a0 v [19, 18] = G at e79 eC ⊢
    generalize hρ : G.eval = ρ at e79 eC
    have hρ' : G.eval = ρ := hρ
    refine Reg.go_run (Value.bool true) W ?_ ?_
    · rw [hρ']; simp [execOp, go_sem, e79, eC]
    · exact ⟨Below.refl _ _, rfl⟩
set_option maxHeartbeats 4000000 in
set_option maxRecDepth 20000 in
theorem hn12_h21 :
    Reg.OpOK Tryd.prog (Reg.opsOf Tryd.f7 12) a0 w0 (hn12R ti B0 TC) (fun _ _ _ _ => True) 21 := by
    refine Reg.op_ok2 (fun af => { dst := some 81, op := Op.pick (Operand.tmp 78) (Operand.tmp 80) (Operand.const (Value.bool false)), type := 4, pos := "outright.go:35", after := af, guard := none }) #[{ on := 18, ground := Ground.data }, { on := 20, ground := Ground.data }] (by kernel_rfl) [18, 20] (by kernel_rfl) fun af v W hb hd => ?_
    have d18 : v 18 = (Value.bool true) := hd 18 (by decide)
    have d20 : v 20 = (Value.bool true) := hd 20 (by decide)
    have e78 := (Reg.gfr_eval (ops := (Reg.opsOf Tryd.f7 12)) (a0 := a0) (v := v) (L := [18, 20]) 78 18 (by kernel_rfl) (by rw [hsz]; omega)).trans d18
    have e80 := (Reg.gfr_eval (ops := (Reg.opsOf Tryd.f7 12)) (a0 := a0) (v := v) (L := [18, 20]) 80 20 (by kernel_rfl) (by rw [hsz]; omega)).trans d20
    refine ⟨Reg.wanted_none rfl, ?_⟩
    have eC : ∀ x, (Reg.gfr (Reg.opsOf Tryd.f7 12) a0 v [18, 20]).eval (.const x) = x := fun _ => rfl
    generalize Reg.gfr (Reg.opsOf Tryd.f7 12) a0 v [18, 20] = G at e78 e80 eC ⊢
    generalize hρ : G.eval = ρ at e78 e80 eC
    have hρ' : G.eval = ρ := hρ
    refine Reg.go_run (Value.bool true) W ?_ ?_
    · rw [hρ']; simp [execOp, go_sem, e78, e80, eC]
    · exact ⟨Below.refl _ _, rfl⟩
set_option maxHeartbeats 4000000 in
set_option maxRecDepth 20000 in
theorem hn12_h22 :
    Reg.OpOK Tryd.prog (Reg.opsOf Tryd.f7 12) a0 w0 (hn12R ti B0 TC) (fun _ _ _ _ => True) 22 := by
    refine Reg.op_ok2 (fun af => { dst := some 82, op := Op.move (Operand.tmp 81), type := 4, pos := "outright.go:35", after := af, guard := none }) #[{ on := 21, ground := Ground.data }, { on := 18, ground := Ground.chain }] (by kernel_rfl) [21, 18] (by kernel_rfl) fun af v W hb hd => ?_
    have d21 : v 21 = (Value.bool true) := hd 21 (by decide)
    have e81 := (Reg.gfr_eval (ops := (Reg.opsOf Tryd.f7 12)) (a0 := a0) (v := v) (L := [21, 18]) 81 21 (by kernel_rfl) (by rw [hsz]; omega)).trans d21
    refine ⟨Reg.wanted_none rfl, ?_⟩
    generalize Reg.gfr (Reg.opsOf Tryd.f7 12) a0 v [21, 18] = G at e81 ⊢
    generalize hρ : G.eval = ρ at e81
    have hρ' : G.eval = ρ := hρ
    refine Reg.go_run (Value.bool true) W ?_ ?_
    · rw [hρ']; simp [execOp, go_sem, e81]
    · exact ⟨Below.refl _ _, rfl⟩
set_option maxHeartbeats 4000000 in
set_option maxRecDepth 20000 in
theorem hn12_h23 :
    Reg.OpOK Tryd.prog (Reg.opsOf Tryd.f7 12) a0 w0 (hn12R ti B0 TC) (fun _ _ _ _ => True) 23 := by
    refine Reg.op_ok2 (fun af => { dst := some 83, op := Op.move (Operand.tmp 11), type := 41, pos := "outright.go:35", after := af, guard := some (22, true) }) #[{ on := 22, ground := Ground.guard }] (by kernel_rfl) [22] (by kernel_rfl) fun af v W hb hd => ?_
    have d22 : v 22 = (Value.bool true) := hd 22 (by decide)
    have e11 := (Reg.gfr_eval0 (ops := (Reg.opsOf Tryd.f7 12)) (a0 := a0) (v := v) (L := [22]) 11 (by kernel_rfl)).trans i11
    have e82 := (Reg.gfr_eval (ops := (Reg.opsOf Tryd.f7 12)) (a0 := a0) (v := v) (L := [22]) 82 22 (by kernel_rfl) (by rw [hsz]; omega)).trans d22
    refine ⟨Reg.wanted_of rfl (by kernel_rfl) e82, ?_⟩
    generalize Reg.gfr (Reg.opsOf Tryd.f7 12) a0 v [22] = G at e11 ⊢
    generalize hρ : G.eval = ρ at e11
    have hρ' : G.eval = ρ := hρ
    refine Reg.go_run (Value.int IntKind.i64 30) W ?_ ?_
    · rw [hρ']; simp [execOp, go_sem, e11]
    · exact ⟨Below.refl _ _, rfl⟩
set_option maxHeartbeats 4000000 in
set_option maxRecDepth 20000 in
theorem hn12_h24 :
    Reg.OpOK Tryd.prog (Reg.opsOf Tryd.f7 12) a0 w0 (hn12R ti B0 TC) (fun _ _ _ _ => True) 24 := by
    refine Reg.op_ok2 (fun af => { dst := some 84, op := Op.binOp BinOp.eql 41 (Operand.tmp 83) (Operand.const (Value.int IntKind.i64 30)) 41, type := 4, pos := "outright.go:35", after := af, guard := some (22, true) }) #[{ on := 23, ground := Ground.data }, { on := 22, ground := Ground.guard }] (by kernel_rfl) [23, 22] (by kernel_rfl) fun af v W hb hd => ?_
    have d22 : v 22 = (Value.bool true) := hd 22 (by decide)
    have d23 : v 23 = (Value.int IntKind.i64 30) := hd 23 (by decide)
    have e83 := (Reg.gfr_eval (ops := (Reg.opsOf Tryd.f7 12)) (a0 := a0) (v := v) (L := [23, 22]) 83 23 (by kernel_rfl) (by rw [hsz]; omega)).trans d23
    have e82 := (Reg.gfr_eval (ops := (Reg.opsOf Tryd.f7 12)) (a0 := a0) (v := v) (L := [23, 22]) 82 22 (by kernel_rfl) (by rw [hsz]; omega)).trans d22
    refine ⟨Reg.wanted_of rfl (by kernel_rfl) e82, ?_⟩
    have eC : ∀ x, (Reg.gfr (Reg.opsOf Tryd.f7 12) a0 v [23, 22]).eval (.const x) = x := fun _ => rfl
    generalize Reg.gfr (Reg.opsOf Tryd.f7 12) a0 v [23, 22] = G at e83 eC ⊢
    generalize hρ : G.eval = ρ at e83 eC
    have hρ' : G.eval = ρ := hρ
    refine Reg.go_run (Value.bool true) W ?_ ?_
    · rw [hρ']; simp [execOp, go_sem, e83, eC]
    · exact ⟨Below.refl _ _, rfl⟩
set_option maxHeartbeats 4000000 in
set_option maxRecDepth 20000 in
theorem hn12_h25 :
    Reg.OpOK Tryd.prog (Reg.opsOf Tryd.f7 12) a0 w0 (hn12R ti B0 TC) (fun _ _ _ _ => True) 25 := by
    refine Reg.op_ok2 (fun af => { dst := some 85, op := Op.pick (Operand.tmp 82) (Operand.tmp 84) (Operand.const (Value.bool false)), type := 4, pos := "outright.go:35", after := af, guard := none }) #[{ on := 22, ground := Ground.data }, { on := 24, ground := Ground.data }] (by kernel_rfl) [22, 24] (by kernel_rfl) fun af v W hb hd => ?_
    have d22 : v 22 = (Value.bool true) := hd 22 (by decide)
    have d24 : v 24 = (Value.bool true) := hd 24 (by decide)
    have e82 := (Reg.gfr_eval (ops := (Reg.opsOf Tryd.f7 12)) (a0 := a0) (v := v) (L := [22, 24]) 82 22 (by kernel_rfl) (by rw [hsz]; omega)).trans d22
    have e84 := (Reg.gfr_eval (ops := (Reg.opsOf Tryd.f7 12)) (a0 := a0) (v := v) (L := [22, 24]) 84 24 (by kernel_rfl) (by rw [hsz]; omega)).trans d24
    refine ⟨Reg.wanted_none rfl, ?_⟩
    have eC : ∀ x, (Reg.gfr (Reg.opsOf Tryd.f7 12) a0 v [22, 24]).eval (.const x) = x := fun _ => rfl
    generalize Reg.gfr (Reg.opsOf Tryd.f7 12) a0 v [22, 24] = G at e82 e84 eC ⊢
    generalize hρ : G.eval = ρ at e82 e84 eC
    have hρ' : G.eval = ρ := hρ
    refine Reg.go_run (Value.bool true) W ?_ ?_
    · rw [hρ']; simp [execOp, go_sem, e82, e84, eC]
    · exact ⟨Below.refl _ _, rfl⟩
set_option maxHeartbeats 4000000 in
set_option maxRecDepth 20000 in
theorem hn12_h26 :
    Reg.OpOK Tryd.prog (Reg.opsOf Tryd.f7 12) a0 w0 (hn12R ti B0 TC) (fun _ _ _ _ => True) 26 := by
    refine Reg.op_ok2 (fun af => { dst := some 86, op := Op.move (Operand.tmp 85), type := 4, pos := "outright.go:35", after := af, guard := none }) #[{ on := 25, ground := Ground.data }, { on := 22, ground := Ground.chain }] (by kernel_rfl) [25, 22] (by kernel_rfl) fun af v W hb hd => ?_
    have d25 : v 25 = (Value.bool true) := hd 25 (by decide)
    have e85 := (Reg.gfr_eval (ops := (Reg.opsOf Tryd.f7 12)) (a0 := a0) (v := v) (L := [25, 22]) 85 25 (by kernel_rfl) (by rw [hsz]; omega)).trans d25
    refine ⟨Reg.wanted_none rfl, ?_⟩
    generalize Reg.gfr (Reg.opsOf Tryd.f7 12) a0 v [25, 22] = G at e85 ⊢
    generalize hρ : G.eval = ρ at e85
    have hρ' : G.eval = ρ := hρ
    refine Reg.go_run (Value.bool true) W ?_ ?_
    · rw [hρ']; simp [execOp, go_sem, e85]
    · exact ⟨Below.refl _ _, rfl⟩
set_option maxHeartbeats 4000000 in
set_option maxRecDepth 20000 in
theorem hn12_h27 :
    Reg.OpOK Tryd.prog (Reg.opsOf Tryd.f7 12) a0 w0 (hn12R ti B0 TC) (fun _ _ _ _ => True) 27 := by
    refine Reg.op_ok2 (fun af => { dst := some 87, op := Op.move (Operand.tmp 13), type := 41, pos := "outright.go:35", after := af, guard := some (26, true) }) #[{ on := 26, ground := Ground.guard }] (by kernel_rfl) [26] (by kernel_rfl) fun af v W hb hd => ?_
    have d26 : v 26 = (Value.bool true) := hd 26 (by decide)
    have e13 := (Reg.gfr_eval0 (ops := (Reg.opsOf Tryd.f7 12)) (a0 := a0) (v := v) (L := [26]) 13 (by kernel_rfl)).trans i13
    have e86 := (Reg.gfr_eval (ops := (Reg.opsOf Tryd.f7 12)) (a0 := a0) (v := v) (L := [26]) 86 26 (by kernel_rfl) (by rw [hsz]; omega)).trans d26
    refine ⟨Reg.wanted_of rfl (by kernel_rfl) e86, ?_⟩
    generalize Reg.gfr (Reg.opsOf Tryd.f7 12) a0 v [26] = G at e13 ⊢
    generalize hρ : G.eval = ρ at e13
    have hρ' : G.eval = ρ := hρ
    refine Reg.go_run (Value.int IntKind.i64 30) W ?_ ?_
    · rw [hρ']; simp [execOp, go_sem, e13]
    · exact ⟨Below.refl _ _, rfl⟩
set_option maxHeartbeats 4000000 in
set_option maxRecDepth 20000 in
theorem hn12_h28 :
    Reg.OpOK Tryd.prog (Reg.opsOf Tryd.f7 12) a0 w0 (hn12R ti B0 TC) (fun _ _ _ _ => True) 28 := by
    refine Reg.op_ok2 (fun af => { dst := some 88, op := Op.binOp BinOp.eql 41 (Operand.tmp 87) (Operand.const (Value.int IntKind.i64 30)) 41, type := 4, pos := "outright.go:35", after := af, guard := some (26, true) }) #[{ on := 27, ground := Ground.data }, { on := 26, ground := Ground.guard }] (by kernel_rfl) [27, 26] (by kernel_rfl) fun af v W hb hd => ?_
    have d26 : v 26 = (Value.bool true) := hd 26 (by decide)
    have d27 : v 27 = (Value.int IntKind.i64 30) := hd 27 (by decide)
    have e87 := (Reg.gfr_eval (ops := (Reg.opsOf Tryd.f7 12)) (a0 := a0) (v := v) (L := [27, 26]) 87 27 (by kernel_rfl) (by rw [hsz]; omega)).trans d27
    have e86 := (Reg.gfr_eval (ops := (Reg.opsOf Tryd.f7 12)) (a0 := a0) (v := v) (L := [27, 26]) 86 26 (by kernel_rfl) (by rw [hsz]; omega)).trans d26
    refine ⟨Reg.wanted_of rfl (by kernel_rfl) e86, ?_⟩
    have eC : ∀ x, (Reg.gfr (Reg.opsOf Tryd.f7 12) a0 v [27, 26]).eval (.const x) = x := fun _ => rfl
    generalize Reg.gfr (Reg.opsOf Tryd.f7 12) a0 v [27, 26] = G at e87 eC ⊢
    generalize hρ : G.eval = ρ at e87 eC
    have hρ' : G.eval = ρ := hρ
    refine Reg.go_run (Value.bool true) W ?_ ?_
    · rw [hρ']; simp [execOp, go_sem, e87, eC]
    · exact ⟨Below.refl _ _, rfl⟩
set_option maxHeartbeats 4000000 in
set_option maxRecDepth 20000 in
theorem hn12_h29 :
    Reg.OpOK Tryd.prog (Reg.opsOf Tryd.f7 12) a0 w0 (hn12R ti B0 TC) (fun _ _ _ _ => True) 29 := by
    refine Reg.op_ok2 (fun af => { dst := some 89, op := Op.pick (Operand.tmp 86) (Operand.tmp 88) (Operand.const (Value.bool false)), type := 4, pos := "outright.go:35", after := af, guard := none }) #[{ on := 26, ground := Ground.data }, { on := 28, ground := Ground.data }] (by kernel_rfl) [26, 28] (by kernel_rfl) fun af v W hb hd => ?_
    have d26 : v 26 = (Value.bool true) := hd 26 (by decide)
    have d28 : v 28 = (Value.bool true) := hd 28 (by decide)
    have e86 := (Reg.gfr_eval (ops := (Reg.opsOf Tryd.f7 12)) (a0 := a0) (v := v) (L := [26, 28]) 86 26 (by kernel_rfl) (by rw [hsz]; omega)).trans d26
    have e88 := (Reg.gfr_eval (ops := (Reg.opsOf Tryd.f7 12)) (a0 := a0) (v := v) (L := [26, 28]) 88 28 (by kernel_rfl) (by rw [hsz]; omega)).trans d28
    refine ⟨Reg.wanted_none rfl, ?_⟩
    have eC : ∀ x, (Reg.gfr (Reg.opsOf Tryd.f7 12) a0 v [26, 28]).eval (.const x) = x := fun _ => rfl
    generalize Reg.gfr (Reg.opsOf Tryd.f7 12) a0 v [26, 28] = G at e86 e88 eC ⊢
    generalize hρ : G.eval = ρ at e86 e88 eC
    have hρ' : G.eval = ρ := hρ
    refine Reg.go_run (Value.bool true) W ?_ ?_
    · rw [hρ']; simp [execOp, go_sem, e86, e88, eC]
    · exact ⟨Below.refl _ _, rfl⟩
set_option maxHeartbeats 4000000 in
set_option maxRecDepth 20000 in
theorem hn12_h30 :
    RegC.OpOK Tryd.prog (Reg.opsOf Tryd.f7 12) a0 w0 (fun i_ => if i_ = 4 then some 5 else none) (hn12R ti B0 TC) (fun _ _ _ _ => True) 30 := by
    refine RegC.op_ok2 (fun af => { dst := some 19, op := Op.assign (Operand.tmp 89), type := 4, pos := "outright.go:35", after := af, guard := none }) #[{ on := 29, ground := Ground.data }, { on := 26, ground := Ground.chain }, { on := 0, ground := Ground.phase }, { on := 1, ground := Ground.phase }, { on := 2, ground := Ground.phase }, { on := 3, ground := Ground.phase }, { on := 4, ground := Ground.phase }, { on := 5, ground := Ground.phase }, { on := 6, ground := Ground.phase }, { on := 7, ground := Ground.phase }, { on := 8, ground := Ground.phase }, { on := 9, ground := Ground.phase }, { on := 10, ground := Ground.phase }, { on := 11, ground := Ground.phase }, { on := 12, ground := Ground.phase }, { on := 13, ground := Ground.phase }, { on := 14, ground := Ground.phase }, { on := 15, ground := Ground.phase }, { on := 16, ground := Ground.phase }, { on := 17, ground := Ground.phase }, { on := 18, ground := Ground.phase }, { on := 19, ground := Ground.phase }, { on := 20, ground := Ground.phase }, { on := 21, ground := Ground.phase }, { on := 22, ground := Ground.phase }, { on := 23, ground := Ground.phase }, { on := 24, ground := Ground.phase }, { on := 25, ground := Ground.phase }, { on := 26, ground := Ground.phase }, { on := 27, ground := Ground.phase }, { on := 28, ground := Ground.phase }, { on := 29, ground := Ground.phase }] (by kernel_rfl) [29, 26, 0, 1, 2, 3, 4, 5, 6, 7, 8, 9, 10, 11, 12, 13, 14, 15, 16, 17, 18, 19, 20, 21, 22, 23, 24, 25, 26, 27, 28, 29] (by kernel_rfl) fun af v W hb hd => ?_
    have d29 : v 29 = (Value.bool true) := hd 29 (by decide) (by decide)
    have e89 := (Reg.gfr_eval (ops := (Reg.opsOf Tryd.f7 12)) (a0 := a0) (v := v) (L := [29, 26, 0, 1, 2, 3, 4, 5, 6, 7, 8, 9, 10, 11, 12, 13, 14, 15, 16, 17, 18, 19, 20, 21, 22, 23, 24, 25, 26, 27, 28, 29]) 89 29 (by kernel_rfl) (by rw [hsz]; omega)).trans d29
    refine ⟨Reg.wanted_none rfl, ?_⟩
    generalize Reg.gfr (Reg.opsOf Tryd.f7 12) a0 v [29, 26, 0, 1, 2, 3, 4, 5, 6, 7, 8, 9, 10, 11, 12, 13, 14, 15, 16, 17, 18, 19, 20, 21, 22, 23, 24, 25, 26, 27, 28, 29] = G at e89 ⊢
    generalize hρ : G.eval = ρ at e89
    have hρ' : G.eval = ρ := hρ
    refine Reg.go_run (Value.bool true) W (by rw [hρ']; simp [execOp, go_sem, e89]) ⟨hb, rfl, ?_⟩
    refine fun j_ x_ hj_ hg_ hx_ _ => ?_
    match j_, hj_, hg_, hx_ with
    | 0, _, _, hx_ => exact ⟨hx_, trivial, trivial⟩
    | 1, _, _, hx_ => exact ⟨hx_, trivial, trivial⟩
    | 2, _, _, hx_ => exact ⟨hx_, trivial, trivial⟩
    | 3, _, _, hx_ => exact ⟨hx_, trivial, trivial⟩
    | 4, _, _, hx_ => exact ⟨hx_, trivial, trivial⟩
    | 5, _, _, hx_ => exact ⟨hx_, trivial, trivial⟩
    | 6, _, _, hx_ => exact ⟨hx_, trivial, trivial⟩
    | 7, _, _, hx_ => exact ⟨hx_, trivial, trivial⟩
    | 8, _, _, hx_ => exact ⟨hx_, trivial, trivial⟩
    | 9, _, _, hx_ => exact ⟨hx_, trivial, trivial⟩
    | 10, _, _, hx_ => exact ⟨hx_, trivial, trivial⟩
    | 11, _, _, hx_ => exact ⟨hx_, trivial, trivial⟩
    | 12, _, _, hx_ => exact ⟨hx_, trivial, trivial⟩
    | 13, _, _, hx_ => exact ⟨hx_, trivial, trivial⟩
    | 14, _, _, hx_ => exact ⟨hx_, trivial, trivial⟩
    | 15, _, _, hx_ => exact ⟨hx_, trivial, trivial⟩
    | 16, _, _, hx_ => exact ⟨hx_, trivial, trivial⟩
    | 17, _, _, hx_ => exact ⟨hx_, trivial, trivial⟩
    | 18, _, _, hx_ => exact ⟨hx_, trivial, trivial⟩
    | 19, _, _, hx_ => exact ⟨hx_, trivial, trivial⟩
    | 20, _, _, hx_ => exact ⟨hx_, trivial, trivial⟩
    | 21, _, _, hx_ => exact ⟨hx_, trivial, trivial⟩
    | 22, _, _, hx_ => exact ⟨hx_, trivial, trivial⟩
    | 23, _, _, hx_ => exact ⟨hx_, trivial, trivial⟩
    | 24, _, _, hx_ => exact ⟨hx_, trivial, trivial⟩
    | 25, _, _, hx_ => exact ⟨hx_, trivial, trivial⟩
    | 26, _, _, hx_ => exact ⟨hx_, trivial, trivial⟩
    | 27, _, _, hx_ => exact ⟨hx_, trivial, trivial⟩
    | 28, _, _, hx_ => exact ⟨hx_, trivial, trivial⟩
    | 29, _, _, hx_ => exact ⟨hx_, trivial, trivial⟩
    | 30, hj_, _, _ => exact absurd rfl hj_
    | (j_ + 31), _, _, _ => exact ⟨trivial, trivial, trivial⟩
end
set_option maxHeartbeats 4000000 in
set_option maxRecDepth 20000 in
theorem hn12 (ti B0 : Nat) (TC : Array Value) (w0 : World) {s0 s1 s4 s6 s8 s10 s12 s14 s15 s16 s17 s18 s19 s20 s21 s22 s23 s24 s25 s26 s27 s28 s29 s30 s31 s32 s33 s34 s35 s36 s37 s38 s39 s40 s41 s42 s43 s44 s45 s46 s47 s48 s49 s50 s51 s52 s53 s54 s55 s56 s57 s58 s59 s60 s61 s62 s63 s64 s65 s66 s67 s68 s69 s70 s71 s72 s73 s74 s75 s76 s77 s78 s79 s80 s81 s82 s83 s84 s85 s86 s87 s88 s89 s90 s91 s92 s93 s94 s95 s96 s97 s98 s99 s100 s101 s102 s103 s104 s105 s106 s107 s108 s109 s110 s111 s112 s113 s114 s115 s116 s117 s118 s119 s120 s121 s122 s123 s124 s125 s126 s127 s128 s129 s130 s131 s132 s133 s134 s135 s136 s137 s138 s139 s140 s141 s142 s143 s144 s145 s146 s147 s148 s149 s150 s151 s152 s153 s154 s155 s156 s157 s158 s159 s160 s161 s162 s163 s164 s165 s166 s167 s168 s169 s170 s171 s172 s173 s174 s175 s176 s177 s178 s179 s180 s181 s182 s183 : Value}
    (hB0 : B0 = w0.heap.size) (hTi : (Tryd.prog.info? 25).map (·.size) = some TC.size)
    (heqv : ∀ W, (Op.equalIn 10000 25 (.agg TC) (.agg TC)).run Tryd.prog W = .ok true W)
    (hof : ∀ W b b2, Below w0.heap.size w0 W → W.heap[b]? = some (.cells #[Value.int IntKind.u8 97, Value.int IntKind.u8 98, Value.int IntKind.u8 99] 5 (3, 4)) → W.heap[b2]? = some (.cells #[Value.slice (some ⟨b, 0, none⟩) 3 3] 22 (0, 0)) → Calls Tryd.prog 11 #[.slice (some ⟨b2, 0, none⟩) 1 1] W fun e w' => e = .returned (.agg TC) ∧ Below W.heap.size W w')
    (M_ti : ∀ W, Below w0.heap.size w0 W → W.heap[ti]? = some (.cells TC 25 (0, 0)))
    {Q : Exit → Act → World → Prop}
    (hend : ∀ (w : World) (r64 r65 r66 : Value), Below w0.heap.size w0 w → Q .normal { tmps := #[s0, s1, (Value.pointer (some ⟨ti, 0, none⟩)), (Value.int IntKind.i64 0), s4, (Value.int IntKind.i64 30), s6, (Value.int IntKind.i64 30), s8, (Value.int IntKind.i64 30), s10, (Value.int IntKind.i64 30), s12, (Value.int IntKind.i64 30), s14, s15, s16, s17, s18, (Value.bool true), s20, s21, s22, s23, s24, s25, s26, s27, s28, s29, s30, s31, s32, s33, s34, s35, s36, s37, s38, s39, s40, s41, s42, s43, s44, s45, s46, s47, s48, s49, s50, s51, s52, s53, s54, s55, s56, s57, s58, s59, (Value.int IntKind.i64 0), (Value.bool true), (Value.bool true), (Value.agg TC), r64, r65, r66, (Value.agg TC), (Value.bool true), (Value.bool true), (Value.bool true), (Value.int IntKind.i64 30), (Value.bool true), (Value.bool true), (Value.bool true), (Value.int IntKind.i64 30), (Value.bool true), (Value.bool true), (Value.bool true), (Value.int IntKind.i64 30), (Value.bool true), (Value.bool true), (Value.bool true), (Value.int IntKind.i64 30), (Value.bool true), (Value.bool true), (Value.bool true), (Value.int IntKind.i64 30), (Value.bool true), (Value.bool true), s90, s91, s92, s93, s94, s95, s96, s97, s98, s99, s100, s101, s102, s103, s104, s105, s106, s107, s108, s109, s110, s111, s112, s113, s114, s115, s116, s117, s118, s119, s120, s121, s122, s123, s124, s125, s126, s127, s128, s129, s130, s131, s132, s133, s134, s135, s136, s137, s138, s139, s140, s141, s142, s143, s144, s145, s146, s147, s148, s149, s150, s151, s152, s153, s154, s155, s156, s157, s158, s159, s160, s161, s162, s163, s164, s165, s166, s167, s168, s169, s170, s171, s172, s173, s174, s175, s176, s177, s178, s179, s180, s181, s182, s183], defers := [] } w) :
    (Code.region 12 (Reg.opsOf Tryd.f7 12) true).wp Tryd.prog Q { tmps := #[s0, s1, (Value.pointer (some ⟨ti, 0, none⟩)), (Value.int IntKind.i64 0), s4, (Value.int IntKind.i64 30), s6, (Value.int IntKind.i64 30), s8, (Value.int IntKind.i64 30), s10, (Value.int IntKind.i64 30), s12, (Value.int IntKind.i64 30), s14, s15, s16, s17, s18, s19, s20, s21, s22, s23, s24, s25, s26, s27, s28, s29, s30, s31, s32, s33, s34, s35, s36, s37, s38, s39, s40, s41, s42, s43, s44, s45, s46, s47, s48, s49, s50, s51, s52, s53, s54, s55, s56, s57, s58, s59, s60, s61, s62, s63, s64, s65, s66, s67, s68, s69, s70, s71, s72, s73, s74, s75, s76, s77, s78, s79, s80, s81, s82, s83, s84, s85, s86, s87, s88, s89, s90, s91, s92, s93, s94, s95, s96, s97, s98, s99, s100, s101, s102, s103, s104, s105, s106, s107, s108, s109, s110, s111, s112, s113, s114, s115, s116, s117, s118, s119, s120, s121, s122, s123, s124, s125, s126, s127, s128, s129, s130, s131, s132, s133, s134, s135, s136, s137, s138, s139, s140, s141, s142, s143, s144, s145, s146, s147, s148, s149, s150, s151, s152, s153, s154, s155, s156, s157, s158, s159, s160, s161, s162, s163, s164, s165, s166, s167, s168, s169, s170, s171, s172, s173, s174, s175, s176, s177, s178, s179, s180, s181, s182, s183], defers := [] } w0 := by
  obtain ⟨a0, ha0⟩ : ∃ a0 : Act, a0 = { tmps := #[s0, s1, (Value.pointer (some ⟨ti, 0, none⟩)), (Value.int IntKind.i64 0), s4, (Value.int IntKind.i64 30), s6, (Value.int IntKind.i64 30), s8, (Value.int IntKind.i64 30), s10, (Value.int IntKind.i64 30), s12, (Value.int IntKind.i64 30), s14, s15, s16, s17, s18, s19, s20, s21, s22, s23, s24, s25, s26, s27, s28, s29, s30, s31, s32, s33, s34, s35, s36, s37, s38, s39, s40, s41, s42, s43, s44, s45, s46, s47, s48, s49, s50, s51, s52, s53, s54, s55, s56, s57, s58, s59, s60, s61, s62, s63, s64, s65, s66, s67, s68, s69, s70, s71, s72, s73, s74, s75, s76, s77, s78, s79, s80, s81, s82, s83, s84, s85, s86, s87, s88, s89, s90, s91, s92, s93, s94, s95, s96, s97, s98, s99, s100, s101, s102, s103, s104, s105, s106, s107, s108, s109, s110, s111, s112, s113, s114, s115, s116, s117, s118, s119, s120, s121, s122, s123, s124, s125, s126, s127, s128, s129, s130, s131, s132, s133, s134, s135, s136, s137, s138, s139, s140, s141, s142, s143, s144, s145, s146, s147, s148, s149, s150, s151, s152, s153, s154, s155, s156, s157, s158, s159, s160, s161, s162, s163, s164, s165, s166, s167, s168, s169, s170, s171, s172, s173, s174, s175, s176, s177, s178, s179, s180, s181, s182, s183], defers := [] } := ⟨_, rfl⟩
  have hfin : ∀ v : Nat → Value, Reg.gfr (Reg.opsOf Tryd.f7 12) a0 v (List.range 31) = { tmps := #[s0, s1, (Value.pointer (some ⟨ti, 0, none⟩)), (Value.int IntKind.i64 0), s4, (Value.int IntKind.i64 30), s6, (Value.int IntKind.i64 30), s8, (Value.int IntKind.i64 30), s10, (Value.int IntKind.i64 30), s12, (Value.int IntKind.i64 30), s14, s15, s16, s17, s18, v 30, s20, s21, s22, s23, s24, s25, s26, s27, s28, s29, s30, s31, s32, s33, s34, s35, s36, s37, s38, s39, s40, s41, s42, s43, s44, s45, s46, s47, s48, s49, s50, s51, s52, s53, s54, s55, s56, s57, s58, s59, v 0, v 1, v 2, v 3, v 4, v 5, v 6, v 7, v 8, v 9, v 10, v 11, v 12, v 13, v 14, v 15, v 16, v 17, v 18, v 19, v 20, v 21, v 22, v 23, v 24, v 25, v 26, v 27, v 28, v 29, s90, s91, s92, s93, s94, s95, s96, s97, s98, s99, s100, s101, s102, s103, s104, s105, s106, s107, s108, s109, s110, s111, s112, s113, s114, s115, s116, s117, s118, s119, s120, s121, s122, s123, s124, s125, s126, s127, s128, s129, s130, s131, s132, s133, s134, s135, s136, s137, s138, s139, s140, s141, s142, s143, s144, s145, s146, s147, s148, s149, s150, s151, s152, s153, s154, s155, s156, s157, s158, s159, s160, s161, s162, s163, s164, s165, s166, s167, s168, s169, s170, s171, s172, s173, s174, s175, s176, s177, s178, s179, s180, s181, s182, s183], defers := [] } := fun v => by rw [ha0]; kernel_rfl
  rw [← ha0]
  have i2 : a0.eval (.tmp 2) = (Value.pointer (some ⟨ti, 0, none⟩)) := by rw [ha0]; rfl
  have i3 : a0.eval (.tmp 3) = (Value.int IntKind.i64 0) := by rw [ha0]; rfl
  have i5 : a0.eval (.tmp 5) = (Value.int IntKind.i64 30) := by rw [ha0]; rfl
  have i7 : a0.eval (.tmp 7) = (Value.int IntKind.i64 30) := by rw [ha0]; rfl
  have i9 : a0.eval (.tmp 9) = (Value.int IntKind.i64 30) := by rw [ha0]; rfl
  have i11 : a0.eval (.tmp 11) = (Value.int IntKind.i64 30) := by rw [ha0]; rfl
  have i13 : a0.eval (.tmp 13) = (Value.int IntKind.i64 30) := by rw [ha0]; rfl
  have hsz : a0.tmps.size = 184 := by rw [ha0]; rfl
  clear ha0
  have hn : (Reg.opsOf Tryd.f7 12).size = 31 := by kernel_rfl
  have h0 := hn12_h0 ti B0 TC w0 a0 hB0 hTi heqv hof M_ti i2 i3 i5 i7 i9 i11 i13 hsz
  have h1 := hn12_h1 ti B0 TC w0 a0 hB0 hTi heqv hof M_ti i2 i3 i5 i7 i9 i11 i13 hsz
  have h2 := hn12_h2 ti B0 TC w0 a0 hB0 hTi heqv hof M_ti i2 i3 i5 i7 i9 i11 i13 hsz
  have h3 := hn12_h3 ti B0 TC w0 a0 hB0 hTi heqv hof M_ti i2 i3 i5 i7 i9 i11 i13 hsz
  have h4 := hn12_h4 ti B0 TC w0 a0 hB0 hTi heqv hof M_ti i2 i3 i5 i7 i9 i11 i13 hsz
  have h5 := hn12_h5 ti B0 TC w0 a0 hB0 hTi heqv hof M_ti i2 i3 i5 i7 i9 i11 i13 hsz
  have h6 := hn12_h6 ti B0 TC w0 a0 hB0 hTi heqv hof M_ti i2 i3 i5 i7 i9 i11 i13 hsz
  have h7 := hn12_h7 ti B0 TC w0 a0 hB0 hTi heqv hof M_ti i2 i3 i5 i7 i9 i11 i13 hsz
  have h8 := hn12_h8 ti B0 TC w0 a0 hB0 hTi heqv hof M_ti i2 i3 i5 i7 i9 i11 i13 hsz
  have h9 := hn12_h9 ti B0 TC w0 a0 hB0 hTi heqv hof M_ti i2 i3 i5 i7 i9 i11 i13 hsz
  have h10 := hn12_h10 ti B0 TC w0 a0 hB0 hTi heqv hof M_ti i2 i3 i5 i7 i9 i11 i13 hsz
  have h11 := hn12_h11 ti B0 TC w0 a0 hB0 hTi heqv hof M_ti i2 i3 i5 i7 i9 i11 i13 hsz
  have h12 := hn12_h12 ti B0 TC w0 a0 hB0 hTi heqv hof M_ti i2 i3 i5 i7 i9 i11 i13 hsz
  have h13 := hn12_h13 ti B0 TC w0 a0 hB0 hTi heqv hof M_ti i2 i3 i5 i7 i9 i11 i13 hsz
  have h14 := hn12_h14 ti B0 TC w0 a0 hB0 hTi heqv hof M_ti i2 i3 i5 i7 i9 i11 i13 hsz
  have h15 := hn12_h15 ti B0 TC w0 a0 hB0 hTi heqv hof M_ti i2 i3 i5 i7 i9 i11 i13 hsz
  have h16 := hn12_h16 ti B0 TC w0 a0 hB0 hTi heqv hof M_ti i2 i3 i5 i7 i9 i11 i13 hsz
  have h17 := hn12_h17 ti B0 TC w0 a0 hB0 hTi heqv hof M_ti i2 i3 i5 i7 i9 i11 i13 hsz
  have h18 := hn12_h18 ti B0 TC w0 a0 hB0 hTi heqv hof M_ti i2 i3 i5 i7 i9 i11 i13 hsz
  have h19 := hn12_h19 ti B0 TC w0 a0 hB0 hTi heqv hof M_ti i2 i3 i5 i7 i9 i11 i13 hsz
  have h20 := hn12_h20 ti B0 TC w0 a0 hB0 hTi heqv hof M_ti i2 i3 i5 i7 i9 i11 i13 hsz
  have h21 := hn12_h21 ti B0 TC w0 a0 hB0 hTi heqv hof M_ti i2 i3 i5 i7 i9 i11 i13 hsz
  have h22 := hn12_h22 ti B0 TC w0 a0 hB0 hTi heqv hof M_ti i2 i3 i5 i7 i9 i11 i13 hsz
  have h23 := hn12_h23 ti B0 TC w0 a0 hB0 hTi heqv hof M_ti i2 i3 i5 i7 i9 i11 i13 hsz
  have h24 := hn12_h24 ti B0 TC w0 a0 hB0 hTi heqv hof M_ti i2 i3 i5 i7 i9 i11 i13 hsz
  have h25 := hn12_h25 ti B0 TC w0 a0 hB0 hTi heqv hof M_ti i2 i3 i5 i7 i9 i11 i13 hsz
  have h26 := hn12_h26 ti B0 TC w0 a0 hB0 hTi heqv hof M_ti i2 i3 i5 i7 i9 i11 i13 hsz
  have h27 := hn12_h27 ti B0 TC w0 a0 hB0 hTi heqv hof M_ti i2 i3 i5 i7 i9 i11 i13 hsz
  have h28 := hn12_h28 ti B0 TC w0 a0 hB0 hTi heqv hof M_ti i2 i3 i5 i7 i9 i11 i13 hsz
  have h29 := hn12_h29 ti B0 TC w0 a0 hB0 hTi heqv hof M_ti i2 i3 i5 i7 i9 i11 i13 hsz
  have h30 := hn12_h30 ti B0 TC w0 a0 hB0 hTi heqv hof M_ti i2 i3 i5 i7 i9 i11 i13 hsz
  refine RegC.region_all (by kernel_rfl) (fun i_ => if i_ = 4 then some 5 else none) (hn12R ti B0 TC) (fun _ _ _ _ => True) (by rw [hn, hsz]; kernel_rfl) (fun i hi => ?_) (fun v w hb hR => ?_)
  · rw [hn] at hi
    match i, List.mem_range.1 hi with
    | 0, _ => exact RegC.of_old (by kernel_rfl) (hn12_stable ti B0 TC) (fun _ _ _ => ⟨trivial, trivial⟩) h0
    | 1, _ => exact RegC.of_old (by kernel_rfl) (hn12_stable ti B0 TC) (fun _ _ _ => ⟨trivial, trivial⟩) h1
    | 2, _ => exact RegC.of_old (by kernel_rfl) (hn12_stable ti B0 TC) (fun _ _ _ => ⟨trivial, trivial⟩) h2
    | 3, _ => exact RegC.of_old (by kernel_rfl) (hn12_stable ti B0 TC) (fun _ _ _ => ⟨trivial, trivial⟩) h3
    | 4, _ => exact RegC.of_old (by kernel_rfl) (hn12_stable ti B0 TC) (fun _ _ _ => ⟨trivial, trivial⟩) h4
    | 5, _ => exact h5
    | 6, _ => exact RegC.of_old (by kernel_rfl) (hn12_stable ti B0 TC) (fun _ _ _ => ⟨trivial, trivial⟩) h6
    | 7, _ => exact RegC.of_old (by kernel_rfl) (hn12_stable ti B0 TC) (fun _ _ _ => ⟨trivial, trivial⟩) h7
    | 8, _ => exact RegC.of_old (by kernel_rfl) (hn12_stable ti B0 TC) (fun _ _ _ => ⟨trivial, trivial⟩) h8
    | 9, _ => exact RegC.of_old (by kernel_rfl) (hn12_stable ti B0 TC) (fun _ _ _ => ⟨trivial, trivial⟩) h9
    | 10, _ => exact RegC.of_old (by kernel_rfl) (hn12_stable ti B0 TC) (fun _ _ _ => ⟨trivial, trivial⟩) h10
    | 11, _ => exact RegC.of_old (by kernel_rfl) (hn12_stable ti B0 TC) (fun _ _ _ => ⟨trivial, trivial⟩) h11
    | 12, _ => exact RegC.of_old (by kernel_rfl) (hn12_stable ti B0 TC) (fun _ _ _ => ⟨trivial, trivial⟩) h12
    | 13, _ => exact RegC.of_old (by kernel_rfl) (hn12_stable ti B0 TC) (fun _ _ _ => ⟨trivial, trivial⟩) h13
    | 14, _ => exact RegC.of_old (by kernel_rfl) (hn12_stable ti B0 TC) (fun _ _ _ => ⟨trivial, trivial⟩) h14
    | 15, _ => exact RegC.of_old (by kernel_rfl) (hn12_stable ti B0 TC) (fun _ _ _ => ⟨trivial, trivial⟩) h15
    | 16, _ => exact RegC.of_old (by kernel_rfl) (hn12_stable ti B0 TC) (fun _ _ _ => ⟨trivial, trivial⟩) h16
    | 17, _ => exact RegC.of_old (by kernel_rfl) (hn12_stable ti B0 TC) (fun _ _ _ => ⟨trivial, trivial⟩) h17
    | 18, _ => exact RegC.of_old (by kernel_rfl) (hn12_stable ti B0 TC) (fun _ _ _ => ⟨trivial, trivial⟩) h18
    | 19, _ => exact RegC.of_old (by kernel_rfl) (hn12_stable ti B0 TC) (fun _ _ _ => ⟨trivial, trivial⟩) h19
    | 20, _ => exact RegC.of_old (by kernel_rfl) (hn12_stable ti B0 TC) (fun _ _ _ => ⟨trivial, trivial⟩) h20
    | 21, _ => exact RegC.of_old (by kernel_rfl) (hn12_stable ti B0 TC) (fun _ _ _ => ⟨trivial, trivial⟩) h21
    | 22, _ => exact RegC.of_old (by kernel_rfl) (hn12_stable ti B0 TC) (fun _ _ _ => ⟨trivial, trivial⟩) h22
    | 23, _ => exact RegC.of_old (by kernel_rfl) (hn12_stable ti B0 TC) (fun _ _ _ => ⟨trivial, trivial⟩) h23
    | 24, _ => exact RegC.of_old (by kernel_rfl) (hn12_stable ti B0 TC) (fun _ _ _ => ⟨trivial, trivial⟩) h24
    | 25, _ => exact RegC.of_old (by kernel_rfl) (hn12_stable ti B0 TC) (fun _ _ _ => ⟨trivial, trivial⟩) h25
    | 26, _ => exact RegC.of_old (by kernel_rfl) (hn12_stable ti B0 TC) (fun _ _ _ => ⟨trivial, trivial⟩) h26
    | 27, _ => exact RegC.of_old (by kernel_rfl) (hn12_stable ti B0 TC) (fun _ _ _ => ⟨trivial, trivial⟩) h27
    | 28, _ => exact RegC.of_old (by kernel_rfl) (hn12_stable ti B0 TC) (fun _ _ _ => ⟨trivial, trivial⟩) h28
    | 29, _ => exact RegC.of_old (by kernel_rfl) (hn12_stable ti B0 TC) (fun _ _ _ => ⟨trivial, trivial⟩) h29
    | 30, _ => exact h30
    | (_ + 31), h => omega
  · rw [hn] at hR ⊢
    have v0 : v 0 = (Value.int IntKind.i64 0) := hR 0 (by decide) rfl
    have v1 : v 1 = (Value.bool true) := hR 1 (by decide) rfl
    have v2 : v 2 = (Value.bool true) := hR 2 (by decide) rfl
    have v3 : v 3 = (Value.agg TC) := hR 3 (by decide) rfl
    have v7 : v 7 = (Value.agg TC) := hR 7 (by decide) rfl
    have v8 : v 8 = (Value.bool true) := hR 8 (by decide) rfl
    have v9 : v 9 = (Value.bool true) := hR 9 (by decide) rfl
    have v10 : v 10 = (Value.bool true) := hR 10 (by decide) rfl
    have v11 : v 11 = (Value.int IntKind.i64 30) := hR 11 (by decide) rfl
    have v12 : v 12 = (Value.bool true) := hR 12 (by decide) rfl
    have v13 : v 13 = (Value.bool true) := hR 13 (by decide) rfl
    have v14 : v 14 = (Value.bool true) := hR 14 (by decide) rfl
    have v15 : v 15 = (Value.int IntKind.i64 30) := hR 15 (by decide) rfl
    have v16 : v 16 = (Value.bool true) := hR 16 (by decide) rfl
    have v17 : v 17 = (Value.bool true) := hR 17 (by decide) rfl
    have v18 : v 18 = (Value.bool true) := hR 18 (by decide) rfl
    have v19 : v 19 = (Value.int IntKind.i64 30) := hR 19 (by decide) rfl
    have v20 : v 20 = (Value.bool true) := hR 20 (by decide) rfl
    have v21 : v 21 = (Value.bool true) := hR 21 (by decide) rfl
    have v22 : v 22 = (Value.bool true) := hR 22 (by decide) rfl
    have v23 : v 23 = (Value.int IntKind.i64 30) := hR 23 (by decide) rfl
    have v24 : v 24 = (Value.bool true) := hR 24 (by decide) rfl
    have v25 : v 25 = (Value.bool true) := hR 25 (by decide) rfl
    have v26 : v 26 = (Value.bool true) := hR 26 (by decide) rfl
    have v27 : v 27 = (Value.int IntKind.i64 30) := hR 27 (by decide) rfl
    have v28 : v 28 = (Value.bool true) := hR 28 (by decide) rfl
    have v29 : v 29 = (Value.bool true) := hR 29 (by decide) rfl
    have v30 : v 30 = (Value.bool true) := hR 30 (by decide) rfl
    rw [hfin v, v0, v1, v2, v3, v7, v8, v9, v10, v11, v12, v13, v14, v15, v16, v17, v18, v19, v20, v21, v22, v23, v24, v25, v26, v27, v28, v29, v30]
    exact hend w (v 4) (v 5) (v 6) hb 
end Go.Proofs.YtcdnbidenaljlaaDoor
