/- Regions that draw their order: their obligations (printed by regen2.py). -/
import Derived.Test.YtfifbjlmbdgmjaaVecF
import Derived.Test.YtfifbjlmbdgmjaaRegS
namespace Go.Proofs.Ytfifbjlmbdgmjaa
open Go.RowKit
def foldmaxGR (gp gq k xn yn zn : Nat) : Nat → Value → World → Prop
  | 0 => fun x_ _ => x_ = (Value.int IntKind.i64 (k : Int))
  | 1 => fun x_ _ => x_ = (Value.func (Fn.func 36) #[] #[])
  | 2 => fun x_ _ => x_ = (Value.int IntKind.i64 (k : Int))
  | 3 => fun x_ _ => x_ = (Value.pointer (some ⟨gp, k, none⟩))
  | 4 => fun x_ _ => x_ = (Value.int IntKind.u32 (xn : Int))
  | 5 => fun x_ _ => x_ = (Value.int IntKind.i64 (k : Int))
  | 6 => fun x_ _ => x_ = (Value.pointer (some ⟨gq, k, none⟩))
  | 7 => fun x_ _ => x_ = (Value.int IntKind.u32 (yn : Int))
  | 8 => fun x_ _ => x_ = (Value.int IntKind.u32 (zn : Int))
  | 9 => fun x_ _ => x_ = (Value.pointer (some ⟨gp, k, none⟩))
  | _ => fun _ _ => True
theorem foldmaxG_stable (gp gq k xn yn zn : Nat) : ∀ i_ u_ w_ w_', (foldmaxGR gp gq k xn yn zn) i_ u_ w_ → Below w_.heap.size w_ w_' → (foldmaxGR gp gq k xn yn zn) i_ u_ w_' := fun i_ u_ w_ w_' h_ hb_ => by
  match i_, h_ with
  | 0, h_ => exact h_
  | 1, h_ => exact h_
  | 2, h_ => exact h_
  | 3, h_ => exact h_
  | 4, h_ => exact h_
  | 5, h_ => exact h_
  | 6, h_ => exact h_
  | 7, h_ => exact h_
  | 8, h_ => exact h_
  | 9, h_ => exact h_
  | 10, h_ => exact h_
  | (_ + 11), _ => trivial
set_option maxHeartbeats 4000000 in
set_option maxRecDepth 20000 in
theorem foldmaxG (gp gq k xn yn zn : Nat) (w0 : World) {s1 s2 s3 s4 s6 s9 s10 s11 s12 s13 s14 s15 s16 s17 s18 s19 s20 s21 s22 s23 s24 s25 s26 s27 s28 s29 s30 s31 s32 s33 s34 : Value}
    (k0 : (0 : Int) ≤ k) (k1 : (k : Int) < 16) (fz : max xn yn = zn)
    (CP : ∀ W, Below w0.heap.size w0 W → W.cell? ⟨gp, k, none⟩ = some (Value.int IntKind.u32 (xn : Int)))
    (CQ : ∀ W, Below w0.heap.size w0 W → W.cell? ⟨gq, k, none⟩ = some (Value.int IntKind.u32 (yn : Int)))
    {Q : Exit → Act → World → Prop}
    (FRO : ∀ W, Below w0.heap.size w0 W → W.frozen? ⟨gp, k, none⟩ = false)
    (hend : ∀ (w : World), Below w0.heap.size w0 w → Q .normal { tmps := #[(Value.func (Fn.func 36) #[] #[]), s1, s2, s3, s4, (Value.pointer (some ⟨gp, 0, none⟩)), s6, (Value.pointer (some ⟨gq, 0, none⟩)), (Value.int IntKind.i64 (k : Int)), s9, s10, s11, s12, s13, s14, s15, s16, s17, s18, s19, s20, s21, (Value.int IntKind.i64 (k : Int)), (Value.func (Fn.func 36) #[] #[]), (Value.int IntKind.i64 (k : Int)), (Value.pointer (some ⟨gp, k, none⟩)), (Value.int IntKind.u32 (xn : Int)), (Value.int IntKind.i64 (k : Int)), (Value.pointer (some ⟨gq, k, none⟩)), (Value.int IntKind.u32 (yn : Int)), (Value.int IntKind.u32 (zn : Int)), (Value.pointer (some ⟨gp, k, none⟩)), s32, s33, s34], defers := [] } (w.setCell ⟨gp, k, none⟩ (Value.int IntKind.u32 (zn : Int)))) :
    (Code.region 10 (Reg.opsOf Try.f35 10) true).wp Try.prog Q { tmps := #[(Value.func (Fn.func 36) #[] #[]), s1, s2, s3, s4, (Value.pointer (some ⟨gp, 0, none⟩)), s6, (Value.pointer (some ⟨gq, 0, none⟩)), (Value.int IntKind.i64 (k : Int)), s9, s10, s11, s12, s13, s14, s15, s16, s17, s18, s19, s20, s21, s22, s23, s24, s25, s26, s27, s28, s29, s30, s31, s32, s33, s34], defers := [] } w0 := by
  obtain ⟨a0, ha0⟩ : ∃ a0 : Act, a0 = { tmps := #[(Value.func (Fn.func 36) #[] #[]), s1, s2, s3, s4, (Value.pointer (some ⟨gp, 0, none⟩)), s6, (Value.pointer (some ⟨gq, 0, none⟩)), (Value.int IntKind.i64 (k : Int)), s9, s10, s11, s12, s13, s14, s15, s16, s17, s18, s19, s20, s21, s22, s23, s24, s25, s26, s27, s28, s29, s30, s31, s32, s33, s34], defers := [] } := ⟨_, rfl⟩
  have hfin : ∀ v : Nat → Value, Reg.gfr (Reg.opsOf Try.f35 10) a0 v [0, 1, 2, 3, 4, 5, 6, 7, 8, 9] = { tmps := #[(Value.func (Fn.func 36) #[] #[]), s1, s2, s3, s4, (Value.pointer (some ⟨gp, 0, none⟩)), s6, (Value.pointer (some ⟨gq, 0, none⟩)), (Value.int IntKind.i64 (k : Int)), s9, s10, s11, s12, s13, s14, s15, s16, s17, s18, s19, s20, s21, v 0, v 1, v 2, v 3, v 4, v 5, v 6, v 7, v 8, v 9, s32, s33, s34], defers := [] } := fun v => by rw [ha0]; kernel_rfl
  rw [← ha0]
  have i0 : a0.eval (.tmp 0) = (Value.func (Fn.func 36) #[] #[]) := by rw [ha0]; rfl
  have i5 : a0.eval (.tmp 5) = (Value.pointer (some ⟨gp, 0, none⟩)) := by rw [ha0]; rfl
  have i7 : a0.eval (.tmp 7) = (Value.pointer (some ⟨gq, 0, none⟩)) := by rw [ha0]; rfl
  have i8 : a0.eval (.tmp 8) = (Value.int IntKind.i64 (k : Int)) := by rw [ha0]; rfl
  have hsz : a0.tmps.size = 35 := by rw [ha0]; rfl
  clear ha0
  have hn : (Reg.opsOf Try.f35 10).size = 11 := by kernel_rfl
  have h0 : Reg.OpOK Try.prog (Reg.opsOf Try.f35 10) a0 w0 (foldmaxGR gp gq k xn yn zn) (fun _ _ _ _ => True) 0 := by
    refine Reg.op_ok2 (fun af => { dst := some 22, op := Op.move (Operand.tmp 8), type := 3, pos := "vector.go:23", after := af, guard := none }) #[] (by kernel_rfl) [] (by kernel_rfl) fun af v W hb hd => ?_
    have e8 := (Reg.gfr_eval0 (ops := (Reg.opsOf Try.f35 10)) (a0 := a0) (v := v) (L := []) 8 (by kernel_rfl)).trans i8
    refine ⟨Reg.wanted_none rfl, ?_⟩
    generalize Reg.gfr (Reg.opsOf Try.f35 10) a0 v [] = G at e8 ⊢
    generalize hρ : G.eval = ρ at e8
    have hρ' : G.eval = ρ := hρ
    refine Reg.go_run (Value.int IntKind.i64 (k : Int)) W ?_ ?_
    · rw [hρ']; simp [execOp, go_sem, e8]
    · exact ⟨Below.refl _ _, rfl⟩
  have h1 : Reg.OpOK Try.prog (Reg.opsOf Try.f35 10) a0 w0 (foldmaxGR gp gq k xn yn zn) (fun _ _ _ _ => True) 1 := by
    refine Reg.op_ok2 (fun af => { dst := some 23, op := Op.move (Operand.tmp 0), type := 63, pos := "vector.go:23", after := af, guard := none }) #[] (by kernel_rfl) [] (by kernel_rfl) fun af v W hb hd => ?_
    have e0 := (Reg.gfr_eval0 (ops := (Reg.opsOf Try.f35 10)) (a0 := a0) (v := v) (L := []) 0 (by kernel_rfl)).trans i0
    refine ⟨Reg.wanted_none rfl, ?_⟩
    generalize Reg.gfr (Reg.opsOf Try.f35 10) a0 v [] = G at e0 ⊢
    generalize hρ : G.eval = ρ at e0
    have hρ' : G.eval = ρ := hρ
    refine Reg.go_run (Value.func (Fn.func 36) #[] #[]) W ?_ ?_
    · rw [hρ']; simp [execOp, go_sem, e0]
    · exact ⟨Below.refl _ _, rfl⟩
  have h2 : Reg.OpOK Try.prog (Reg.opsOf Try.f35 10) a0 w0 (foldmaxGR gp gq k xn yn zn) (fun _ _ _ _ => True) 2 := by
    refine Reg.op_ok2 (fun af => { dst := some 24, op := Op.move (Operand.tmp 8), type := 3, pos := "vector.go:23", after := af, guard := none }) #[] (by kernel_rfl) [] (by kernel_rfl) fun af v W hb hd => ?_
    have e8 := (Reg.gfr_eval0 (ops := (Reg.opsOf Try.f35 10)) (a0 := a0) (v := v) (L := []) 8 (by kernel_rfl)).trans i8
    refine ⟨Reg.wanted_none rfl, ?_⟩
    generalize Reg.gfr (Reg.opsOf Try.f35 10) a0 v [] = G at e8 ⊢
    generalize hρ : G.eval = ρ at e8
    have hρ' : G.eval = ρ := hρ
    refine Reg.go_run (Value.int IntKind.i64 (k : Int)) W ?_ ?_
    · rw [hρ']; simp [execOp, go_sem, e8]
    · exact ⟨Below.refl _ _, rfl⟩
  have h3 : Reg.OpOK Try.prog (Reg.opsOf Try.f35 10) a0 w0 (foldmaxGR gp gq k xn yn zn) (fun _ _ _ _ => True) 3 := by
    refine Reg.op_ok2 (fun af => { dst := some 25, op := Op.indexAddr 24 (Operand.tmp 5) (Operand.tmp 24), type := 0, pos := "vector.go:23", after := af, guard := none }) #[{ on := 2, ground := Ground.data }] (by kernel_rfl) [2] (by kernel_rfl) fun af v W hb hd => ?_
    have d2 : v 2 = (Value.int IntKind.i64 (k : Int)) := hd 2 (by decide)
    have e5 := (Reg.gfr_eval0 (ops := (Reg.opsOf Try.f35 10)) (a0 := a0) (v := v) (L := [2]) 5 (by kernel_rfl)).trans i5
    have e24 := (Reg.gfr_eval (ops := (Reg.opsOf Try.f35 10)) (a0 := a0) (v := v) (L := [2]) 24 2 (by kernel_rfl) (by rw [hsz]; omega)).trans d2
    refine ⟨Reg.wanted_none rfl, ?_⟩
    generalize Reg.gfr (Reg.opsOf Try.f35 10) a0 v [2] = G at e5 e24 ⊢
    generalize hρ : G.eval = ρ at e5 e24
    have hρ' : G.eval = ρ := hρ
    refine Reg.go_run (Value.pointer (some ⟨gp, k, none⟩)) W ?_ ?_
    · rw [hρ']; simp [execOp, go_sem, e5, e24, k0, k1]
    · exact ⟨Below.refl _ _, rfl⟩
  have h4 : Reg.OpOK Try.prog (Reg.opsOf Try.f35 10) a0 w0 (foldmaxGR gp gq k xn yn zn) (fun _ _ _ _ => True) 4 := by
    refine Reg.op_ok2 (fun af => { dst := some 26, op := Op.load 22 (Operand.tmp 25), type := 22, pos := "vector.go:23", after := af, guard := none }) #[{ on := 3, ground := Ground.data }] (by kernel_rfl) [3] (by kernel_rfl) fun af v W hb hd => ?_
    have d3 : v 3 = (Value.pointer (some ⟨gp, k, none⟩)) := hd 3 (by decide)
    have e25 := (Reg.gfr_eval (ops := (Reg.opsOf Try.f35 10)) (a0 := a0) (v := v) (L := [3]) 25 3 (by kernel_rfl) (by rw [hsz]; omega)).trans d3
    refine ⟨Reg.wanted_none rfl, ?_⟩
    generalize Reg.gfr (Reg.opsOf Try.f35 10) a0 v [3] = G at e25 ⊢
    generalize hρ : G.eval = ρ at e25
    have hρ' : G.eval = ρ := hρ
    refine Reg.go_run (Value.int IntKind.u32 (xn : Int)) W ?_ ?_
    · rw [hρ']; simp [execOp, go_sem, e25, CP W hb]
    · exact ⟨Below.refl _ _, rfl⟩
  have h5 : Reg.OpOK Try.prog (Reg.opsOf Try.f35 10) a0 w0 (foldmaxGR gp gq k xn yn zn) (fun _ _ _ _ => True) 5 := by
    refine Reg.op_ok2 (fun af => { dst := some 27, op := Op.move (Operand.tmp 8), type := 3, pos := "vector.go:23", after := af, guard := none }) #[] (by kernel_rfl) [] (by kernel_rfl) fun af v W hb hd => ?_
    have e8 := (Reg.gfr_eval0 (ops := (Reg.opsOf Try.f35 10)) (a0 := a0) (v := v) (L := []) 8 (by kernel_rfl)).trans i8
    refine ⟨Reg.wanted_none rfl, ?_⟩
    generalize Reg.gfr (Reg.opsOf Try.f35 10) a0 v [] = G at e8 ⊢
    generalize hρ : G.eval = ρ at e8
    have hρ' : G.eval = ρ := hρ
    refine Reg.go_run (Value.int IntKind.i64 (k : Int)) W ?_ ?_
    · rw [hρ']; simp [execOp, go_sem, e8]
    · exact ⟨Below.refl _ _, rfl⟩
  have h6 : Reg.OpOK Try.prog (Reg.opsOf Try.f35 10) a0 w0 (foldmaxGR gp gq k xn yn zn) (fun _ _ _ _ => True) 6 := by
    refine Reg.op_ok2 (fun af => { dst := some 28, op := Op.indexAddr 24 (Operand.tmp 7) (Operand.tmp 27), type := 0, pos := "vector.go:23", after := af, guard := none }) #[{ on := 5, ground := Ground.data }] (by kernel_rfl) [5] (by kernel_rfl) fun af v W hb hd => ?_
    have d5 : v 5 = (Value.int IntKind.i64 (k : Int)) := hd 5 (by decide)
    have e7 := (Reg.gfr_eval0 (ops := (Reg.opsOf Try.f35 10)) (a0 := a0) (v := v) (L := [5]) 7 (by kernel_rfl)).trans i7
    have e27 := (Reg.gfr_eval (ops := (Reg.opsOf Try.f35 10)) (a0 := a0) (v := v) (L := [5]) 27 5 (by kernel_rfl) (by rw [hsz]; omega)).trans d5
    refine ⟨Reg.wanted_none rfl, ?_⟩
    generalize Reg.gfr (Reg.opsOf Try.f35 10) a0 v [5] = G at e7 e27 ⊢
    generalize hρ : G.eval = ρ at e7 e27
    have hρ' : G.eval = ρ := hρ
    refine Reg.go_run (Value.pointer (some ⟨gq, k, none⟩)) W ?_ ?_
    · rw [hρ']; simp [execOp, go_sem, e7, e27, k0, k1]
    · exact ⟨Below.refl _ _, rfl⟩
  have h7 : Reg.OpOK Try.prog (Reg.opsOf Try.f35 10) a0 w0 (foldmaxGR gp gq k xn yn zn) (fun _ _ _ _ => True) 7 := by
    refine Reg.op_ok2 (fun af => { dst := some 29, op := Op.load 22 (Operand.tmp 28), type := 22, pos := "vector.go:23", after := af, guard := none }) #[{ on := 6, ground := Ground.data }] (by kernel_rfl) [6] (by kernel_rfl) fun af v W hb hd => ?_
    have d6 : v 6 = (Value.pointer (some ⟨gq, k, none⟩)) := hd 6 (by decide)
    have e28 := (Reg.gfr_eval (ops := (Reg.opsOf Try.f35 10)) (a0 := a0) (v := v) (L := [6]) 28 6 (by kernel_rfl) (by rw [hsz]; omega)).trans d6
    refine ⟨Reg.wanted_none rfl, ?_⟩
    generalize Reg.gfr (Reg.opsOf Try.f35 10) a0 v [6] = G at e28 ⊢
    generalize hρ : G.eval = ρ at e28
    have hρ' : G.eval = ρ := hρ
    refine Reg.go_run (Value.int IntKind.u32 (yn : Int)) W ?_ ?_
    · rw [hρ']; simp [execOp, go_sem, e28, CQ W hb]
    · exact ⟨Below.refl _ _, rfl⟩
  have h8 : Reg.OpOK Try.prog (Reg.opsOf Try.f35 10) a0 w0 (foldmaxGR gp gq k xn yn zn) (fun _ _ _ _ => True) 8 := by
    refine Reg.op_ok2 (fun af => { dst := some 30, op := Op.call { callee := Callee.value (Operand.tmp 23), args := #[Operand.tmp 26, Operand.tmp 29], argTypes := #[22, 22] }, type := 22, pos := "vector.go:23", after := af, guard := none }) #[{ on := 1, ground := Ground.data }, { on := 4, ground := Ground.data }, { on := 7, ground := Ground.data }] (by kernel_rfl) [1, 4, 7] (by kernel_rfl) fun af v W hb hd => ?_
    have d1 : v 1 = (Value.func (Fn.func 36) #[] #[]) := hd 1 (by decide)
    have d4 : v 4 = (Value.int IntKind.u32 (xn : Int)) := hd 4 (by decide)
    have d7 : v 7 = (Value.int IntKind.u32 (yn : Int)) := hd 7 (by decide)
    have e23 := (Reg.gfr_eval (ops := (Reg.opsOf Try.f35 10)) (a0 := a0) (v := v) (L := [1, 4, 7]) 23 1 (by kernel_rfl) (by rw [hsz]; omega)).trans d1
    have e26 := (Reg.gfr_eval (ops := (Reg.opsOf Try.f35 10)) (a0 := a0) (v := v) (L := [1, 4, 7]) 26 4 (by kernel_rfl) (by rw [hsz]; omega)).trans d4
    have e29 := (Reg.gfr_eval (ops := (Reg.opsOf Try.f35 10)) (a0 := a0) (v := v) (L := [1, 4, 7]) 29 7 (by kernel_rfl) (by rw [hsz]; omega)).trans d7
    refine ⟨Reg.wanted_none rfl, ?_⟩
    generalize Reg.gfr (Reg.opsOf Try.f35 10) a0 v [1, 4, 7] = G at e23 e26 e29 ⊢
    generalize hρ : G.eval = ρ at e23 e26 e29
    have hρ' : G.eval = ρ := hρ
    refine Reg.go_call 36 #[(Value.int IntKind.u32 (xn : Int)), (Value.int IntKind.u32 (yn : Int))] (by rw [hρ']; simp [execOp, go_sem, e23, e26, e29]) ((max_any xn yn W).mono fun e w' he => ?_)
    obtain ⟨rfl, rfl⟩ := he
    exact ⟨_, rfl, Below.refl _ _, (show _ = _ from by rw [fz])⟩
  have h9 : Reg.OpOK Try.prog (Reg.opsOf Try.f35 10) a0 w0 (foldmaxGR gp gq k xn yn zn) (fun _ _ _ _ => True) 9 := by
    refine Reg.op_ok2 (fun af => { dst := some 31, op := Op.indexAddr 24 (Operand.tmp 5) (Operand.tmp 22), type := 0, pos := "vector.go:23", after := af, guard := none }) #[{ on := 0, ground := Ground.data }, { on := 0, ground := Ground.phase }, { on := 1, ground := Ground.phase }, { on := 2, ground := Ground.phase }, { on := 3, ground := Ground.phase }, { on := 4, ground := Ground.phase }, { on := 5, ground := Ground.phase }, { on := 6, ground := Ground.phase }, { on := 7, ground := Ground.phase }, { on := 8, ground := Ground.phase }] (by kernel_rfl) [0, 0, 1, 2, 3, 4, 5, 6, 7, 8] (by kernel_rfl) fun af v W hb hd => ?_
    have d0 : v 0 = (Value.int IntKind.i64 (k : Int)) := hd 0 (by decide)
    have e5 := (Reg.gfr_eval0 (ops := (Reg.opsOf Try.f35 10)) (a0 := a0) (v := v) (L := [0, 0, 1, 2, 3, 4, 5, 6, 7, 8]) 5 (by kernel_rfl)).trans i5
    have e22 := (Reg.gfr_eval (ops := (Reg.opsOf Try.f35 10)) (a0 := a0) (v := v) (L := [0, 0, 1, 2, 3, 4, 5, 6, 7, 8]) 22 0 (by kernel_rfl) (by rw [hsz]; omega)).trans d0
    refine ⟨Reg.wanted_none rfl, ?_⟩
    generalize Reg.gfr (Reg.opsOf Try.f35 10) a0 v [0, 0, 1, 2, 3, 4, 5, 6, 7, 8] = G at e5 e22 ⊢
    generalize hρ : G.eval = ρ at e5 e22
    have hρ' : G.eval = ρ := hρ
    refine Reg.go_run (Value.pointer (some ⟨gp, k, none⟩)) W ?_ ?_
    · rw [hρ']; simp [execOp, go_sem, e5, e22, k0, k1]
    · exact ⟨Below.refl _ _, rfl⟩
  refine Reg.region_rel (by kernel_rfl) [0, 1, 2, 3, 4, 5, 6, 7, 8, 9] (foldmaxGR gp gq k xn yn zn) (fun _ _ _ _ => True) (by rw [hsz]; kernel_rfl) (foldmaxG_stable gp gq k xn yn zn) (fun i hi => ?_) (fun v w hb hR hD fuel hf => ?_)
  · simp only [List.mem_cons, List.not_mem_nil, or_false] at hi
    rcases hi with rfl | rfl | rfl | rfl | rfl | rfl | rfl | rfl | rfl | rfl
    · exact h0
    · exact h1
    · exact h2
    · exact h3
    · exact h4
    · exact h5
    · exact h6
    · exact h7
    · exact h8
    · exact h9
  · refine Reg.tail_one 10 (fun af => { dst := none, op := Op.store 22 (Operand.tmp 31) (Operand.tmp 30), type := 0, pos := "vector.go:23", after := af, guard := none }) #[{ on := 9, ground := Ground.data }, { on := 8, ground := Ground.data }, { on := 8, ground := Ground.chain }, { on := 0, ground := Ground.phase }, { on := 1, ground := Ground.phase }, { on := 2, ground := Ground.phase }, { on := 3, ground := Ground.phase }, { on := 4, ground := Ground.phase }, { on := 5, ground := Ground.phase }, { on := 6, ground := Ground.phase }, { on := 7, ground := Ground.phase }, { on := 8, ground := Ground.phase }] (by kernel_rfl) (fun _ => rfl) (by decide) (by rw [hn]; decide) (by rw [hn]; decide) (by decide) (fun a' w' => a' = Reg.gfr (Reg.opsOf Try.f35 10) a0 v [0, 1, 2, 3, 4, 5, 6, 7, 8, 9] ∧ w' = w.setCell ⟨gp, k, none⟩ (Value.int IntKind.u32 (zn : Int))) (fun af K hK => ?_) ?_ fuel hf
    · have v9 : v 9 = (Value.pointer (some ⟨gp, k, none⟩)) := hR 9 (by decide)
      have e31 := (Reg.gfr_eval (ops := (Reg.opsOf Try.f35 10)) (a0 := a0) (v := v) (L := [0, 1, 2, 3, 4, 5, 6, 7, 8, 9]) 31 9 (by kernel_rfl) (by rw [hsz]; omega)).trans v9
      have v8 : v 8 = (Value.int IntKind.u32 (zn : Int)) := hR 8 (by decide)
      have e30 := (Reg.gfr_eval (ops := (Reg.opsOf Try.f35 10)) (a0 := a0) (v := v) (L := [0, 1, 2, 3, 4, 5, 6, 7, 8, 9]) 30 8 (by kernel_rfl) (by rw [hsz]; omega)).trans v8
      have hp := hK _ _ ⟨rfl, rfl⟩
      have c1 := CP w hb
      have c2 := FRO w hb
      generalize Reg.gfr (Reg.opsOf Try.f35 10) a0 v [0, 1, 2, 3, 4, 5, 6, 7, 8, 9] = G at hp e31 e30 ⊢
      exact wp_store_one 22 (Operand.tmp 31) (Operand.tmp 30) rfl _ e31 _ _ e30 _ c1 c2 (by kernel_rfl) rfl hp
    · rintro a' w' ⟨rfl, rfl⟩
      have v0 : v 0 = (Value.int IntKind.i64 (k : Int)) := hR 0 (by decide)
      have v1 : v 1 = (Value.func (Fn.func 36) #[] #[]) := hR 1 (by decide)
      have v2 : v 2 = (Value.int IntKind.i64 (k : Int)) := hR 2 (by decide)
      have v3 : v 3 = (Value.pointer (some ⟨gp, k, none⟩)) := hR 3 (by decide)
      have v4 : v 4 = (Value.int IntKind.u32 (xn : Int)) := hR 4 (by decide)
      have v5 : v 5 = (Value.int IntKind.i64 (k : Int)) := hR 5 (by decide)
      have v6 : v 6 = (Value.pointer (some ⟨gq, k, none⟩)) := hR 6 (by decide)
      have v7 : v 7 = (Value.int IntKind.u32 (yn : Int)) := hR 7 (by decide)
      have v8 : v 8 = (Value.int IntKind.u32 (zn : Int)) := hR 8 (by decide)
      have v9 : v 9 = (Value.pointer (some ⟨gp, k, none⟩)) := hR 9 (by decide)
      rw [hfin v, v0, v1, v2, v3, v4, v5, v6, v7, v8, v9]
      exact hend w  hb
def foldminGR (gp gq k xn yn zn : Nat) : Nat → Value → World → Prop
  | 0 => fun x_ _ => x_ = (Value.int IntKind.i64 (k : Int))
  | 1 => fun x_ _ => x_ = (Value.func (Fn.func 37) #[] #[])
  | 2 => fun x_ _ => x_ = (Value.int IntKind.i64 (k : Int))
  | 3 => fun x_ _ => x_ = (Value.pointer (some ⟨gp, k, none⟩))
  | 4 => fun x_ _ => x_ = (Value.int IntKind.u32 (xn : Int))
  | 5 => fun x_ _ => x_ = (Value.int IntKind.i64 (k : Int))
  | 6 => fun x_ _ => x_ = (Value.pointer (some ⟨gq, k, none⟩))
  | 7 => fun x_ _ => x_ = (Value.int IntKind.u32 (yn : Int))
  | 8 => fun x_ _ => x_ = (Value.int IntKind.u32 (zn : Int))
  | 9 => fun x_ _ => x_ = (Value.pointer (some ⟨gp, k, none⟩))
  | _ => fun _ _ => True
theorem foldminG_stable (gp gq k xn yn zn : Nat) : ∀ i_ u_ w_ w_', (foldminGR gp gq k xn yn zn) i_ u_ w_ → Below w_.heap.size w_ w_' → (foldminGR gp gq k xn yn zn) i_ u_ w_' := fun i_ u_ w_ w_' h_ hb_ => by
  match i_, h_ with
  | 0, h_ => exact h_
  | 1, h_ => exact h_
  | 2, h_ => exact h_
  | 3, h_ => exact h_
  | 4, h_ => exact h_
  | 5, h_ => exact h_
  | 6, h_ => exact h_
  | 7, h_ => exact h_
  | 8, h_ => exact h_
  | 9, h_ => exact h_
  | 10, h_ => exact h_
  | (_ + 11), _ => trivial
set_option maxHeartbeats 4000000 in
set_option maxRecDepth 20000 in
theorem foldminG (gp gq k xn yn zn : Nat) (w0 : World) {s1 s2 s3 s4 s6 s9 s10 s11 s12 s13 s14 s15 s16 s17 s18 s19 s20 s21 s22 s23 s24 s25 s26 s27 s28 s29 s30 s31 s32 s33 s34 : Value}
    (k0 : (0 : Int) ≤ k) (k1 : (k : Int) < 16) (fz : min xn yn = zn)
    (CP : ∀ W, Below w0.heap.size w0 W → W.cell? ⟨gp, k, none⟩ = some (Value.int IntKind.u32 (xn : Int)))
    (CQ : ∀ W, Below w0.heap.size w0 W → W.cell? ⟨gq, k, none⟩ = some (Value.int IntKind.u32 (yn : Int)))
    {Q : Exit → Act → World → Prop}
    (FRO : ∀ W, Below w0.heap.size w0 W → W.frozen? ⟨gp, k, none⟩ = false)
    (hend : ∀ (w : World), Below w0.heap.size w0 w → Q .normal { tmps := #[(Value.func (Fn.func 37) #[] #[]), s1, s2, s3, s4, (Value.pointer (some ⟨gp, 0, none⟩)), s6, (Value.pointer (some ⟨gq, 0, none⟩)), (Value.int IntKind.i64 (k : Int)), s9, s10, s11, s12, s13, s14, s15, s16, s17, s18, s19, s20, s21, (Value.int IntKind.i64 (k : Int)), (Value.func (Fn.func 37) #[] #[]), (Value.int IntKind.i64 (k : Int)), (Value.pointer (some ⟨gp, k, none⟩)), (Value.int IntKind.u32 (xn : Int)), (Value.int IntKind.i64 (k : Int)), (Value.pointer (some ⟨gq, k, none⟩)), (Value.int IntKind.u32 (yn : Int)), (Value.int IntKind.u32 (zn : Int)), (Value.pointer (some ⟨gp, k, none⟩)), s32, s33, s34], defers := [] } (w.setCell ⟨gp, k, none⟩ (Value.int IntKind.u32 (zn : Int)))) :
    (Code.region 10 (Reg.opsOf Try.f35 10) true).wp Try.prog Q { tmps := #[(Value.func (Fn.func 37) #[] #[]), s1, s2, s3, s4, (Value.pointer (some ⟨gp, 0, none⟩)), s6, (Value.pointer (some ⟨gq, 0, none⟩)), (Value.int IntKind.i64 (k : Int)), s9, s10, s11, s12, s13, s14, s15, s16, s17, s18, s19, s20, s21, s22, s23, s24, s25, s26, s27, s28, s29, s30, s31, s32, s33, s34], defers := [] } w0 := by
  obtain ⟨a0, ha0⟩ : ∃ a0 : Act, a0 = { tmps := #[(Value.func (Fn.func 37) #[] #[]), s1, s2, s3, s4, (Value.pointer (some ⟨gp, 0, none⟩)), s6, (Value.pointer (some ⟨gq, 0, none⟩)), (Value.int IntKind.i64 (k : Int)), s9, s10, s11, s12, s13, s14, s15, s16, s17, s18, s19, s20, s21, s22, s23, s24, s25, s26, s27, s28, s29, s30, s31, s32, s33, s34], defers := [] } := ⟨_, rfl⟩
  have hfin : ∀ v : Nat → Value, Reg.gfr (Reg.opsOf Try.f35 10) a0 v [0, 1, 2, 3, 4, 5, 6, 7, 8, 9] = { tmps := #[(Value.func (Fn.func 37) #[] #[]), s1, s2, s3, s4, (Value.pointer (some ⟨gp, 0, none⟩)), s6, (Value.pointer (some ⟨gq, 0, none⟩)), (Value.int IntKind.i64 (k : Int)), s9, s10, s11, s12, s13, s14, s15, s16, s17, s18, s19, s20, s21, v 0, v 1, v 2, v 3, v 4, v 5, v 6, v 7, v 8, v 9, s32, s33, s34], defers := [] } := fun v => by rw [ha0]; kernel_rfl
  rw [← ha0]
  have i0 : a0.eval (.tmp 0) = (Value.func (Fn.func 37) #[] #[]) := by rw [ha0]; rfl
  have i5 : a0.eval (.tmp 5) = (Value.pointer (some ⟨gp, 0, none⟩)) := by rw [ha0]; rfl
  have i7 : a0.eval (.tmp 7) = (Value.pointer (some ⟨gq, 0, none⟩)) := by rw [ha0]; rfl
  have i8 : a0.eval (.tmp 8) = (Value.int IntKind.i64 (k : Int)) := by rw [ha0]; rfl
  have hsz : a0.tmps.size = 35 := by rw [ha0]; rfl
  clear ha0
  have hn : (Reg.opsOf Try.f35 10).size = 11 := by kernel_rfl
  have h0 : Reg.OpOK Try.prog (Reg.opsOf Try.f35 10) a0 w0 (foldminGR gp gq k xn yn zn) (fun _ _ _ _ => True) 0 := by
    refine Reg.op_ok2 (fun af => { dst := some 22, op := Op.move (Operand.tmp 8), type := 3, pos := "vector.go:23", after := af, guard := none }) #[] (by kernel_rfl) [] (by kernel_rfl) fun af v W hb hd => ?_
    have e8 := (Reg.gfr_eval0 (ops := (Reg.opsOf Try.f35 10)) (a0 := a0) (v := v) (L := []) 8 (by kernel_rfl)).trans i8
    refine ⟨Reg.wanted_none rfl, ?_⟩
    generalize Reg.gfr (Reg.opsOf Try.f35 10) a0 v [] = G at e8 ⊢
    generalize hρ : G.eval = ρ at e8
    have hρ' : G.eval = ρ := hρ
    refine Reg.go_run (Value.int IntKind.i64 (k : Int)) W ?_ ?_
    · rw [hρ']; simp [execOp, go_sem, e8]
    · exact ⟨Below.refl _ _, rfl⟩
  have h1 : Reg.OpOK Try.prog (Reg.opsOf Try.f35 10) a0 w0 (foldminGR gp gq k xn yn zn) (fun _ _ _ _ => True) 1 := by
    refine Reg.op_ok2 (fun af => { dst := some 23, op := Op.move (Operand.tmp 0), type := 63, pos := "vector.go:23", after := af, guard := none }) #[] (by kernel_rfl) [] (by kernel_rfl) fun af v W hb hd => ?_
    have e0 := (Reg.gfr_eval0 (ops := (Reg.opsOf Try.f35 10)) (a0 := a0) (v := v) (L := []) 0 (by kernel_rfl)).trans i0
    refine ⟨Reg.wanted_none rfl, ?_⟩
    generalize Reg.gfr (Reg.opsOf Try.f35 10) a0 v [] = G at e0 ⊢
    generalize hρ : G.eval = ρ at e0
    have hρ' : G.eval = ρ := hρ
    refine Reg.go_run (Value.func (Fn.func 37) #[] #[]) W ?_ ?_
    · rw [hρ']; simp [execOp, go_sem, e0]
    · exact ⟨Below.refl _ _, rfl⟩
  have h2 : Reg.OpOK Try.prog (Reg.opsOf Try.f35 10) a0 w0 (foldminGR gp gq k xn yn zn) (fun _ _ _ _ => True) 2 := by
    refine Reg.op_ok2 (fun af => { dst := some 24, op := Op.move (Operand.tmp 8), type := 3, pos := "vector.go:23", after := af, guard := none }) #[] (by kernel_rfl) [] (by kernel_rfl) fun af v W hb hd => ?_
    have e8 := (Reg.gfr_eval0 (ops := (Reg.opsOf Try.f35 10)) (a0 := a0) (v := v) (L := []) 8 (by kernel_rfl)).trans i8
    refine ⟨Reg.wanted_none rfl, ?_⟩
    generalize Reg.gfr (Reg.opsOf Try.f35 10) a0 v [] = G at e8 ⊢
    generalize hρ : G.eval = ρ at e8
    have hρ' : G.eval = ρ := hρ
    refine Reg.go_run (Value.int IntKind.i64 (k : Int)) W ?_ ?_
    · rw [hρ']; simp [execOp, go_sem, e8]
    · exact ⟨Below.refl _ _, rfl⟩
  have h3 : Reg.OpOK Try.prog (Reg.opsOf Try.f35 10) a0 w0 (foldminGR gp gq k xn yn zn) (fun _ _ _ _ => True) 3 := by
    refine Reg.op_ok2 (fun af => { dst := some 25, op := Op.indexAddr 24 (Operand.tmp 5) (Operand.tmp 24), type := 0, pos := "vector.go:23", after := af, guard := none }) #[{ on := 2, ground := Ground.data }] (by kernel_rfl) [2] (by kernel_rfl) fun af v W hb hd => ?_
    have d2 : v 2 = (Value.int IntKind.i64 (k : Int)) := hd 2 (by decide)
    have e5 := (Reg.gfr_eval0 (ops := (Reg.opsOf Try.f35 10)) (a0 := a0) (v := v) (L := [2]) 5 (by kernel_rfl)).trans i5
    have e24 := (Reg.gfr_eval (ops := (Reg.opsOf Try.f35 10)) (a0 := a0) (v := v) (L := [2]) 24 2 (by kernel_rfl) (by rw [hsz]; omega)).trans d2
    refine ⟨Reg.wanted_none rfl, ?_⟩
    generalize Reg.gfr (Reg.opsOf Try.f35 10) a0 v [2] = G at e5 e24 ⊢
    generalize hρ : G.eval = ρ at e5 e24
    have hρ' : G.eval = ρ := hρ
    refine Reg.go_run (Value.pointer (some ⟨gp, k, none⟩)) W ?_ ?_
    · rw [hρ']; simp [execOp, go_sem, e5, e24, k0, k1]
    · exact ⟨Below.refl _ _, rfl⟩
  have h4 : Reg.OpOK Try.prog (Reg.opsOf Try.f35 10) a0 w0 (foldminGR gp gq k xn yn zn) (fun _ _ _ _ => True) 4 := by
    refine Reg.op_ok2 (fun af => { dst := some 26, op := Op.load 22 (Operand.tmp 25), type := 22, pos := "vector.go:23", after := af, guard := none }) #[{ on := 3, ground := Ground.data }] (by kernel_rfl) [3] (by kernel_rfl) fun af v W hb hd => ?_
    have d3 : v 3 = (Value.pointer (some ⟨gp, k, none⟩)) := hd 3 (by decide)
    have e25 := (Reg.gfr_eval (ops := (Reg.opsOf Try.f35 10)) (a0 := a0) (v := v) (L := [3]) 25 3 (by kernel_rfl) (by rw [hsz]; omega)).trans d3
    refine ⟨Reg.wanted_none rfl, ?_⟩
    generalize Reg.gfr (Reg.opsOf Try.f35 10) a0 v [3] = G at e25 ⊢
    generalize hρ : G.eval = ρ at e25
    have hρ' : G.eval = ρ := hρ
    refine Reg.go_run (Value.int IntKind.u32 (xn : Int)) W ?_ ?_
    · rw [hρ']; simp [execOp, go_sem, e25, CP W hb]
    · exact ⟨Below.refl _ _, rfl⟩
  have h5 : Reg.OpOK Try.prog (Reg.opsOf Try.f35 10) a0 w0 (foldminGR gp gq k xn yn zn) (fun _ _ _ _ => True) 5 := by
    refine Reg.op_ok2 (fun af => { dst := some 27, op := Op.move (Operand.tmp 8), type := 3, pos := "vector.go:23", after := af, guard := none }) #[] (by kernel_rfl) [] (by kernel_rfl) fun af v W hb hd => ?_
    have e8 := (Reg.gfr_eval0 (ops := (Reg.opsOf Try.f35 10)) (a0 := a0) (v := v) (L := []) 8 (by kernel_rfl)).trans i8
    refine ⟨Reg.wanted_none rfl, ?_⟩
    generalize Reg.gfr (Reg.opsOf Try.f35 10) a0 v [] = G at e8 ⊢
    generalize hρ : G.eval = ρ at e8
    have hρ' : G.eval = ρ := hρ
    refine Reg.go_run (Value.int IntKind.i64 (k : Int)) W ?_ ?_
    · rw [hρ']; simp [execOp, go_sem, e8]
    · exact ⟨Below.refl _ _, rfl⟩
  have h6 : Reg.OpOK Try.prog (Reg.opsOf Try.f35 10) a0 w0 (foldminGR gp gq k xn yn zn) (fun _ _ _ _ => True) 6 := by
    refine Reg.op_ok2 (fun af => { dst := some 28, op := Op.indexAddr 24 (Operand.tmp 7) (Operand.tmp 27), type := 0, pos := "vector.go:23", after := af, guard := none }) #[{ on := 5, ground := Ground.data }] (by kernel_rfl) [5] (by kernel_rfl) fun af v W hb hd => ?_
    have d5 : v 5 = (Value.int IntKind.i64 (k : Int)) := hd 5 (by decide)
    have e7 := (Reg.gfr_eval0 (ops := (Reg.opsOf Try.f35 10)) (a0 := a0) (v := v) (L := [5]) 7 (by kernel_rfl)).trans i7
    have e27 := (Reg.gfr_eval (ops := (Reg.opsOf Try.f35 10)) (a0 := a0) (v := v) (L := [5]) 27 5 (by kernel_rfl) (by rw [hsz]; omega)).trans d5
    refine ⟨Reg.wanted_none rfl, ?_⟩
    generalize Reg.gfr (Reg.opsOf Try.f35 10) a0 v [5] = G at e7 e27 ⊢
    generalize hρ : G.eval = ρ at e7 e27
    have hρ' : G.eval = ρ := hρ
    refine Reg.go_run (Value.pointer (some ⟨gq, k, none⟩)) W ?_ ?_
    · rw [hρ']; simp [execOp, go_sem, e7, e27, k0, k1]
    · exact ⟨Below.refl _ _, rfl⟩
  have h7 : Reg.OpOK Try.prog (Reg.opsOf Try.f35 10) a0 w0 (foldminGR gp gq k xn yn zn) (fun _ _ _ _ => True) 7 := by
    refine Reg.op_ok2 (fun af => { dst := some 29, op := Op.load 22 (Operand.tmp 28), type := 22, pos := "vector.go:23", after := af, guard := none }) #[{ on := 6, ground := Ground.data }] (by kernel_rfl) [6] (by kernel_rfl) fun af v W hb hd => ?_
    have d6 : v 6 = (Value.pointer (some ⟨gq, k, none⟩)) := hd 6 (by decide)
    have e28 := (Reg.gfr_eval (ops := (Reg.opsOf Try.f35 10)) (a0 := a0) (v := v) (L := [6]) 28 6 (by kernel_rfl) (by rw [hsz]; omega)).trans d6
    refine ⟨Reg.wanted_none rfl, ?_⟩
    generalize Reg.gfr (Reg.opsOf Try.f35 10) a0 v [6] = G at e28 ⊢
    generalize hρ : G.eval = ρ at e28
    have hρ' : G.eval = ρ := hρ
    refine Reg.go_run (Value.int IntKind.u32 (yn : Int)) W ?_ ?_
    · rw [hρ']; simp [execOp, go_sem, e28, CQ W hb]
    · exact ⟨Below.refl _ _, rfl⟩
  have h8 : Reg.OpOK Try.prog (Reg.opsOf Try.f35 10) a0 w0 (foldminGR gp gq k xn yn zn) (fun _ _ _ _ => True) 8 := by
    refine Reg.op_ok2 (fun af => { dst := some 30, op := Op.call { callee := Callee.value (Operand.tmp 23), args := #[Operand.tmp 26, Operand.tmp 29], argTypes := #[22, 22] }, type := 22, pos := "vector.go:23", after := af, guard := none }) #[{ on := 1, ground := Ground.data }, { on := 4, ground := Ground.data }, { on := 7, ground := Ground.data }] (by kernel_rfl) [1, 4, 7] (by kernel_rfl) fun af v W hb hd => ?_
    have d1 : v 1 = (Value.func (Fn.func 37) #[] #[]) := hd 1 (by decide)
    have d4 : v 4 = (Value.int IntKind.u32 (xn : Int)) := hd 4 (by decide)
    have d7 : v 7 = (Value.int IntKind.u32 (yn : Int)) := hd 7 (by decide)
    have e23 := (Reg.gfr_eval (ops := (Reg.opsOf Try.f35 10)) (a0 := a0) (v := v) (L := [1, 4, 7]) 23 1 (by kernel_rfl) (by rw [hsz]; omega)).trans d1
    have e26 := (Reg.gfr_eval (ops := (Reg.opsOf Try.f35 10)) (a0 := a0) (v := v) (L := [1, 4, 7]) 26 4 (by kernel_rfl) (by rw [hsz]; omega)).trans d4
    have e29 := (Reg.gfr_eval (ops := (Reg.opsOf Try.f35 10)) (a0 := a0) (v := v) (L := [1, 4, 7]) 29 7 (by kernel_rfl) (by rw [hsz]; omega)).trans d7
    refine ⟨Reg.wanted_none rfl, ?_⟩
    generalize Reg.gfr (Reg.opsOf Try.f35 10) a0 v [1, 4, 7] = G at e23 e26 e29 ⊢
    generalize hρ : G.eval = ρ at e23 e26 e29
    have hρ' : G.eval = ρ := hρ
    refine Reg.go_call 37 #[(Value.int IntKind.u32 (xn : Int)), (Value.int IntKind.u32 (yn : Int))] (by rw [hρ']; simp [execOp, go_sem, e23, e26, e29]) ((min_any xn yn W).mono fun e w' he => ?_)
    obtain ⟨rfl, rfl⟩ := he
    exact ⟨_, rfl, Below.refl _ _, (show _ = _ from by rw [fz])⟩
  have h9 : Reg.OpOK Try.prog (Reg.opsOf Try.f35 10) a0 w0 (foldminGR gp gq k xn yn zn) (fun _ _ _ _ => True) 9 := by
    refine Reg.op_ok2 (fun af => { dst := some 31, op := Op.indexAddr 24 (Operand.tmp 5) (Operand.tmp 22), type := 0, pos := "vector.go:23", after := af, guard := none }) #[{ on := 0, ground := Ground.data }, { on := 0, ground := Ground.phase }, { on := 1, ground := Ground.phase }, { on := 2, ground := Ground.phase }, { on := 3, ground := Ground.phase }, { on := 4, ground := Ground.phase }, { on := 5, ground := Ground.phase }, { on := 6, ground := Ground.phase }, { on := 7, ground := Ground.phase }, { on := 8, ground := Ground.phase }] (by kernel_rfl) [0, 0, 1, 2, 3, 4, 5, 6, 7, 8] (by kernel_rfl) fun af v W hb hd => ?_
    have d0 : v 0 = (Value.int IntKind.i64 (k : Int)) := hd 0 (by decide)
    have e5 := (Reg.gfr_eval0 (ops := (Reg.opsOf Try.f35 10)) (a0 := a0) (v := v) (L := [0, 0, 1, 2, 3, 4, 5, 6, 7, 8]) 5 (by kernel_rfl)).trans i5
    have e22 := (Reg.gfr_eval (ops := (Reg.opsOf Try.f35 10)) (a0 := a0) (v := v) (L := [0, 0, 1, 2, 3, 4, 5, 6, 7, 8]) 22 0 (by kernel_rfl) (by rw [hsz]; omega)).trans d0
    refine ⟨Reg.wanted_none rfl, ?_⟩
    generalize Reg.gfr (Reg.opsOf Try.f35 10) a0 v [0, 0, 1, 2, 3, 4, 5, 6, 7, 8] = G at e5 e22 ⊢
    generalize hρ : G.eval = ρ at e5 e22
    have hρ' : G.eval = ρ := hρ
    refine Reg.go_run (Value.pointer (some ⟨gp, k, none⟩)) W ?_ ?_
    · rw [hρ']; simp [execOp, go_sem, e5, e22, k0, k1]
    · exact ⟨Below.refl _ _, rfl⟩
  refine Reg.region_rel (by kernel_rfl) [0, 1, 2, 3, 4, 5, 6, 7, 8, 9] (foldminGR gp gq k xn yn zn) (fun _ _ _ _ => True) (by rw [hsz]; kernel_rfl) (foldminG_stable gp gq k xn yn zn) (fun i hi => ?_) (fun v w hb hR hD fuel hf => ?_)
  · simp only [List.mem_cons, List.not_mem_nil, or_false] at hi
    rcases hi with rfl | rfl | rfl | rfl | rfl | rfl | rfl | rfl | rfl | rfl
    · exact h0
    · exact h1
    · exact h2
    · exact h3
    · exact h4
    · exact h5
    · exact h6
    · exact h7
    · exact h8
    · exact h9
  · refine Reg.tail_one 10 (fun af => { dst := none, op := Op.store 22 (Operand.tmp 31) (Operand.tmp 30), type := 0, pos := "vector.go:23", after := af, guard := none }) #[{ on := 9, ground := Ground.data }, { on := 8, ground := Ground.data }, { on := 8, ground := Ground.chain }, { on := 0, ground := Ground.phase }, { on := 1, ground := Ground.phase }, { on := 2, ground := Ground.phase }, { on := 3, ground := Ground.phase }, { on := 4, ground := Ground.phase }, { on := 5, ground := Ground.phase }, { on := 6, ground := Ground.phase }, { on := 7, ground := Ground.phase }, { on := 8, ground := Ground.phase }] (by kernel_rfl) (fun _ => rfl) (by decide) (by rw [hn]; decide) (by rw [hn]; decide) (by decide) (fun a' w' => a' = Reg.gfr (Reg.opsOf Try.f35 10) a0 v [0, 1, 2, 3, 4, 5, 6, 7, 8, 9] ∧ w' = w.setCell ⟨gp, k, none⟩ (Value.int IntKind.u32 (zn : Int))) (fun af K hK => ?_) ?_ fuel hf
    · have v9 : v 9 = (Value.pointer (some ⟨gp, k, none⟩)) := hR 9 (by decide)
      have e31 := (Reg.gfr_eval (ops := (Reg.opsOf Try.f35 10)) (a0 := a0) (v := v) (L := [0, 1, 2, 3, 4, 5, 6, 7, 8, 9]) 31 9 (by kernel_rfl) (by rw [hsz]; omega)).trans v9
      have v8 : v 8 = (Value.int IntKind.u32 (zn : Int)) := hR 8 (by decide)
      have e30 := (Reg.gfr_eval (ops := (Reg.opsOf Try.f35 10)) (a0 := a0) (v := v) (L := [0, 1, 2, 3, 4, 5, 6, 7, 8, 9]) 30 8 (by kernel_rfl) (by rw [hsz]; omega)).trans v8
      have hp := hK _ _ ⟨rfl, rfl⟩
      have c1 := CP w hb
      have c2 := FRO w hb
      generalize Reg.gfr (Reg.opsOf Try.f35 10) a0 v [0, 1, 2, 3, 4, 5, 6, 7, 8, 9] = G at hp e31 e30 ⊢
      exact wp_store_one 22 (Operand.tmp 31) (Operand.tmp 30) rfl _ e31 _ _ e30 _ c1 c2 (by kernel_rfl) rfl hp
    · rintro a' w' ⟨rfl, rfl⟩
      have v0 : v 0 = (Value.int IntKind.i64 (k : Int)) := hR 0 (by decide)
      have v1 : v 1 = (Value.func (Fn.func 37) #[] #[]) := hR 1 (by decide)
      have v2 : v 2 = (Value.int IntKind.i64 (k : Int)) := hR 2 (by decide)
      have v3 : v 3 = (Value.pointer (some ⟨gp, k, none⟩)) := hR 3 (by decide)
      have v4 : v 4 = (Value.int IntKind.u32 (xn : Int)) := hR 4 (by decide)
      have v5 : v 5 = (Value.int IntKind.i64 (k : Int)) := hR 5 (by decide)
      have v6 : v 6 = (Value.pointer (some ⟨gq, k, none⟩)) := hR 6 (by decide)
      have v7 : v 7 = (Value.int IntKind.u32 (yn : Int)) := hR 7 (by decide)
      have v8 : v 8 = (Value.int IntKind.u32 (zn : Int)) := hR 8 (by decide)
      have v9 : v 9 = (Value.pointer (some ⟨gp, k, none⟩)) := hR 9 (by decide)
      rw [hfin v, v0, v1, v2, v3, v4, v5, v6, v7, v8, v9]
      exact hend w  hb
end Go.Proofs.Ytfifbjlmbdgmjaa
