/- Regions that draw their order: their obligations (printed by regen2.py). -/
import Derived.Test.YtfifbjlmbdgmjaaVecE
import Derived.Test.YtfifbjlmbdgmjaaRegS
namespace Go.Proofs.Ytfifbjlmbdgmjaa
open Go.RowKit
set_option linter.unusedVariables false
set_option linter.unusedSimpArgs false
set_option linter.unusedSectionVars false
def raddGR (k xx gv gd : Nat) : Nat → Value → World → Prop
  | 0 => fun x_ _ => x_ = (Value.pointer (some ⟨gd, 0, none⟩))
  | 1 => fun x_ _ => x_ = (Value.int IntKind.i64 (k : Int))
  | 2 => fun x_ _ => x_ = (Value.pointer (some ⟨gd, 0, none⟩))
  | 3 => fun x_ _ => x_ = (Value.int IntKind.i64 (k : Int))
  | 4 => fun x_ _ => x_ = (Value.pointer (some ⟨gv, k, none⟩))
  | 5 => fun x_ _ => x_ = (Value.int IntKind.u32 (xx : Int))
  | 6 => fun x_ _ => x_ = (Value.int IntKind.u32 ((xx : Int) + 1))
  | 7 => fun x_ _ => x_ = (Value.pointer (some ⟨gv, k, none⟩))
  | _ => fun _ _ => True
theorem raddG_stable (k xx gv gd : Nat) : ∀ i_ u_ w_ w_', (raddGR k xx gv gd) i_ u_ w_ → Below w_.heap.size w_ w_' → (raddGR k xx gv gd) i_ u_ w_' := fun i_ u_ w_ w_' h_ hb_ => by
  match i_, h_ with
  | 0, h_ => exact h_
  | 1, h_ => exact h_
  | 2, h_ => exact h_
  | 3, h_ => exact h_
  | 4, h_ => exact h_
  | 5, h_ => exact h_
  | 6, h_ => exact h_
  | 7, h_ => exact h_
  | 8, h_ => exact h_
  | (_ + 9), _ => trivial
section
variable (k xx gv gd : Nat) (w0 : World) (a0 : Act)
variable (k0 : (0 : Int) ≤ k) (k1 : (k : Int) < 16) (aw : IntKind.u32.wrap ((xx : Int) + 1) = (xx : Int) + 1)
variable (CD0 : ∀ W, Below w0.heap.size w0 W → W.cell? ⟨gd, 0, none⟩ = some (Value.int IntKind.i64 (k : Int)))
variable (CV : ∀ W, Below w0.heap.size w0 W → W.cell? ⟨gv, k, none⟩ = some (Value.int IntKind.u32 (xx : Int)))
variable (i2 : a0.eval (.tmp 2) = (Value.pointer (some ⟨gv, 0, none⟩))) (i3 : a0.eval (.tmp 3) = (Value.pointer (some ⟨gd, 0, none⟩))) (hsz : a0.tmps.size = 29)
include k xx gv gd w0 a0 k0 k1 aw CD0 CV i2 i3 hsz
set_option maxHeartbeats 4000000 in
set_option maxRecDepth 20000 in
theorem raddG_h0 :
    Reg.OpOK Try.prog (Reg.opsOf Try.f21 5) a0 w0 (raddGR k xx gv gd) (fun _ _ _ _ => True) 0 := by
    refine Reg.op_ok2 (fun af => { dst := some 20, op := Op.fieldAddr 35 (Operand.tmp 3) 0, type := 0, pos := "ref.go:97", after := af, guard := none }) #[] (by kernel_rfl) [] (by kernel_rfl) fun af v W hb hd => ?_
    have e3 := (Reg.gfr_eval0 (ops := (Reg.opsOf Try.f21 5)) (a0 := a0) (v := v) (L := []) 3 (by kernel_rfl)).trans i3
    refine ⟨Reg.wanted_none rfl, ?_⟩
    generalize Reg.gfr (Reg.opsOf Try.f21 5) a0 v [] = G at e3 ⊢
    generalize hρ : G.eval = ρ at e3
    have hρ' : G.eval = ρ := hρ
    refine Reg.go_run (Value.pointer (some ⟨gd, 0, none⟩)) W ?_ ?_
    · rw [hρ']; simp [execOp, go_sem, e3]
    · exact ⟨Below.refl _ _, rfl⟩
set_option maxHeartbeats 4000000 in
set_option maxRecDepth 20000 in
theorem raddG_h1 :
    Reg.OpOK Try.prog (Reg.opsOf Try.f21 5) a0 w0 (raddGR k xx gv gd) (fun _ _ _ _ => True) 1 := by
    refine Reg.op_ok2 (fun af => { dst := some 21, op := Op.load 3 (Operand.tmp 20), type := 3, pos := "ref.go:97", after := af, guard := none }) #[{ on := 0, ground := Ground.data }] (by kernel_rfl) [0] (by kernel_rfl) fun af v W hb hd => ?_
    have d0 : v 0 = (Value.pointer (some ⟨gd, 0, none⟩)) := hd 0 (by decide)
    have e20 := (Reg.gfr_eval (ops := (Reg.opsOf Try.f21 5)) (a0 := a0) (v := v) (L := [0]) 20 0 (by kernel_rfl) (by rw [hsz]; omega)).trans d0
    refine ⟨Reg.wanted_none rfl, ?_⟩
    generalize Reg.gfr (Reg.opsOf Try.f21 5) a0 v [0] = G at e20 ⊢
    generalize hρ : G.eval = ρ at e20
    have hρ' : G.eval = ρ := hρ
    refine Reg.go_run (Value.int IntKind.i64 (k : Int)) W ?_ ?_
    · rw [hρ']; simp [execOp, go_sem, e20, CD0 W hb]
    · exact ⟨Below.refl _ _, rfl⟩
set_option maxHeartbeats 4000000 in
set_option maxRecDepth 20000 in
theorem raddG_h2 :
    Reg.OpOK Try.prog (Reg.opsOf Try.f21 5) a0 w0 (raddGR k xx gv gd) (fun _ _ _ _ => True) 2 := by
    refine Reg.op_ok2 (fun af => { dst := some 22, op := Op.fieldAddr 35 (Operand.tmp 3) 0, type := 0, pos := "ref.go:97", after := af, guard := none }) #[] (by kernel_rfl) [] (by kernel_rfl) fun af v W hb hd => ?_
    have e3 := (Reg.gfr_eval0 (ops := (Reg.opsOf Try.f21 5)) (a0 := a0) (v := v) (L := []) 3 (by kernel_rfl)).trans i3
    refine ⟨Reg.wanted_none rfl, ?_⟩
    generalize Reg.gfr (Reg.opsOf Try.f21 5) a0 v [] = G at e3 ⊢
    generalize hρ : G.eval = ρ at e3
    have hρ' : G.eval = ρ := hρ
    refine Reg.go_run (Value.pointer (some ⟨gd, 0, none⟩)) W ?_ ?_
    · rw [hρ']; simp [execOp, go_sem, e3]
    · exact ⟨Below.refl _ _, rfl⟩
set_option maxHeartbeats 4000000 in
set_option maxRecDepth 20000 in
theorem raddG_h3 :
    Reg.OpOK Try.prog (Reg.opsOf Try.f21 5) a0 w0 (raddGR k xx gv gd) (fun _ _ _ _ => True) 3 := by
    refine Reg.op_ok2 (fun af => { dst := some 23, op := Op.load 3 (Operand.tmp 22), type := 3, pos := "ref.go:97", after := af, guard := none }) #[{ on := 2, ground := Ground.data }] (by kernel_rfl) [2] (by kernel_rfl) fun af v W hb hd => ?_
    have d2 : v 2 = (Value.pointer (some ⟨gd, 0, none⟩)) := hd 2 (by decide)
    have e22 := (Reg.gfr_eval (ops := (Reg.opsOf Try.f21 5)) (a0 := a0) (v := v) (L := [2]) 22 2 (by kernel_rfl) (by rw [hsz]; omega)).trans d2
    refine ⟨Reg.wanted_none rfl, ?_⟩
    generalize Reg.gfr (Reg.opsOf Try.f21 5) a0 v [2] = G at e22 ⊢
    generalize hρ : G.eval = ρ at e22
    have hρ' : G.eval = ρ := hρ
    refine Reg.go_run (Value.int IntKind.i64 (k : Int)) W ?_ ?_
    · rw [hρ']; simp [execOp, go_sem, e22, CD0 W hb]
    · exact ⟨Below.refl _ _, rfl⟩
set_option maxHeartbeats 4000000 in
set_option maxRecDepth 20000 in
theorem raddG_h4 :
    Reg.OpOK Try.prog (Reg.opsOf Try.f21 5) a0 w0 (raddGR k xx gv gd) (fun _ _ _ _ => True) 4 := by
    refine Reg.op_ok2 (fun af => { dst := some 24, op := Op.indexAddr 24 (Operand.tmp 2) (Operand.tmp 23), type := 0, pos := "ref.go:97", after := af, guard := none }) #[{ on := 3, ground := Ground.data }] (by kernel_rfl) [3] (by kernel_rfl) fun af v W hb hd => ?_
    have d3 : v 3 = (Value.int IntKind.i64 (k : Int)) := hd 3 (by decide)
    have e2 := (Reg.gfr_eval0 (ops := (Reg.opsOf Try.f21 5)) (a0 := a0) (v := v) (L := [3]) 2 (by kernel_rfl)).trans i2
    have e23 := (Reg.gfr_eval (ops := (Reg.opsOf Try.f21 5)) (a0 := a0) (v := v) (L := [3]) 23 3 (by kernel_rfl) (by rw [hsz]; omega)).trans d3
    refine ⟨Reg.wanted_none rfl, ?_⟩
    generalize Reg.gfr (Reg.opsOf Try.f21 5) a0 v [3] = G at e2 e23 ⊢
    generalize hρ : G.eval = ρ at e2 e23
    have hρ' : G.eval = ρ := hρ
    refine Reg.go_run (Value.pointer (some ⟨gv, k, none⟩)) W ?_ ?_
    · rw [hρ']; simp [execOp, go_sem, e2, e23, k0, k1]
    · exact ⟨Below.refl _ _, rfl⟩
set_option maxHeartbeats 4000000 in
set_option maxRecDepth 20000 in
theorem raddG_h5 :
    Reg.OpOK Try.prog (Reg.opsOf Try.f21 5) a0 w0 (raddGR k xx gv gd) (fun _ _ _ _ => True) 5 := by
    refine Reg.op_ok2 (fun af => { dst := some 25, op := Op.load 22 (Operand.tmp 24), type := 22, pos := "ref.go:97", after := af, guard := none }) #[{ on := 4, ground := Ground.data }] (by kernel_rfl) [4] (by kernel_rfl) fun af v W hb hd => ?_
    have d4 : v 4 = (Value.pointer (some ⟨gv, k, none⟩)) := hd 4 (by decide)
    have e24 := (Reg.gfr_eval (ops := (Reg.opsOf Try.f21 5)) (a0 := a0) (v := v) (L := [4]) 24 4 (by kernel_rfl) (by rw [hsz]; omega)).trans d4
    refine ⟨Reg.wanted_none rfl, ?_⟩
    generalize Reg.gfr (Reg.opsOf Try.f21 5) a0 v [4] = G at e24 ⊢
    generalize hρ : G.eval = ρ at e24
    have hρ' : G.eval = ρ := hρ
    refine Reg.go_run (Value.int IntKind.u32 (xx : Int)) W ?_ ?_
    · rw [hρ']; simp [execOp, go_sem, e24, CV W hb]
    · exact ⟨Below.refl _ _, rfl⟩
set_option maxHeartbeats 4000000 in
set_option maxRecDepth 20000 in
theorem raddG_h6 :
    Reg.OpOK Try.prog (Reg.opsOf Try.f21 5) a0 w0 (raddGR k xx gv gd) (fun _ _ _ _ => True) 6 := by
    refine Reg.op_ok2 (fun af => { dst := some 26, op := Op.binOp BinOp.add 22 (Operand.tmp 25) (Operand.const (Value.int IntKind.u32 1)) 22, type := 22, pos := "ref.go:97", after := af, guard := none }) #[{ on := 5, ground := Ground.data }] (by kernel_rfl) [5] (by kernel_rfl) fun af v W hb hd => ?_
    have d5 : v 5 = (Value.int IntKind.u32 (xx : Int)) := hd 5 (by decide)
    have e25 := (Reg.gfr_eval (ops := (Reg.opsOf Try.f21 5)) (a0 := a0) (v := v) (L := [5]) 25 5 (by kernel_rfl) (by rw [hsz]; omega)).trans d5
    refine ⟨Reg.wanted_none rfl, ?_⟩
    have eC : ∀ x, (Reg.gfr (Reg.opsOf Try.f21 5) a0 v [5]).eval (.const x) = x := fun _ => rfl
    generalize Reg.gfr (Reg.opsOf Try.f21 5) a0 v [5] = G at e25 eC ⊢
    generalize hρ : G.eval = ρ at e25 eC
    have hρ' : G.eval = ρ := hρ
    refine Reg.go_run (Value.int IntKind.u32 ((xx : Int) + 1)) W ?_ ?_
    · rw [hρ']; simp [execOp, go_sem, e25, eC, aw]
    · exact ⟨Below.refl _ _, rfl⟩
set_option maxHeartbeats 4000000 in
set_option maxRecDepth 20000 in
theorem raddG_h7 :
    Reg.OpOK Try.prog (Reg.opsOf Try.f21 5) a0 w0 (raddGR k xx gv gd) (fun _ _ _ _ => True) 7 := by
    refine Reg.op_ok2 (fun af => { dst := some 27, op := Op.indexAddr 24 (Operand.tmp 2) (Operand.tmp 21), type := 0, pos := "ref.go:97", after := af, guard := none }) #[{ on := 1, ground := Ground.data }, { on := 0, ground := Ground.phase }, { on := 1, ground := Ground.phase }, { on := 2, ground := Ground.phase }, { on := 3, ground := Ground.phase }, { on := 4, ground := Ground.phase }, { on := 5, ground := Ground.phase }, { on := 6, ground := Ground.phase }] (by kernel_rfl) [1, 0, 1, 2, 3, 4, 5, 6] (by kernel_rfl) fun af v W hb hd => ?_
    have d1 : v 1 = (Value.int IntKind.i64 (k : Int)) := hd 1 (by decide)
    have e2 := (Reg.gfr_eval0 (ops := (Reg.opsOf Try.f21 5)) (a0 := a0) (v := v) (L := [1, 0, 1, 2, 3, 4, 5, 6]) 2 (by kernel_rfl)).trans i2
    have e21 := (Reg.gfr_eval (ops := (Reg.opsOf Try.f21 5)) (a0 := a0) (v := v) (L := [1, 0, 1, 2, 3, 4, 5, 6]) 21 1 (by kernel_rfl) (by rw [hsz]; omega)).trans d1
    refine ⟨Reg.wanted_none rfl, ?_⟩
    generalize Reg.gfr (Reg.opsOf Try.f21 5) a0 v [1, 0, 1, 2, 3, 4, 5, 6] = G at e2 e21 ⊢
    generalize hρ : G.eval = ρ at e2 e21
    have hρ' : G.eval = ρ := hρ
    refine Reg.go_run (Value.pointer (some ⟨gv, k, none⟩)) W ?_ ?_
    · rw [hρ']; simp [execOp, go_sem, e2, e21, k0, k1]
    · exact ⟨Below.refl _ _, rfl⟩
end
set_option maxHeartbeats 4000000 in
set_option maxRecDepth 20000 in
theorem raddG (k xx gv gd : Nat) (w0 : World) {s0 s1 s4 s5 s6 s7 s8 s9 s10 s11 s12 s13 s14 s15 s16 s17 s18 s19 s20 s21 s22 s23 s24 s25 s26 s27 s28 : Value}
    (k0 : (0 : Int) ≤ k) (k1 : (k : Int) < 16) (aw : IntKind.u32.wrap ((xx : Int) + 1) = (xx : Int) + 1)
    (CD0 : ∀ W, Below w0.heap.size w0 W → W.cell? ⟨gd, 0, none⟩ = some (Value.int IntKind.i64 (k : Int)))
    (CV : ∀ W, Below w0.heap.size w0 W → W.cell? ⟨gv, k, none⟩ = some (Value.int IntKind.u32 (xx : Int)))
    {Q : Exit → Act → World → Prop}
    (FRO : ∀ W, Below w0.heap.size w0 W → W.frozen? ⟨gv, k, none⟩ = false)
    (hend : ∀ (w : World), Below w0.heap.size w0 w → Q .normal { tmps := #[s0, s1, (Value.pointer (some ⟨gv, 0, none⟩)), (Value.pointer (some ⟨gd, 0, none⟩)), s4, s5, s6, s7, s8, s9, s10, s11, s12, s13, s14, s15, s16, s17, s18, s19, (Value.pointer (some ⟨gd, 0, none⟩)), (Value.int IntKind.i64 (k : Int)), (Value.pointer (some ⟨gd, 0, none⟩)), (Value.int IntKind.i64 (k : Int)), (Value.pointer (some ⟨gv, k, none⟩)), (Value.int IntKind.u32 (xx : Int)), (Value.int IntKind.u32 ((xx : Int) + 1)), (Value.pointer (some ⟨gv, k, none⟩)), s28], defers := [] } (w.setCell ⟨gv, k, none⟩ (Value.int IntKind.u32 ((xx : Int) + 1)))) :
    (Code.region 5 (Reg.opsOf Try.f21 5) true).wp Try.prog Q { tmps := #[s0, s1, (Value.pointer (some ⟨gv, 0, none⟩)), (Value.pointer (some ⟨gd, 0, none⟩)), s4, s5, s6, s7, s8, s9, s10, s11, s12, s13, s14, s15, s16, s17, s18, s19, s20, s21, s22, s23, s24, s25, s26, s27, s28], defers := [] } w0 := by
  obtain ⟨a0, ha0⟩ : ∃ a0 : Act, a0 = { tmps := #[s0, s1, (Value.pointer (some ⟨gv, 0, none⟩)), (Value.pointer (some ⟨gd, 0, none⟩)), s4, s5, s6, s7, s8, s9, s10, s11, s12, s13, s14, s15, s16, s17, s18, s19, s20, s21, s22, s23, s24, s25, s26, s27, s28], defers := [] } := ⟨_, rfl⟩
  have hfin : ∀ v : Nat → Value, Reg.gfr (Reg.opsOf Try.f21 5) a0 v [0, 1, 2, 3, 4, 5, 6, 7] = { tmps := #[s0, s1, (Value.pointer (some ⟨gv, 0, none⟩)), (Value.pointer (some ⟨gd, 0, none⟩)), s4, s5, s6, s7, s8, s9, s10, s11, s12, s13, s14, s15, s16, s17, s18, s19, v 0, v 1, v 2, v 3, v 4, v 5, v 6, v 7, s28], defers := [] } := fun v => by rw [ha0]; kernel_rfl
  rw [← ha0]
  have i2 : a0.eval (.tmp 2) = (Value.pointer (some ⟨gv, 0, none⟩)) := by rw [ha0]; rfl
  have i3 : a0.eval (.tmp 3) = (Value.pointer (some ⟨gd, 0, none⟩)) := by rw [ha0]; rfl
  have hsz : a0.tmps.size = 29 := by rw [ha0]; rfl
  clear ha0
  have hn : (Reg.opsOf Try.f21 5).size = 9 := by kernel_rfl
  have h0 := raddG_h0 k xx gv gd w0 a0 k0 k1 aw CD0 CV i2 i3 hsz
  have h1 := raddG_h1 k xx gv gd w0 a0 k0 k1 aw CD0 CV i2 i3 hsz
  have h2 := raddG_h2 k xx gv gd w0 a0 k0 k1 aw CD0 CV i2 i3 hsz
  have h3 := raddG_h3 k xx gv gd w0 a0 k0 k1 aw CD0 CV i2 i3 hsz
  have h4 := raddG_h4 k xx gv gd w0 a0 k0 k1 aw CD0 CV i2 i3 hsz
  have h5 := raddG_h5 k xx gv gd w0 a0 k0 k1 aw CD0 CV i2 i3 hsz
  have h6 := raddG_h6 k xx gv gd w0 a0 k0 k1 aw CD0 CV i2 i3 hsz
  have h7 := raddG_h7 k xx gv gd w0 a0 k0 k1 aw CD0 CV i2 i3 hsz
  refine Reg.region_rel (by kernel_rfl) [0, 1, 2, 3, 4, 5, 6, 7] (raddGR k xx gv gd) (fun _ _ _ _ => True) (by rw [hsz]; kernel_rfl) (raddG_stable k xx gv gd) (fun i hi => ?_) (fun v w hb hR hD fuel hf => ?_)
  · simp only [List.mem_cons, List.not_mem_nil, or_false] at hi
    rcases hi with rfl | rfl | rfl | rfl | rfl | rfl | rfl | rfl
    · exact h0
    · exact h1
    · exact h2
    · exact h3
    · exact h4
    · exact h5
    · exact h6
    · exact h7
  · refine Reg.tail_one 8 (fun af => { dst := none, op := Op.store 22 (Operand.tmp 27) (Operand.tmp 26), type := 0, pos := "ref.go:97", after := af, guard := none }) #[{ on := 7, ground := Ground.data }, { on := 6, ground := Ground.data }, { on := 0, ground := Ground.phase }, { on := 1, ground := Ground.phase }, { on := 2, ground := Ground.phase }, { on := 3, ground := Ground.phase }, { on := 4, ground := Ground.phase }, { on := 5, ground := Ground.phase }, { on := 6, ground := Ground.phase }] (by kernel_rfl) (fun _ => rfl) (by decide) (by rw [hn]; decide) (by rw [hn]; decide) (by decide) (fun a' w' => a' = Reg.gfr (Reg.opsOf Try.f21 5) a0 v [0, 1, 2, 3, 4, 5, 6, 7] ∧ w' = w.setCell ⟨gv, k, none⟩ (Value.int IntKind.u32 ((xx : Int) + 1))) (fun af K hK => ?_) ?_ fuel hf
    · have v7 : v 7 = (Value.pointer (some ⟨gv, k, none⟩)) := hR 7 (by decide)
      have e27 := (Reg.gfr_eval (ops := (Reg.opsOf Try.f21 5)) (a0 := a0) (v := v) (L := [0, 1, 2, 3, 4, 5, 6, 7]) 27 7 (by kernel_rfl) (by rw [hsz]; omega)).trans v7
      have v6 : v 6 = (Value.int IntKind.u32 ((xx : Int) + 1)) := hR 6 (by decide)
      have e26 := (Reg.gfr_eval (ops := (Reg.opsOf Try.f21 5)) (a0 := a0) (v := v) (L := [0, 1, 2, 3, 4, 5, 6, 7]) 26 6 (by kernel_rfl) (by rw [hsz]; omega)).trans v6
      have hp := hK _ _ ⟨rfl, rfl⟩
      have c1 := CV w hb
      have c2 := FRO w hb
      generalize Reg.gfr (Reg.opsOf Try.f21 5) a0 v [0, 1, 2, 3, 4, 5, 6, 7] = G at hp e27 e26 ⊢
      exact wp_store_one 22 (Operand.tmp 27) (Operand.tmp 26) rfl _ e27 _ _ e26 _ c1 c2 (by kernel_rfl) rfl hp
    · rintro a' w' ⟨rfl, rfl⟩
      have v0 : v 0 = (Value.pointer (some ⟨gd, 0, none⟩)) := hR 0 (by decide)
      have v1 : v 1 = (Value.int IntKind.i64 (k : Int)) := hR 1 (by decide)
      have v2 : v 2 = (Value.pointer (some ⟨gd, 0, none⟩)) := hR 2 (by decide)
      have v3 : v 3 = (Value.int IntKind.i64 (k : Int)) := hR 3 (by decide)
      have v4 : v 4 = (Value.pointer (some ⟨gv, k, none⟩)) := hR 4 (by decide)
      have v5 : v 5 = (Value.int IntKind.u32 (xx : Int)) := hR 5 (by decide)
      have v6 : v 6 = (Value.int IntKind.u32 ((xx : Int) + 1)) := hR 6 (by decide)
      have v7 : v 7 = (Value.pointer (some ⟨gv, k, none⟩)) := hR 7 (by decide)
      rw [hfin v, v0, v1, v2, v3, v4, v5, v6, v7]
      exact hend w  hb
end Go.Proofs.Ytfifbjlmbdgmjaa
