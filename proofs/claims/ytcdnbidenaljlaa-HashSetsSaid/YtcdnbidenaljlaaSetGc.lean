/- Regions that draw their order: their obligations (printed by regen2.py). -/
import Derived.Test.YtcdnbidenaljlaaSetD
import Derived.Test.YtcdnbidenaljlaaRegT
namespace Go.Proofs.Ytcdnbidenaljlaa
open Go.RowKit
set_option linter.unusedVariables false
set_option linter.unusedSimpArgs false
set_option linter.unusedSectionVars false
def rs6R (g o n c g2 o2 c2 h : Nat) (S S2 : List Value) (bo : Bool) : Nat → Value → World → Prop
  | 0 => fun x_ _ => x_ = (Value.slice (some ⟨g, o, none⟩) n c)
  | 1 => fun x_ _ => x_ = (Value.int IntKind.i64 (h : Int))
  | 2 => fun x_ _ => x_ = (Value.pointer (some ⟨g, o + h * 32, none⟩))
  | 3 => fun x_ _ => x_ = (Value.agg S.toArray)
  | 4 => fun x_ _ => x_ = (Value.slice (some ⟨g2, o2, none⟩) n c2)
  | 5 => fun x_ _ => x_ = (Value.int IntKind.i64 (h : Int))
  | 6 => fun x_ _ => x_ = (Value.pointer (some ⟨g2, o2 + h * 32, none⟩))
  | 7 => fun x_ _ => x_ = (Value.agg S2.toArray)
  | 8 => fun x_ _ => x_ = (Value.bool (!bo))
  | _ => fun _ _ => True
theorem rs6_stable (g o n c g2 o2 c2 h : Nat) (S S2 : List Value) (bo : Bool) : ∀ i_ u_ w_ w_', (rs6R g o n c g2 o2 c2 h S S2 bo) i_ u_ w_ → Below w_.heap.size w_ w_' → (rs6R g o n c g2 o2 c2 h S S2 bo) i_ u_ w_' := fun i_ u_ w_ w_' h_ hb_ => by
  match i_, h_ with
  | 0, h_ => exact h_
  | 1, h_ => exact h_
  | 2, h_ => exact h_
  | 3, h_ => exact h_
  | 4, h_ => exact h_
  | 5, h_ => exact h_
  | 6, h_ => exact h_
  | 7, h_ => exact h_
  | 8, h_ => exact h_
  | (_ + 9), _ => trivial
section
variable (g o n c g2 o2 c2 h : Nat) (S S2 : List Value) (bo : Bool) (w0 : World) (a0 : Act)
variable (hhn : (h : Int) < (n : Int))
variable (hld : ∀ W, Below w0.heap.size w0 W → W.rangeAt g (o + h * 32) S)
variable (hSi : (Try.prog.info? 23).map (·.size) = some S.length)
variable (hld2 : ∀ W, Below w0.heap.size w0 W → W.rangeAt g2 (o2 + h * 32) S2)
variable (hSi2 : (Try.prog.info? 23).map (·.size) = some S2.length)
variable (hneq : ∀ W, (Op.equalIn 10000 23 (.agg S.toArray) (.agg S2.toArray)).run Try.prog W = .ok bo W)
variable (i0 : a0.eval (.tmp 0) = (Value.slice (some ⟨g, o, none⟩) n c)) (i1 : a0.eval (.tmp 1) = (Value.slice (some ⟨g2, o2, none⟩) n c2)) (i5 : a0.eval (.tmp 5) = (Value.int IntKind.i64 (h : Int))) (hsz : a0.tmps.size = 26)
include g o n c g2 o2 c2 h S S2 bo w0 a0 hhn hld hSi hld2 hSi2 hneq i0 i1 i5 hsz
set_option maxHeartbeats 4000000 in
set_option maxRecDepth 20000 in
theorem rs6_h0 :
    Reg.OpOK Try.prog (Reg.opsOf Try.f13 6) a0 w0 (rs6R g o n c g2 o2 c2 h S S2 bo) (fun _ _ _ _ => True) 0 := by
    refine Reg.op_ok2 (fun af => { dst := some 17, op := Op.move (Operand.tmp 0), type := 32, pos := "ref.go:182", after := af, guard := none }) #[] (by kernel_rfl) [] (by kernel_rfl) fun af v W hb hd => ?_
    have e0 := (Reg.gfr_eval0 (ops := (Reg.opsOf Try.f13 6)) (a0 := a0) (v := v) (L := []) 0 (by kernel_rfl)).trans i0
    refine ⟨Reg.wanted_none rfl, ?_⟩
    generalize Reg.gfr (Reg.opsOf Try.f13 6) a0 v [] = G at e0 ⊢
    generalize hρ : G.eval = ρ at e0
    have hρ' : G.eval = ρ := hρ
    refine Reg.go_run (Value.slice (some ⟨g, o, none⟩) n c) W ?_ ?_
    · rw [hρ']; simp [execOp, go_sem, e0]
    · exact ⟨Below.refl _ _, rfl⟩
set_option maxHeartbeats 4000000 in
set_option maxRecDepth 20000 in
theorem rs6_h1 :
    Reg.OpOK Try.prog (Reg.opsOf Try.f13 6) a0 w0 (rs6R g o n c g2 o2 c2 h S S2 bo) (fun _ _ _ _ => True) 1 := by
    refine Reg.op_ok2 (fun af => { dst := some 18, op := Op.move (Operand.tmp 5), type := 3, pos := "ref.go:182", after := af, guard := none }) #[] (by kernel_rfl) [] (by kernel_rfl) fun af v W hb hd => ?_
    have e5 := (Reg.gfr_eval0 (ops := (Reg.opsOf Try.f13 6)) (a0 := a0) (v := v) (L := []) 5 (by kernel_rfl)).trans i5
    refine ⟨Reg.wanted_none rfl, ?_⟩
    generalize Reg.gfr (Reg.opsOf Try.f13 6) a0 v [] = G at e5 ⊢
    generalize hρ : G.eval = ρ at e5
    have hρ' : G.eval = ρ := hρ
    refine Reg.go_run (Value.int IntKind.i64 (h : Int)) W ?_ ?_
    · rw [hρ']; simp [execOp, go_sem, e5]
    · exact ⟨Below.refl _ _, rfl⟩
set_option maxHeartbeats 4000000 in
set_option maxRecDepth 20000 in
theorem rs6_h2 :
    Reg.OpOK Try.prog (Reg.opsOf Try.f13 6) a0 w0 (rs6R g o n c g2 o2 c2 h S S2 bo) (fun _ _ _ _ => True) 2 := by
    refine Reg.op_ok2 (fun af => { dst := some 19, op := Op.indexAddr 32 (Operand.tmp 17) (Operand.tmp 18), type := 0, pos := "ref.go:182", after := af, guard := none }) #[{ on := 0, ground := Ground.data }, { on := 1, ground := Ground.data }] (by kernel_rfl) [0, 1] (by kernel_rfl) fun af v W hb hd => ?_
    have d0 : v 0 = (Value.slice (some ⟨g, o, none⟩) n c) := hd 0 (by decide)
    have d1 : v 1 = (Value.int IntKind.i64 (h : Int)) := hd 1 (by decide)
    have e17 := (Reg.gfr_eval (ops := (Reg.opsOf Try.f13 6)) (a0 := a0) (v := v) (L := [0, 1]) 17 0 (by kernel_rfl) (by rw [hsz]; omega)).trans d0
    have e18 := (Reg.gfr_eval (ops := (Reg.opsOf Try.f13 6)) (a0 := a0) (v := v) (L := [0, 1]) 18 1 (by kernel_rfl) (by rw [hsz]; omega)).trans d1
    refine ⟨Reg.wanted_none rfl, ?_⟩
    generalize Reg.gfr (Reg.opsOf Try.f13 6) a0 v [0, 1] = G at e17 e18 ⊢
    generalize hρ : G.eval = ρ at e17 e18
    have hρ' : G.eval = ρ := hρ
    refine Reg.go_run (Value.pointer (some ⟨g, o + h * 32, none⟩)) W ?_ ?_
    · rw [hρ']; simp [execOp, go_sem, e17, e18, hhn, Try.underlying32, Try.sizeOf23]
    · exact ⟨Below.refl _ _, rfl⟩
set_option maxHeartbeats 4000000 in
set_option maxRecDepth 20000 in
theorem rs6_h3 :
    Reg.OpOK Try.prog (Reg.opsOf Try.f13 6) a0 w0 (rs6R g o n c g2 o2 c2 h S S2 bo) (fun _ _ _ _ => True) 3 := by
    refine Reg.op_ok2 (fun af => { dst := some 20, op := Op.load 23 (Operand.tmp 19), type := 23, pos := "ref.go:182", after := af, guard := none }) #[{ on := 2, ground := Ground.data }] (by kernel_rfl) [2] (by kernel_rfl) fun af v W hb hd => ?_
    have d2 : v 2 = (Value.pointer (some ⟨g, o + h * 32, none⟩)) := hd 2 (by decide)
    have e19 := (Reg.gfr_eval (ops := (Reg.opsOf Try.f13 6)) (a0 := a0) (v := v) (L := [2]) 19 2 (by kernel_rfl) (by rw [hsz]; omega)).trans d2
    refine ⟨Reg.wanted_none rfl, ?_⟩
    generalize Reg.gfr (Reg.opsOf Try.f13 6) a0 v [2] = G at e19 ⊢
    generalize hρ : G.eval = ρ at e19
    have hρ' : G.eval = ρ := hρ
    exact fun K hK => wp_load_mid 23 (.tmp 19) rfl g (o + h * 32) (by rw [hρ']; exact e19) S _ (hld W hb) Try.underlying23 rfl hSi (hK _ _ ⟨Below.refl _ _, rfl⟩)
set_option maxHeartbeats 4000000 in
set_option maxRecDepth 20000 in
theorem rs6_h4 :
    Reg.OpOK Try.prog (Reg.opsOf Try.f13 6) a0 w0 (rs6R g o n c g2 o2 c2 h S S2 bo) (fun _ _ _ _ => True) 4 := by
    refine Reg.op_ok2 (fun af => { dst := some 21, op := Op.move (Operand.tmp 1), type := 32, pos := "ref.go:182", after := af, guard := none }) #[] (by kernel_rfl) [] (by kernel_rfl) fun af v W hb hd => ?_
    have e1 := (Reg.gfr_eval0 (ops := (Reg.opsOf Try.f13 6)) (a0 := a0) (v := v) (L := []) 1 (by kernel_rfl)).trans i1
    refine ⟨Reg.wanted_none rfl, ?_⟩
    generalize Reg.gfr (Reg.opsOf Try.f13 6) a0 v [] = G at e1 ⊢
    generalize hρ : G.eval = ρ at e1
    have hρ' : G.eval = ρ := hρ
    refine Reg.go_run (Value.slice (some ⟨g2, o2, none⟩) n c2) W ?_ ?_
    · rw [hρ']; simp [execOp, go_sem, e1]
    · exact ⟨Below.refl _ _, rfl⟩
set_option maxHeartbeats 4000000 in
set_option maxRecDepth 20000 in
theorem rs6_h5 :
    Reg.OpOK Try.prog (Reg.opsOf Try.f13 6) a0 w0 (rs6R g o n c g2 o2 c2 h S S2 bo) (fun _ _ _ _ => True) 5 := by
    refine Reg.op_ok2 (fun af => { dst := some 22, op := Op.move (Operand.tmp 5), type := 3, pos := "ref.go:182", after := af, guard := none }) #[] (by kernel_rfl) [] (by kernel_rfl) fun af v W hb hd => ?_
    have e5 := (Reg.gfr_eval0 (ops := (Reg.opsOf Try.f13 6)) (a0 := a0) (v := v) (L := []) 5 (by kernel_rfl)).trans i5
    refine ⟨Reg.wanted_none rfl, ?_⟩
    generalize Reg.gfr (Reg.opsOf Try.f13 6) a0 v [] = G at e5 ⊢
    generalize hρ : G.eval = ρ at e5
    have hρ' : G.eval = ρ := hρ
    refine Reg.go_run (Value.int IntKind.i64 (h : Int)) W ?_ ?_
    · rw [hρ']; simp [execOp, go_sem, e5]
    · exact ⟨Below.refl _ _, rfl⟩
set_option maxHeartbeats 4000000 in
set_option maxRecDepth 20000 in
theorem rs6_h6 :
    Reg.OpOK Try.prog (Reg.opsOf Try.f13 6) a0 w0 (rs6R g o n c g2 o2 c2 h S S2 bo) (fun _ _ _ _ => True) 6 := by
    refine Reg.op_ok2 (fun af => { dst := some 23, op := Op.indexAddr 32 (Operand.tmp 21) (Operand.tmp 22), type := 0, pos := "ref.go:182", after := af, guard := none }) #[{ on := 4, ground := Ground.data }, { on := 5, ground := Ground.data }] (by kernel_rfl) [4, 5] (by kernel_rfl) fun af v W hb hd => ?_
    have d4 : v 4 = (Value.slice (some ⟨g2, o2, none⟩) n c2) := hd 4 (by decide)
    have d5 : v 5 = (Value.int IntKind.i64 (h : Int)) := hd 5 (by decide)
    have e21 := (Reg.gfr_eval (ops := (Reg.opsOf Try.f13 6)) (a0 := a0) (v := v) (L := [4, 5]) 21 4 (by kernel_rfl) (by rw [hsz]; omega)).trans d4
    have e22 := (Reg.gfr_eval (ops := (Reg.opsOf Try.f13 6)) (a0 := a0) (v := v) (L := [4, 5]) 22 5 (by kernel_rfl) (by rw [hsz]; omega)).trans d5
    refine ⟨Reg.wanted_none rfl, ?_⟩
    generalize Reg.gfr (Reg.opsOf Try.f13 6) a0 v [4, 5] = G at e21 e22 ⊢
    generalize hρ : G.eval = ρ at e21 e22
    have hρ' : G.eval = ρ := hρ
    refine Reg.go_run (Value.pointer (some ⟨g2, o2 + h * 32, none⟩)) W ?_ ?_
    · rw [hρ']; simp [execOp, go_sem, e21, e22, hhn, Try.underlying32, Try.sizeOf23]
    · exact ⟨Below.refl _ _, rfl⟩
set_option maxHeartbeats 4000000 in
set_option maxRecDepth 20000 in
theorem rs6_h7 :
    Reg.OpOK Try.prog (Reg.opsOf Try.f13 6) a0 w0 (rs6R g o n c g2 o2 c2 h S S2 bo) (fun _ _ _ _ => True) 7 := by
    refine Reg.op_ok2 (fun af => { dst := some 24, op := Op.load 23 (Operand.tmp 23), type := 23, pos := "ref.go:182", after := af, guard := none }) #[{ on := 6, ground := Ground.data }] (by kernel_rfl) [6] (by kernel_rfl) fun af v W hb hd => ?_
    have d6 : v 6 = (Value.pointer (some ⟨g2, o2 + h * 32, none⟩)) := hd 6 (by decide)
    have e23 := (Reg.gfr_eval (ops := (Reg.opsOf Try.f13 6)) (a0 := a0) (v := v) (L := [6]) 23 6 (by kernel_rfl) (by rw [hsz]; omega)).trans d6
    refine ⟨Reg.wanted_none rfl, ?_⟩
    generalize Reg.gfr (Reg.opsOf Try.f13 6) a0 v [6] = G at e23 ⊢
    generalize hρ : G.eval = ρ at e23
    have hρ' : G.eval = ρ := hρ
    exact fun K hK => wp_load_mid 23 (.tmp 23) rfl g2 (o2 + h * 32) (by rw [hρ']; exact e23) S2 _ (hld2 W hb) Try.underlying23 rfl hSi2 (hK _ _ ⟨Below.refl _ _, rfl⟩)
set_option maxHeartbeats 4000000 in
set_option maxRecDepth 20000 in
theorem rs6_h8 :
    Reg.OpOK Try.prog (Reg.opsOf Try.f13 6) a0 w0 (rs6R g o n c g2 o2 c2 h S S2 bo) (fun _ _ _ _ => True) 8 := by
    refine Reg.op_ok2 (fun af => { dst := some 25, op := Op.binOp BinOp.neq 23 (Operand.tmp 20) (Operand.tmp 24) 23, type := 4, pos := "ref.go:182", after := af, guard := none }) #[{ on := 3, ground := Ground.data }, { on := 7, ground := Ground.data }] (by kernel_rfl) [3, 7] (by kernel_rfl) fun af v W hb hd => ?_
    have d3 : v 3 = (Value.agg S.toArray) := hd 3 (by decide)
    have d7 : v 7 = (Value.agg S2.toArray) := hd 7 (by decide)
    have e20 := (Reg.gfr_eval (ops := (Reg.opsOf Try.f13 6)) (a0 := a0) (v := v) (L := [3, 7]) 20 3 (by kernel_rfl) (by rw [hsz]; omega)).trans d3
    have e24 := (Reg.gfr_eval (ops := (Reg.opsOf Try.f13 6)) (a0 := a0) (v := v) (L := [3, 7]) 24 7 (by kernel_rfl) (by rw [hsz]; omega)).trans d7
    refine ⟨Reg.wanted_none rfl, ?_⟩
    generalize Reg.gfr (Reg.opsOf Try.f13 6) a0 v [3, 7] = G at e20 e24 ⊢
    generalize hρ : G.eval = ρ at e20 e24
    have hρ' : G.eval = ρ := hρ
    refine Reg.go_run (Value.bool (!bo)) W ?_ ?_
    · rw [hρ']; simp [execOp, go_sem, e20, e24, hneq]
    · exact ⟨Below.refl _ _, rfl⟩
end
set_option maxHeartbeats 4000000 in
set_option maxRecDepth 20000 in
theorem rs6 (g o n c g2 o2 c2 h : Nat) (S S2 : List Value) (bo : Bool) (w0 : World) {s2 s3 s4 s6 s7 s8 s9 s10 s11 s12 s13 s14 s15 s16 s17 s18 s19 s20 s21 s22 s23 s24 s25 : Value}
    (hhn : (h : Int) < (n : Int))
    (hld : ∀ W, Below w0.heap.size w0 W → W.rangeAt g (o + h * 32) S)
    (hSi : (Try.prog.info? 23).map (·.size) = some S.length)
    (hld2 : ∀ W, Below w0.heap.size w0 W → W.rangeAt g2 (o2 + h * 32) S2)
    (hSi2 : (Try.prog.info? 23).map (·.size) = some S2.length)
    (hneq : ∀ W, (Op.equalIn 10000 23 (.agg S.toArray) (.agg S2.toArray)).run Try.prog W = .ok bo W)
    {Q : Exit → Act → World → Prop}
    (hend : ∀ (w : World), Below w0.heap.size w0 w → Q .normal { tmps := #[(Value.slice (some ⟨g, o, none⟩) n c), (Value.slice (some ⟨g2, o2, none⟩) n c2), s2, s3, s4, (Value.int IntKind.i64 (h : Int)), s6, s7, s8, s9, s10, s11, s12, s13, s14, s15, s16, (Value.slice (some ⟨g, o, none⟩) n c), (Value.int IntKind.i64 (h : Int)), (Value.pointer (some ⟨g, o + h * 32, none⟩)), (Value.agg S.toArray), (Value.slice (some ⟨g2, o2, none⟩) n c2), (Value.int IntKind.i64 (h : Int)), (Value.pointer (some ⟨g2, o2 + h * 32, none⟩)), (Value.agg S2.toArray), (Value.bool (!bo))], defers := [] } w) :
    (Code.region 6 (Reg.opsOf Try.f13 6) true).wp Try.prog Q { tmps := #[(Value.slice (some ⟨g, o, none⟩) n c), (Value.slice (some ⟨g2, o2, none⟩) n c2), s2, s3, s4, (Value.int IntKind.i64 (h : Int)), s6, s7, s8, s9, s10, s11, s12, s13, s14, s15, s16, s17, s18, s19, s20, s21, s22, s23, s24, s25], defers := [] } w0 := by
  obtain ⟨a0, ha0⟩ : ∃ a0 : Act, a0 = { tmps := #[(Value.slice (some ⟨g, o, none⟩) n c), (Value.slice (some ⟨g2, o2, none⟩) n c2), s2, s3, s4, (Value.int IntKind.i64 (h : Int)), s6, s7, s8, s9, s10, s11, s12, s13, s14, s15, s16, s17, s18, s19, s20, s21, s22, s23, s24, s25], defers := [] } := ⟨_, rfl⟩
  have hfin : ∀ v : Nat → Value, Reg.gfr (Reg.opsOf Try.f13 6) a0 v (List.range 9) = { tmps := #[(Value.slice (some ⟨g, o, none⟩) n c), (Value.slice (some ⟨g2, o2, none⟩) n c2), s2, s3, s4, (Value.int IntKind.i64 (h : Int)), s6, s7, s8, s9, s10, s11, s12, s13, s14, s15, s16, v 0, v 1, v 2, v 3, v 4, v 5, v 6, v 7, v 8], defers := [] } := fun v => by rw [ha0]; kernel_rfl
  rw [← ha0]
  have i0 : a0.eval (.tmp 0) = (Value.slice (some ⟨g, o, none⟩) n c) := by rw [ha0]; rfl
  have i1 : a0.eval (.tmp 1) = (Value.slice (some ⟨g2, o2, none⟩) n c2) := by rw [ha0]; rfl
  have i5 : a0.eval (.tmp 5) = (Value.int IntKind.i64 (h : Int)) := by rw [ha0]; rfl
  have hsz : a0.tmps.size = 26 := by rw [ha0]; rfl
  clear ha0
  have hn : (Reg.opsOf Try.f13 6).size = 9 := by kernel_rfl
  have h0 := rs6_h0 g o n c g2 o2 c2 h S S2 bo w0 a0 hhn hld hSi hld2 hSi2 hneq i0 i1 i5 hsz
  have h1 := rs6_h1 g o n c g2 o2 c2 h S S2 bo w0 a0 hhn hld hSi hld2 hSi2 hneq i0 i1 i5 hsz
  have h2 := rs6_h2 g o n c g2 o2 c2 h S S2 bo w0 a0 hhn hld hSi hld2 hSi2 hneq i0 i1 i5 hsz
  have h3 := rs6_h3 g o n c g2 o2 c2 h S S2 bo w0 a0 hhn hld hSi hld2 hSi2 hneq i0 i1 i5 hsz
  have h4 := rs6_h4 g o n c g2 o2 c2 h S S2 bo w0 a0 hhn hld hSi hld2 hSi2 hneq i0 i1 i5 hsz
  have h5 := rs6_h5 g o n c g2 o2 c2 h S S2 bo w0 a0 hhn hld hSi hld2 hSi2 hneq i0 i1 i5 hsz
  have h6 := rs6_h6 g o n c g2 o2 c2 h S S2 bo w0 a0 hhn hld hSi hld2 hSi2 hneq i0 i1 i5 hsz
  have h7 := rs6_h7 g o n c g2 o2 c2 h S S2 bo w0 a0 hhn hld hSi hld2 hSi2 hneq i0 i1 i5 hsz
  have h8 := rs6_h8 g o n c g2 o2 c2 h S S2 bo w0 a0 hhn hld hSi hld2 hSi2 hneq i0 i1 i5 hsz
  refine Reg.region_all (by kernel_rfl) (rs6R g o n c g2 o2 c2 h S S2 bo) (by rw [hn, hsz]; kernel_rfl) (rs6_stable g o n c g2 o2 c2 h S S2 bo) (fun i hi => ?_) (fun v w hb hR => ?_)
  · rw [hn] at hi
    match i, List.mem_range.1 hi with
    | 0, _ => exact h0
    | 1, _ => exact h1
    | 2, _ => exact h2
    | 3, _ => exact h3
    | 4, _ => exact h4
    | 5, _ => exact h5
    | 6, _ => exact h6
    | 7, _ => exact h7
    | 8, _ => exact h8
    | (_ + 9), h => omega
  · rw [hn] at hR ⊢
    have v0 : v 0 = (Value.slice (some ⟨g, o, none⟩) n c) := hR 0 (by decide)
    have v1 : v 1 = (Value.int IntKind.i64 (h : Int)) := hR 1 (by decide)
    have v2 : v 2 = (Value.pointer (some ⟨g, o + h * 32, none⟩)) := hR 2 (by decide)
    have v3 : v 3 = (Value.agg S.toArray) := hR 3 (by decide)
    have v4 : v 4 = (Value.slice (some ⟨g2, o2, none⟩) n c2) := hR 4 (by decide)
    have v5 : v 5 = (Value.int IntKind.i64 (h : Int)) := hR 5 (by decide)
    have v6 : v 6 = (Value.pointer (some ⟨g2, o2 + h * 32, none⟩)) := hR 6 (by decide)
    have v7 : v 7 = (Value.agg S2.toArray) := hR 7 (by decide)
    have v8 : v 8 = (Value.bool (!bo)) := hR 8 (by decide)
    rw [hfin v, v0, v1, v2, v3, v4, v5, v6, v7, v8]
    exact hend w  hb 
end Go.Proofs.Ytcdnbidenaljlaa
