/- Regions that draw their order: their obligations (printed by regen2.py). -/
import Derived.Test.YtcdnbidenaljlaaSetC
import Derived.Test.YtcdnbidenaljlaaRegT
namespace Go.Proofs.Ytcdnbidenaljlaa
open Go.RowKit
set_option linter.unusedVariables false
set_option linter.unusedSimpArgs false
set_option linter.unusedSectionVars false
def rh4R (g o n c h tb : Nat) (S : List Value) (TC : Array Value) (bo : Bool) : Nat → Value → World → Prop
  | 0 => fun x_ _ => x_ = (Value.slice (some ⟨g, o, none⟩) n c)
  | 1 => fun x_ _ => x_ = (Value.int IntKind.i64 (h : Int))
  | 2 => fun x_ _ => x_ = (Value.pointer (some ⟨g, o + h * 32, none⟩))
  | 3 => fun x_ _ => x_ = (Value.agg S.toArray)
  | 4 => fun x_ _ => x_ = (Value.agg TC)
  | 5 => fun x_ _ => x_ = (Value.bool bo)
  | _ => fun _ _ => True
theorem rh4_stable (g o n c h tb : Nat) (S : List Value) (TC : Array Value) (bo : Bool) : ∀ i_ u_ w_ w_', (rh4R g o n c h tb S TC bo) i_ u_ w_ → Below w_.heap.size w_ w_' → (rh4R g o n c h tb S TC bo) i_ u_ w_' := fun i_ u_ w_ w_' h_ hb_ => by
  match i_, h_ with
  | 0, h_ => exact h_
  | 1, h_ => exact h_
  | 2, h_ => exact h_
  | 3, h_ => exact h_
  | 4, h_ => exact h_
  | 5, h_ => exact h_
  | (_ + 6), _ => trivial
section
variable (g o n c h tb : Nat) (S : List Value) (TC : Array Value) (bo : Bool) (w0 : World) (a0 : Act)
variable (hhn : (h : Int) < (n : Int))
variable (hld : ∀ W, Below w0.heap.size w0 W → W.rangeAt g (o + h * 32) S)
variable (hSi : (Try.prog.info? 23).map (·.size) = some S.length)
variable (hTi : (Try.prog.info? 23).map (·.size) = some TC.size)
variable (heqv : ∀ W, (Op.equalIn 10000 23 (.agg S.toArray) (.agg TC)).run Try.prog W = .ok bo W)
variable (M_tb : ∀ W, Below w0.heap.size w0 W → W.heap[tb]? = some (.cells TC 23 (0, 0)))
variable (i0 : a0.eval (.tmp 0) = (Value.slice (some ⟨g, o, none⟩) n c)) (i3 : a0.eval (.tmp 3) = (Value.pointer (some ⟨tb, 0, none⟩))) (i5 : a0.eval (.tmp 5) = (Value.int IntKind.i64 (h : Int))) (hsz : a0.tmps.size = 18)
include g o n c h tb S TC bo w0 a0 hhn hld hSi hTi heqv M_tb i0 i3 i5 hsz
set_option maxHeartbeats 4000000 in
set_option maxRecDepth 20000 in
theorem rh4_h0 :
    Reg.OpOK Try.prog (Reg.opsOf Try.f15 4) a0 w0 (rh4R g o n c h tb S TC bo) (fun _ _ _ _ => True) 0 := by
    refine Reg.op_ok2 (fun af => { dst := some 12, op := Op.move (Operand.tmp 0), type := 32, pos := "ref.go:138", after := af, guard := none }) #[] (by kernel_rfl) [] (by kernel_rfl) fun af v W hb hd => ?_
    have e0 := (Reg.gfr_eval0 (ops := (Reg.opsOf Try.f15 4)) (a0 := a0) (v := v) (L := []) 0 (by kernel_rfl)).trans i0
    refine ⟨Reg.wanted_none rfl, ?_⟩
    generalize Reg.gfr (Reg.opsOf Try.f15 4) a0 v [] = G at e0 ⊢
    generalize hρ : G.eval = ρ at e0
    have hρ' : G.eval = ρ := hρ
    refine Reg.go_run (Value.slice (some ⟨g, o, none⟩) n c) W ?_ ?_
    · rw [hρ']; simp [execOp, go_sem, e0]
    · exact ⟨Below.refl _ _, rfl⟩
set_option maxHeartbeats 4000000 in
set_option maxRecDepth 20000 in
theorem rh4_h1 :
    Reg.OpOK Try.prog (Reg.opsOf Try.f15 4) a0 w0 (rh4R g o n c h tb S TC bo) (fun _ _ _ _ => True) 1 := by
    refine Reg.op_ok2 (fun af => { dst := some 13, op := Op.move (Operand.tmp 5), type := 3, pos := "ref.go:138", after := af, guard := none }) #[] (by kernel_rfl) [] (by kernel_rfl) fun af v W hb hd => ?_
    have e5 := (Reg.gfr_eval0 (ops := (Reg.opsOf Try.f15 4)) (a0 := a0) (v := v) (L := []) 5 (by kernel_rfl)).trans i5
    refine ⟨Reg.wanted_none rfl, ?_⟩
    generalize Reg.gfr (Reg.opsOf Try.f15 4) a0 v [] = G at e5 ⊢
    generalize hρ : G.eval = ρ at e5
    have hρ' : G.eval = ρ := hρ
    refine Reg.go_run (Value.int IntKind.i64 (h : Int)) W ?_ ?_
    · rw [hρ']; simp [execOp, go_sem, e5]
    · exact ⟨Below.refl _ _, rfl⟩
set_option maxHeartbeats 4000000 in
set_option maxRecDepth 20000 in
theorem rh4_h2 :
    Reg.OpOK Try.prog (Reg.opsOf Try.f15 4) a0 w0 (rh4R g o n c h tb S TC bo) (fun _ _ _ _ => True) 2 := by
    refine Reg.op_ok2 (fun af => { dst := some 14, op := Op.indexAddr 32 (Operand.tmp 12) (Operand.tmp 13), type := 0, pos := "ref.go:138", after := af, guard := none }) #[{ on := 0, ground := Ground.data }, { on := 1, ground := Ground.data }] (by kernel_rfl) [0, 1] (by kernel_rfl) fun af v W hb hd => ?_
    have d0 : v 0 = (Value.slice (some ⟨g, o, none⟩) n c) := hd 0 (by decide)
    have d1 : v 1 = (Value.int IntKind.i64 (h : Int)) := hd 1 (by decide)
    have e12 := (Reg.gfr_eval (ops := (Reg.opsOf Try.f15 4)) (a0 := a0) (v := v) (L := [0, 1]) 12 0 (by kernel_rfl) (by rw [hsz]; omega)).trans d0
    have e13 := (Reg.gfr_eval (ops := (Reg.opsOf Try.f15 4)) (a0 := a0) (v := v) (L := [0, 1]) 13 1 (by kernel_rfl) (by rw [hsz]; omega)).trans d1
    refine ⟨Reg.wanted_none rfl, ?_⟩
    generalize Reg.gfr (Reg.opsOf Try.f15 4) a0 v [0, 1] = G at e12 e13 ⊢
    generalize hρ : G.eval = ρ at e12 e13
    have hρ' : G.eval = ρ := hρ
    refine Reg.go_run (Value.pointer (some ⟨g, o + h * 32, none⟩)) W ?_ ?_
    · rw [hρ']; simp [execOp, go_sem, e12, e13, hhn, Try.underlying32, Try.sizeOf23]
    · exact ⟨Below.refl _ _, rfl⟩
set_option maxHeartbeats 4000000 in
set_option maxRecDepth 20000 in
theorem rh4_h3 :
    Reg.OpOK Try.prog (Reg.opsOf Try.f15 4) a0 w0 (rh4R g o n c h tb S TC bo) (fun _ _ _ _ => True) 3 := by
    refine Reg.op_ok2 (fun af => { dst := some 15, op := Op.load 23 (Operand.tmp 14), type := 23, pos := "ref.go:138", after := af, guard := none }) #[{ on := 2, ground := Ground.data }] (by kernel_rfl) [2] (by kernel_rfl) fun af v W hb hd => ?_
    have d2 : v 2 = (Value.pointer (some ⟨g, o + h * 32, none⟩)) := hd 2 (by decide)
    have e14 := (Reg.gfr_eval (ops := (Reg.opsOf Try.f15 4)) (a0 := a0) (v := v) (L := [2]) 14 2 (by kernel_rfl) (by rw [hsz]; omega)).trans d2
    refine ⟨Reg.wanted_none rfl, ?_⟩
    generalize Reg.gfr (Reg.opsOf Try.f15 4) a0 v [2] = G at e14 ⊢
    generalize hρ : G.eval = ρ at e14
    have hρ' : G.eval = ρ := hρ
    exact fun K hK => wp_load_mid 23 (.tmp 14) rfl g (o + h * 32) (by rw [hρ']; exact e14) S _ (hld W hb) Try.underlying23 rfl hSi (hK _ _ ⟨Below.refl _ _, rfl⟩)
set_option maxHeartbeats 4000000 in
set_option maxRecDepth 20000 in
theorem rh4_h4 :
    Reg.OpOK Try.prog (Reg.opsOf Try.f15 4) a0 w0 (rh4R g o n c h tb S TC bo) (fun _ _ _ _ => True) 4 := by
    refine Reg.op_ok2 (fun af => { dst := some 16, op := Op.load 23 (Operand.tmp 3), type := 23, pos := "ref.go:138", after := af, guard := none }) #[] (by kernel_rfl) [] (by kernel_rfl) fun af v W hb hd => ?_
    have e3 := (Reg.gfr_eval0 (ops := (Reg.opsOf Try.f15 4)) (a0 := a0) (v := v) (L := []) 3 (by kernel_rfl)).trans i3
    refine ⟨Reg.wanted_none rfl, ?_⟩
    generalize Reg.gfr (Reg.opsOf Try.f15 4) a0 v [] = G at e3 ⊢
    generalize hρ : G.eval = ρ at e3
    have hρ' : G.eval = ρ := hρ
    exact fun K hK => wp_load_row 23 (.tmp 3) rfl tb (by rw [hρ']; exact e3) 23 TC (0, 0) _ (M_tb W hb) Try.underlying23 rfl hTi (hK _ _ ⟨Below.refl _ _, rfl⟩)
set_option maxHeartbeats 4000000 in
set_option maxRecDepth 20000 in
theorem rh4_h5 :
    Reg.OpOK Try.prog (Reg.opsOf Try.f15 4) a0 w0 (rh4R g o n c h tb S TC bo) (fun _ _ _ _ => True) 5 := by
    refine Reg.op_ok2 (fun af => { dst := some 17, op := Op.binOp BinOp.eql 23 (Operand.tmp 15) (Operand.tmp 16) 23, type := 4, pos := "ref.go:138", after := af, guard := none }) #[{ on := 3, ground := Ground.data }, { on := 4, ground := Ground.data }] (by kernel_rfl) [3, 4] (by kernel_rfl) fun af v W hb hd => ?_
    have d3 : v 3 = (Value.agg S.toArray) := hd 3 (by decide)
    have d4 : v 4 = (Value.agg TC) := hd 4 (by decide)
    have e15 := (Reg.gfr_eval (ops := (Reg.opsOf Try.f15 4)) (a0 := a0) (v := v) (L := [3, 4]) 15 3 (by kernel_rfl) (by rw [hsz]; omega)).trans d3
    have e16 := (Reg.gfr_eval (ops := (Reg.opsOf Try.f15 4)) (a0 := a0) (v := v) (L := [3, 4]) 16 4 (by kernel_rfl) (by rw [hsz]; omega)).trans d4
    refine ⟨Reg.wanted_none rfl, ?_⟩
    generalize Reg.gfr (Reg.opsOf Try.f15 4) a0 v [3, 4] = G at e15 e16 ⊢
    generalize hρ : G.eval = ρ at e15 e16
    have hρ' : G.eval = ρ := hρ
    refine Reg.go_run (Value.bool bo) W ?_ ?_
    · rw [hρ']; simp [execOp, go_sem, e15, e16, heqv]
    · exact ⟨Below.refl _ _, rfl⟩
end
set_option maxHeartbeats 4000000 in
set_option maxRecDepth 20000 in
theorem rh4 (g o n c h tb : Nat) (S : List Value) (TC : Array Value) (bo : Bool) (w0 : World) {s1 s2 s4 s6 s7 s8 s9 s10 s11 s12 s13 s14 s15 s16 s17 : Value}
    (hhn : (h : Int) < (n : Int))
    (hld : ∀ W, Below w0.heap.size w0 W → W.rangeAt g (o + h * 32) S)
    (hSi : (Try.prog.info? 23).map (·.size) = some S.length)
    (hTi : (Try.prog.info? 23).map (·.size) = some TC.size)
    (heqv : ∀ W, (Op.equalIn 10000 23 (.agg S.toArray) (.agg TC)).run Try.prog W = .ok bo W)
    (M_tb : ∀ W, Below w0.heap.size w0 W → W.heap[tb]? = some (.cells TC 23 (0, 0)))
    {Q : Exit → Act → World → Prop}
    (hend : ∀ (w : World), Below w0.heap.size w0 w → Q .normal { tmps := #[(Value.slice (some ⟨g, o, none⟩) n c), s1, s2, (Value.pointer (some ⟨tb, 0, none⟩)), s4, (Value.int IntKind.i64 (h : Int)), s6, s7, s8, s9, s10, s11, (Value.slice (some ⟨g, o, none⟩) n c), (Value.int IntKind.i64 (h : Int)), (Value.pointer (some ⟨g, o + h * 32, none⟩)), (Value.agg S.toArray), (Value.agg TC), (Value.bool bo)], defers := [] } w) :
    (Code.region 4 (Reg.opsOf Try.f15 4) true).wp Try.prog Q { tmps := #[(Value.slice (some ⟨g, o, none⟩) n c), s1, s2, (Value.pointer (some ⟨tb, 0, none⟩)), s4, (Value.int IntKind.i64 (h : Int)), s6, s7, s8, s9, s10, s11, s12, s13, s14, s15, s16, s17], defers := [] } w0 := by
  obtain ⟨a0, ha0⟩ : ∃ a0 : Act, a0 = { tmps := #[(Value.slice (some ⟨g, o, none⟩) n c), s1, s2, (Value.pointer (some ⟨tb, 0, none⟩)), s4, (Value.int IntKind.i64 (h : Int)), s6, s7, s8, s9, s10, s11, s12, s13, s14, s15, s16, s17], defers := [] } := ⟨_, rfl⟩
  have hfin : ∀ v : Nat → Value, Reg.gfr (Reg.opsOf Try.f15 4) a0 v (List.range 6) = { tmps := #[(Value.slice (some ⟨g, o, none⟩) n c), s1, s2, (Value.pointer (some ⟨tb, 0, none⟩)), s4, (Value.int IntKind.i64 (h : Int)), s6, s7, s8, s9, s10, s11, v 0, v 1, v 2, v 3, v 4, v 5], defers := [] } := fun v => by rw [ha0]; kernel_rfl
  rw [← ha0]
  have i0 : a0.eval (.tmp 0) = (Value.slice (some ⟨g, o, none⟩) n c) := by rw [ha0]; rfl
  have i3 : a0.eval (.tmp 3) = (Value.pointer (some ⟨tb, 0, none⟩)) := by rw [ha0]; rfl
  have i5 : a0.eval (.tmp 5) = (Value.int IntKind.i64 (h : Int)) := by rw [ha0]; rfl
  have hsz : a0.tmps.size = 18 := by rw [ha0]; rfl
  clear ha0
  have hn : (Reg.opsOf Try.f15 4).size = 6 := by kernel_rfl
  have h0 := rh4_h0 g o n c h tb S TC bo w0 a0 hhn hld hSi hTi heqv M_tb i0 i3 i5 hsz
  have h1 := rh4_h1 g o n c h tb S TC bo w0 a0 hhn hld hSi hTi heqv M_tb i0 i3 i5 hsz
  have h2 := rh4_h2 g o n c h tb S TC bo w0 a0 hhn hld hSi hTi heqv M_tb i0 i3 i5 hsz
  have h3 := rh4_h3 g o n c h tb S TC bo w0 a0 hhn hld hSi hTi heqv M_tb i0 i3 i5 hsz
  have h4 := rh4_h4 g o n c h tb S TC bo w0 a0 hhn hld hSi hTi heqv M_tb i0 i3 i5 hsz
  have h5 := rh4_h5 g o n c h tb S TC bo w0 a0 hhn hld hSi hTi heqv M_tb i0 i3 i5 hsz
  refine Reg.region_all (by kernel_rfl) (rh4R g o n c h tb S TC bo) (by rw [hn, hsz]; kernel_rfl) (rh4_stable g o n c h tb S TC bo) (fun i hi => ?_) (fun v w hb hR => ?_)
  · rw [hn] at hi
    match i, List.mem_range.1 hi with
    | 0, _ => exact h0
    | 1, _ => exact h1
    | 2, _ => exact h2
    | 3, _ => exact h3
    | 4, _ => exact h4
    | 5, _ => exact h5
    | (_ + 6), h => omega
  · rw [hn] at hR ⊢
    have v0 : v 0 = (Value.slice (some ⟨g, o, none⟩) n c) := hR 0 (by decide)
    have v1 : v 1 = (Value.int IntKind.i64 (h : Int)) := hR 1 (by decide)
    have v2 : v 2 = (Value.pointer (some ⟨g, o + h * 32, none⟩)) := hR 2 (by decide)
    have v3 : v 3 = (Value.agg S.toArray) := hR 3 (by decide)
    have v4 : v 4 = (Value.agg TC) := hR 4 (by decide)
    have v5 : v 5 = (Value.bool bo) := hR 5 (by decide)
    rw [hfin v, v0, v1, v2, v3, v4, v5]
    exact hend w  hb 
end Go.Proofs.Ytcdnbidenaljlaa
