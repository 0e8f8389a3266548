/- Regions that draw their order: their obligations (printed by regen2.py). -/
import Derived.Test.YtfojlmnlolnilaaNetM
import Derived.Test.YtfojlmnlolnilaaRegT
namespace Go.Proofs.Ytfojlmnlolnilaa
open Go.RowKit
set_option linter.unusedVariables false
set_option linter.unusedSimpArgs false
set_option linter.unusedSectionVars false
def ncnt5R (nn cc ii fb fn fc sc : Nat) (AA sA fA : Option Addr) (ff tt : Int) (bb : Bool) : Nat → Value → World → Prop
  | 0 => fun x_ _ => x_ = (Value.slice AA nn cc)
  | 1 => fun x_ _ => x_ = (Value.int IntKind.i64 (ii : Int))
  | 2 => fun x_ _ => x_ = (Value.int IntKind.i64 (ii : Int))
  | 3 => fun x_ _ => x_ = (Value.int IntKind.i64 ((ii : Int) + 1))
  | 4 => fun x_ _ => x_ = (Value.slice sA 1 sc)
  | 5 => fun x_ _ => x_ = (Value.agg #[Value.int IntKind.i64 ff, Value.int IntKind.i64 tt, Value.slice fA fn fc])
  | 6 => (fun u_ w_ => ∃ b_, u_ = Value.slice (some ⟨b_, 0, none⟩) 1 1 ∧ w_.heap[b_]? = some (.cells #[Value.int IntKind.i64 ff, Value.int IntKind.i64 tt, Value.slice fA fn fc] 38 (0, 0)))
  | 7 => fun x_ _ => x_ = (Value.bool bb)
  | _ => fun _ _ => True
theorem ncnt5_stable (nn cc ii fb fn fc sc : Nat) (AA sA fA : Option Addr) (ff tt : Int) (bb : Bool) : ∀ i_ u_ w_ w_', (ncnt5R nn cc ii fb fn fc sc AA sA fA ff tt bb) i_ u_ w_ → Below w_.heap.size w_ w_' → (ncnt5R nn cc ii fb fn fc sc AA sA fA ff tt bb) i_ u_ w_' := fun i_ u_ w_ w_' h_ hb_ => by
  match i_, h_ with
  | 0, h_ => exact h_
  | 1, h_ => exact h_
  | 2, h_ => exact h_
  | 3, h_ => exact h_
  | 4, h_ => exact h_
  | 5, h_ => exact h_
  | 6, h_ => exact ((by obtain ⟨b_, h1_, h2_⟩ := h_; exact ⟨b_, h1_, (hb_.block _ (lt_get h2_)).trans h2_⟩))
  | 7, h_ => exact h_
  | (_ + 8), _ => trivial
section
variable (nn cc ii fb fn fc sc : Nat) (AA sA fA : Option Addr) (ff tt : Int) (bb : Bool) (w0 : World) (a0 : Act)
variable (hwk : IntKind.i64.wrap ((ii : Int) + 1) = (ii : Int) + 1)
variable (hs4 : ∀ W : World, (Instr.slice 35 (.slice AA nn cc) (some (.int .i64 (ii : Int))) (some (.int .i64 ((ii : Int) + 1))) none).run Try.prog W = .ok (.slice sA 1 sc) W)
variable (hsm : ∀ W b, Below w0.heap.size w0 W → W.heap[b]? = some (.cells #[Value.int IntKind.i64 ff, Value.int IntKind.i64 tt, Value.slice fA fn fc] 38 (0, 0)) → Calls Try.prog 19 #[.slice sA 1 sc, .slice (some ⟨b, 0, none⟩) 1 1] W fun e w' => e = .returned (.bool bb) ∧ Below W.heap.size W w')
variable (M_fb : ∀ W, Below w0.heap.size w0 W → W.heap[fb]? = some (.cells #[Value.int IntKind.i64 ff, Value.int IntKind.i64 tt, Value.slice fA fn fc] 38 (0, 0)))
variable (i0 : a0.eval (.tmp 0) = (Value.slice AA nn cc)) (i3 : a0.eval (.tmp 3) = (Value.pointer (some ⟨fb, 0, none⟩))) (i6 : a0.eval (.tmp 6) = (Value.int IntKind.i64 (ii : Int))) (hsz : a0.tmps.size = 24)
include nn cc ii fb fn fc sc AA sA fA ff tt bb w0 a0 hwk hs4 hsm M_fb i0 i3 i6 hsz
set_option maxHeartbeats 4000000 in
set_option maxRecDepth 20000 in
theorem ncnt5_h0 :
    Reg.OpOK Try.prog (Reg.opsOf Try.f22 5) a0 w0 (ncnt5R nn cc ii fb fn fc sc AA sA fA ff tt bb) (fun _ _ _ _ => True) 0 := by
    refine Reg.op_ok2 (fun af => { dst := some 12, op := Op.move (Operand.tmp 0), type := 35, pos := "outright.go:61", after := af, guard := none }) #[] (by kernel_rfl) [] (by kernel_rfl) fun af v W hb hd => ?_
    have e0 := (Reg.gfr_eval0 (ops := (Reg.opsOf Try.f22 5)) (a0 := a0) (v := v) (L := []) 0 (by kernel_rfl)).trans i0
    refine ⟨Reg.wanted_none rfl, ?_⟩
    generalize Reg.gfr (Reg.opsOf Try.f22 5) a0 v [] = G at e0 ⊢
    generalize hρ : G.eval = ρ at e0
    have hρ' : G.eval = ρ := hρ
    refine Reg.go_run (Value.slice AA nn cc) W ?_ ?_
    · rw [hρ']; simp [execOp, go_sem, e0]
    · exact ⟨Below.refl _ _, rfl⟩
set_option maxHeartbeats 4000000 in
set_option maxRecDepth 20000 in
theorem ncnt5_h1 :
    Reg.OpOK Try.prog (Reg.opsOf Try.f22 5) a0 w0 (ncnt5R nn cc ii fb fn fc sc AA sA fA ff tt bb) (fun _ _ _ _ => True) 1 := by
    refine Reg.op_ok2 (fun af => { dst := some 13, op := Op.move (Operand.tmp 6), type := 3, pos := "outright.go:61", after := af, guard := none }) #[] (by kernel_rfl) [] (by kernel_rfl) fun af v W hb hd => ?_
    have e6 := (Reg.gfr_eval0 (ops := (Reg.opsOf Try.f22 5)) (a0 := a0) (v := v) (L := []) 6 (by kernel_rfl)).trans i6
    refine ⟨Reg.wanted_none rfl, ?_⟩
    generalize Reg.gfr (Reg.opsOf Try.f22 5) a0 v [] = G at e6 ⊢
    generalize hρ : G.eval = ρ at e6
    have hρ' : G.eval = ρ := hρ
    refine Reg.go_run (Value.int IntKind.i64 (ii : Int)) W ?_ ?_
    · rw [hρ']; simp [execOp, go_sem, e6]
    · exact ⟨Below.refl _ _, rfl⟩
set_option maxHeartbeats 4000000 in
set_option maxRecDepth 20000 in
theorem ncnt5_h2 :
    Reg.OpOK Try.prog (Reg.opsOf Try.f22 5) a0 w0 (ncnt5R nn cc ii fb fn fc sc AA sA fA ff tt bb) (fun _ _ _ _ => True) 2 := by
    refine Reg.op_ok2 (fun af => { dst := some 14, op := Op.move (Operand.tmp 6), type := 3, pos := "outright.go:61", after := af, guard := none }) #[] (by kernel_rfl) [] (by kernel_rfl) fun af v W hb hd => ?_
    have e6 := (Reg.gfr_eval0 (ops := (Reg.opsOf Try.f22 5)) (a0 := a0) (v := v) (L := []) 6 (by kernel_rfl)).trans i6
    refine ⟨Reg.wanted_none rfl, ?_⟩
    generalize Reg.gfr (Reg.opsOf Try.f22 5) a0 v [] = G at e6 ⊢
    generalize hρ : G.eval = ρ at e6
    have hρ' : G.eval = ρ := hρ
    refine Reg.go_run (Value.int IntKind.i64 (ii : Int)) W ?_ ?_
    · rw [hρ']; simp [execOp, go_sem, e6]
    · exact ⟨Below.refl _ _, rfl⟩
set_option maxHeartbeats 4000000 in
set_option maxRecDepth 20000 in
theorem ncnt5_h3 :
    Reg.OpOK Try.prog (Reg.opsOf Try.f22 5) a0 w0 (ncnt5R nn cc ii fb fn fc sc AA sA fA ff tt bb) (fun _ _ _ _ => True) 3 := by
    refine Reg.op_ok2 (fun af => { dst := some 15, op := Op.binOp BinOp.add 3 (Operand.tmp 14) (Operand.const (Value.int IntKind.i64 1)) 3, type := 3, pos := "outright.go:61", after := af, guard := none }) #[{ on := 2, ground := Ground.data }] (by kernel_rfl) [2] (by kernel_rfl) fun af v W hb hd => ?_
    have d2 : v 2 = (Value.int IntKind.i64 (ii : Int)) := hd 2 (by decide)
    have e14 := (Reg.gfr_eval (ops := (Reg.opsOf Try.f22 5)) (a0 := a0) (v := v) (L := [2]) 14 2 (by kernel_rfl) (by rw [hsz]; omega)).trans d2
    refine ⟨Reg.wanted_none rfl, ?_⟩
    have eC : ∀ x, (Reg.gfr (Reg.opsOf Try.f22 5) a0 v [2]).eval (.const x) = x := fun _ => rfl
    generalize Reg.gfr (Reg.opsOf Try.f22 5) a0 v [2] = G at e14 eC ⊢
    generalize hρ : G.eval = ρ at e14 eC
    have hρ' : G.eval = ρ := hρ
    refine Reg.go_run (Value.int IntKind.i64 ((ii : Int) + 1)) W ?_ ?_
    · rw [hρ']; simp [execOp, go_sem, e14, eC, hwk]
    · exact ⟨Below.refl _ _, rfl⟩
set_option maxHeartbeats 4000000 in
set_option maxRecDepth 20000 in
theorem ncnt5_h4 :
    Reg.OpOK Try.prog (Reg.opsOf Try.f22 5) a0 w0 (ncnt5R nn cc ii fb fn fc sc AA sA fA ff tt bb) (fun _ _ _ _ => True) 4 := by
    refine Reg.op_ok2 (fun af => { dst := some 16, op := Op.slice 35 (Operand.tmp 12) (some (Operand.tmp 13)) (some (Operand.tmp 15)) none, type := 35, pos := "outright.go:61", after := af, guard := none }) #[{ on := 0, ground := Ground.data }, { on := 1, ground := Ground.data }, { on := 3, ground := Ground.data }] (by kernel_rfl) [0, 1, 3] (by kernel_rfl) fun af v W hb hd => ?_
    have d0 : v 0 = (Value.slice AA nn cc) := hd 0 (by decide)
    have d1 : v 1 = (Value.int IntKind.i64 (ii : Int)) := hd 1 (by decide)
    have d3 : v 3 = (Value.int IntKind.i64 ((ii : Int) + 1)) := hd 3 (by decide)
    have e12 := (Reg.gfr_eval (ops := (Reg.opsOf Try.f22 5)) (a0 := a0) (v := v) (L := [0, 1, 3]) 12 0 (by kernel_rfl) (by rw [hsz]; omega)).trans d0
    have e13 := (Reg.gfr_eval (ops := (Reg.opsOf Try.f22 5)) (a0 := a0) (v := v) (L := [0, 1, 3]) 13 1 (by kernel_rfl) (by rw [hsz]; omega)).trans d1
    have e15 := (Reg.gfr_eval (ops := (Reg.opsOf Try.f22 5)) (a0 := a0) (v := v) (L := [0, 1, 3]) 15 3 (by kernel_rfl) (by rw [hsz]; omega)).trans d3
    refine ⟨Reg.wanted_none rfl, ?_⟩
    generalize Reg.gfr (Reg.opsOf Try.f22 5) a0 v [0, 1, 3] = G at e12 e13 e15 ⊢
    generalize hρ : G.eval = ρ at e12 e13 e15
    have hρ' : G.eval = ρ := hρ
    refine Reg.go_run (Value.slice sA 1 sc) W ?_ ?_
    · rw [hρ']; simp [execOp, go_sem, e12, e13, e15, hs4]
    · exact ⟨Below.refl _ _, rfl⟩
set_option maxHeartbeats 4000000 in
set_option maxRecDepth 20000 in
theorem ncnt5_h5 :
    Reg.OpOK Try.prog (Reg.opsOf Try.f22 5) a0 w0 (ncnt5R nn cc ii fb fn fc sc AA sA fA ff tt bb) (fun _ _ _ _ => True) 5 := by
    refine Reg.op_ok2 (fun af => { dst := some 17, op := Op.load 38 (Operand.tmp 3), type := 38, pos := "outright.go:61", after := af, guard := none }) #[] (by kernel_rfl) [] (by kernel_rfl) fun af v W hb hd => ?_
    have e3 := (Reg.gfr_eval0 (ops := (Reg.opsOf Try.f22 5)) (a0 := a0) (v := v) (L := []) 3 (by kernel_rfl)).trans i3
    refine ⟨Reg.wanted_none rfl, ?_⟩
    generalize Reg.gfr (Reg.opsOf Try.f22 5) a0 v [] = G at e3 ⊢
    generalize hρ : G.eval = ρ at e3
    have hρ' : G.eval = ρ := hρ
    exact fun K hK => wp_load_row 38 (.tmp 3) rfl fb (by rw [hρ']; exact e3) 38 #[Value.int IntKind.i64 ff, Value.int IntKind.i64 tt, Value.slice fA fn fc] (0, 0) _ (M_fb W hb) Try.underlying38 rfl size_fl3 (hK _ _ ⟨Below.refl _ _, rfl⟩)
set_option maxHeartbeats 4000000 in
set_option maxRecDepth 20000 in
theorem ncnt5_h6 :
    Reg.OpOK Try.prog (Reg.opsOf Try.f22 5) a0 w0 (ncnt5R nn cc ii fb fn fc sc AA sA fA ff tt bb) (fun _ _ _ _ => True) 6 := by
    refine Reg.op_ok2 (fun af => { dst := some 18, op := Op.buildSlice 35 1 #[(0, Operand.tmp 17)], type := 35, pos := "outright.go:61", after := af, guard := none }) #[{ on := 5, ground := Ground.data }] (by kernel_rfl) [5] (by kernel_rfl) fun af v W hb hd => ?_
    have d5 : v 5 = (Value.agg #[Value.int IntKind.i64 ff, Value.int IntKind.i64 tt, Value.slice fA fn fc]) := hd 5 (by decide)
    have e17 := (Reg.gfr_eval (ops := (Reg.opsOf Try.f22 5)) (a0 := a0) (v := v) (L := [5]) 17 5 (by kernel_rfl) (by rw [hsz]; omega)).trans d5
    refine ⟨Reg.wanted_none rfl, ?_⟩
    generalize Reg.gfr (Reg.opsOf Try.f22 5) a0 v [5] = G at e17 ⊢
    generalize hρ : G.eval = ρ at e17
    have hρ' : G.eval = ρ := hρ
    refine Reg.go_run (Value.slice (some ⟨W.heap.size, 0, none⟩) 1 1) (W.alloc (.cells #[Value.int IntKind.i64 ff, Value.int IntKind.i64 tt, Value.slice fA fn fc] 38)) (by rw [hρ']; simp [execOp, go_sem, e17]) ⟨(Below.refl _ _).alloc (Nat.le_refl _) _, ⟨_, rfl, heap_alloc_new _ _⟩⟩
set_option maxHeartbeats 4000000 in
set_option maxRecDepth 20000 in
theorem ncnt5_h7 :
    Reg.OpOK Try.prog (Reg.opsOf Try.f22 5) a0 w0 (ncnt5R nn cc ii fb fn fc sc AA sA fA ff tt bb) (fun _ _ _ _ => True) 7 := by
    refine Reg.op_ok2 (fun af => { dst := some 19, op := Op.call { callee := Callee.value (Operand.func 19), args := #[Operand.tmp 16, Operand.tmp 18], argTypes := #[35, 35] }, type := 4, pos := "outright.go:61", after := af, guard := none }) #[{ on := 4, ground := Ground.data }, { on := 6, ground := Ground.data }] (by kernel_rfl) [4, 6] (by kernel_rfl) fun af v W hb hd => ?_
    have d4 : v 4 = (Value.slice sA 1 sc) := hd 4 (by decide)
    have d6 : ((fun u_ w_ => ∃ b_, u_ = Value.slice (some ⟨b_, 0, none⟩) 1 1 ∧ w_.heap[b_]? = some (.cells #[Value.int IntKind.i64 ff, Value.int IntKind.i64 tt, Value.slice fA fn fc] 38 (0, 0)))) (v 6) W := hd 6 (by decide)
    have e16 := (Reg.gfr_eval (ops := (Reg.opsOf Try.f22 5)) (a0 := a0) (v := v) (L := [4, 6]) 16 4 (by kernel_rfl) (by rw [hsz]; omega)).trans d4
    have e18 := Reg.gfr_eval (ops := (Reg.opsOf Try.f22 5)) (a0 := a0) (v := v) (L := [4, 6]) 18 6 (by kernel_rfl) (by rw [hsz]; omega)
    refine ⟨Reg.wanted_none rfl, ?_⟩
    have eF : ∀ f, (Reg.gfr (Reg.opsOf Try.f22 5) a0 v [4, 6]).eval (.func f) = .func (.func f) #[] #[] := fun _ => rfl
    generalize Reg.gfr (Reg.opsOf Try.f22 5) a0 v [4, 6] = G at e16 e18 eF ⊢
    generalize hρ : G.eval = ρ at e16 e18 eF
    have hρ' : G.eval = ρ := hρ
    obtain ⟨b_, hv_, hc_⟩ := d6
    rw [hv_] at e18
    refine Reg.go_call 19 #[(Value.slice sA 1 sc), (Value.slice (some ⟨b_, 0, none⟩) 1 1)] (by rw [hρ']; simp [execOp, go_sem, e16, e18, eF]) ((hsm W b_ hb hc_).mono fun e w' he => ?_)
    obtain ⟨rfl, hbb_⟩ := he
    exact ⟨_, rfl, hbb_, rfl⟩
end
set_option maxHeartbeats 4000000 in
set_option maxRecDepth 20000 in
theorem ncnt5 (nn cc ii fb fn fc sc : Nat) (AA sA fA : Option Addr) (ff tt : Int) (bb : Bool) (w0 : World) {s1 s2 s4 s5 s7 s8 s9 s10 s11 s12 s13 s14 s15 s16 s17 s18 s19 s20 s21 s22 s23 : Value}
    (hwk : IntKind.i64.wrap ((ii : Int) + 1) = (ii : Int) + 1)
    (hs4 : ∀ W : World, (Instr.slice 35 (.slice AA nn cc) (some (.int .i64 (ii : Int))) (some (.int .i64 ((ii : Int) + 1))) none).run Try.prog W = .ok (.slice sA 1 sc) W)
    (hsm : ∀ W b, Below w0.heap.size w0 W → W.heap[b]? = some (.cells #[Value.int IntKind.i64 ff, Value.int IntKind.i64 tt, Value.slice fA fn fc] 38 (0, 0)) → Calls Try.prog 19 #[.slice sA 1 sc, .slice (some ⟨b, 0, none⟩) 1 1] W fun e w' => e = .returned (.bool bb) ∧ Below W.heap.size W w')
    (M_fb : ∀ W, Below w0.heap.size w0 W → W.heap[fb]? = some (.cells #[Value.int IntKind.i64 ff, Value.int IntKind.i64 tt, Value.slice fA fn fc] 38 (0, 0)))
    {Q : Exit → Act → World → Prop}
    (hend : ∀ (w : World) (r18 : Value), Below w0.heap.size w0 w → Q .normal { tmps := #[(Value.slice AA nn cc), s1, s2, (Value.pointer (some ⟨fb, 0, none⟩)), s4, s5, (Value.int IntKind.i64 (ii : Int)), s7, s8, s9, s10, s11, (Value.slice AA nn cc), (Value.int IntKind.i64 (ii : Int)), (Value.int IntKind.i64 (ii : Int)), (Value.int IntKind.i64 ((ii : Int) + 1)), (Value.slice sA 1 sc), (Value.agg #[Value.int IntKind.i64 ff, Value.int IntKind.i64 tt, Value.slice fA fn fc]), r18, (Value.bool bb), s20, s21, s22, s23], defers := [] } w) :
    (Code.region 5 (Reg.opsOf Try.f22 5) true).wp Try.prog Q { tmps := #[(Value.slice AA nn cc), s1, s2, (Value.pointer (some ⟨fb, 0, none⟩)), s4, s5, (Value.int IntKind.i64 (ii : Int)), s7, s8, s9, s10, s11, s12, s13, s14, s15, s16, s17, s18, s19, s20, s21, s22, s23], defers := [] } w0 := by
  obtain ⟨a0, ha0⟩ : ∃ a0 : Act, a0 = { tmps := #[(Value.slice AA nn cc), s1, s2, (Value.pointer (some ⟨fb, 0, none⟩)), s4, s5, (Value.int IntKind.i64 (ii : Int)), s7, s8, s9, s10, s11, s12, s13, s14, s15, s16, s17, s18, s19, s20, s21, s22, s23], defers := [] } := ⟨_, rfl⟩
  have hfin : ∀ v : Nat → Value, Reg.gfr (Reg.opsOf Try.f22 5) a0 v (List.range 8) = { tmps := #[(Value.slice AA nn cc), s1, s2, (Value.pointer (some ⟨fb, 0, none⟩)), s4, s5, (Value.int IntKind.i64 (ii : Int)), s7, s8, s9, s10, s11, v 0, v 1, v 2, v 3, v 4, v 5, v 6, v 7, s20, s21, s22, s23], defers := [] } := fun v => by rw [ha0]; kernel_rfl
  rw [← ha0]
  have i0 : a0.eval (.tmp 0) = (Value.slice AA nn cc) := by rw [ha0]; rfl
  have i3 : a0.eval (.tmp 3) = (Value.pointer (some ⟨fb, 0, none⟩)) := by rw [ha0]; rfl
  have i6 : a0.eval (.tmp 6) = (Value.int IntKind.i64 (ii : Int)) := by rw [ha0]; rfl
  have hsz : a0.tmps.size = 24 := by rw [ha0]; rfl
  clear ha0
  have hn : (Reg.opsOf Try.f22 5).size = 8 := by kernel_rfl
  have h0 := ncnt5_h0 nn cc ii fb fn fc sc AA sA fA ff tt bb w0 a0 hwk hs4 hsm M_fb i0 i3 i6 hsz
  have h1 := ncnt5_h1 nn cc ii fb fn fc sc AA sA fA ff tt bb w0 a0 hwk hs4 hsm M_fb i0 i3 i6 hsz
  have h2 := ncnt5_h2 nn cc ii fb fn fc sc AA sA fA ff tt bb w0 a0 hwk hs4 hsm M_fb i0 i3 i6 hsz
  have h3 := ncnt5_h3 nn cc ii fb fn fc sc AA sA fA ff tt bb w0 a0 hwk hs4 hsm M_fb i0 i3 i6 hsz
  have h4 := ncnt5_h4 nn cc ii fb fn fc sc AA sA fA ff tt bb w0 a0 hwk hs4 hsm M_fb i0 i3 i6 hsz
  have h5 := ncnt5_h5 nn cc ii fb fn fc sc AA sA fA ff tt bb w0 a0 hwk hs4 hsm M_fb i0 i3 i6 hsz
  have h6 := ncnt5_h6 nn cc ii fb fn fc sc AA sA fA ff tt bb w0 a0 hwk hs4 hsm M_fb i0 i3 i6 hsz
  have h7 := ncnt5_h7 nn cc ii fb fn fc sc AA sA fA ff tt bb w0 a0 hwk hs4 hsm M_fb i0 i3 i6 hsz
  refine Reg.region_all (by kernel_rfl) (ncnt5R nn cc ii fb fn fc sc AA sA fA ff tt bb) (by rw [hn, hsz]; kernel_rfl) (ncnt5_stable nn cc ii fb fn fc sc AA sA fA ff tt bb) (fun i hi => ?_) (fun v w hb hR => ?_)
  · rw [hn] at hi
    match i, List.mem_range.1 hi with
    | 0, _ => exact h0
    | 1, _ => exact h1
    | 2, _ => exact h2
    | 3, _ => exact h3
    | 4, _ => exact h4
    | 5, _ => exact h5
    | 6, _ => exact h6
    | 7, _ => exact h7
    | (_ + 8), h => omega
  · rw [hn] at hR ⊢
    have v0 : v 0 = (Value.slice AA nn cc) := hR 0 (by decide)
    have v1 : v 1 = (Value.int IntKind.i64 (ii : Int)) := hR 1 (by decide)
    have v2 : v 2 = (Value.int IntKind.i64 (ii : Int)) := hR 2 (by decide)
    have v3 : v 3 = (Value.int IntKind.i64 ((ii : Int) + 1)) := hR 3 (by decide)
    have v4 : v 4 = (Value.slice sA 1 sc) := hR 4 (by decide)
    have v5 : v 5 = (Value.agg #[Value.int IntKind.i64 ff, Value.int IntKind.i64 tt, Value.slice fA fn fc]) := hR 5 (by decide)
    have v7 : v 7 = (Value.bool bb) := hR 7 (by decide)
    rw [hfin v, v0, v1, v2, v3, v4, v5, v7]
    exact hend w (v 6) hb 
def nkp36R (n1 c1 n2 c2 n3 c3 fb fn fc k1 k2 k3 : Nat) (A1 A2 A3 fA : Option Addr) (ff tt : Int) : Nat → Value → World → Prop
  | 0 => fun x_ _ => x_ = (Value.slice A1 n1 c1)
  | 1 => fun x_ _ => x_ = (Value.agg #[Value.int IntKind.i64 ff, Value.int IntKind.i64 tt, Value.slice fA fn fc])
  | 2 => fun x_ _ => x_ = (Value.int IntKind.i64 (k1 : Int))
  | 3 => fun x_ _ => x_ = (Value.slice A2 n2 c2)
  | 4 => fun x_ _ => x_ = (Value.agg #[Value.int IntKind.i64 ff, Value.int IntKind.i64 tt, Value.slice fA fn fc])
  | 5 => fun x_ _ => x_ = (Value.int IntKind.i64 (k2 : Int))
  | 6 => fun x_ _ => x_ = (Value.slice A3 n3 c3)
  | 7 => fun x_ _ => x_ = (Value.agg #[Value.int IntKind.i64 ff, Value.int IntKind.i64 tt, Value.slice fA fn fc])
  | 8 => fun x_ _ => x_ = (Value.int IntKind.i64 (k3 : Int))
  | 9 => fun x_ _ => x_ = (Value.int IntKind.i64 (k1 : Int))
  | 10 => fun x_ _ => x_ = (Value.bool false)
  | _ => fun _ _ => True
theorem nkp36_stable (n1 c1 n2 c2 n3 c3 fb fn fc k1 k2 k3 : Nat) (A1 A2 A3 fA : Option Addr) (ff tt : Int) : ∀ i_ u_ w_ w_', (nkp36R n1 c1 n2 c2 n3 c3 fb fn fc k1 k2 k3 A1 A2 A3 fA ff tt) i_ u_ w_ → Below w_.heap.size w_ w_' → (nkp36R n1 c1 n2 c2 n3 c3 fb fn fc k1 k2 k3 A1 A2 A3 fA ff tt) i_ u_ w_' := fun i_ u_ w_ w_' h_ hb_ => by
  match i_, h_ with
  | 0, h_ => exact h_
  | 1, h_ => exact h_
  | 2, h_ => exact h_
  | 3, h_ => exact h_
  | 4, h_ => exact h_
  | 5, h_ => exact h_
  | 6, h_ => exact h_
  | 7, h_ => exact h_
  | 8, h_ => exact h_
  | 9, h_ => exact h_
  | 10, h_ => exact h_
  | (_ + 11), _ => trivial
section
variable (n1 c1 n2 c2 n3 c3 fb fn fc k1 k2 k3 : Nat) (A1 A2 A3 fA : Option Addr) (ff tt : Int) (w0 : World) (a0 : Act)
variable (ct1 : ∀ W, Below w0.heap.size w0 W → Calls Try.prog 22 #[.slice A1 n1 c1, .agg #[Value.int IntKind.i64 ff, Value.int IntKind.i64 tt, Value.slice fA fn fc]] W fun e w' => e = .returned (.int .i64 (k1 : Int)) ∧ Below W.heap.size W w')
variable (ct2 : ∀ W, Below w0.heap.size w0 W → Calls Try.prog 22 #[.slice A2 n2 c2, .agg #[Value.int IntKind.i64 ff, Value.int IntKind.i64 tt, Value.slice fA fn fc]] W fun e w' => e = .returned (.int .i64 (k2 : Int)) ∧ Below W.heap.size W w')
variable (ct3 : ∀ W, Below w0.heap.size w0 W → Calls Try.prog 22 #[.slice A3 n3 c3, .agg #[Value.int IntKind.i64 ff, Value.int IntKind.i64 tt, Value.slice fA fn fc]] W fun e w' => e = .returned (.int .i64 (k3 : Int)) ∧ Below W.heap.size W w')
variable (hwk : IntKind.i64.wrap ((k2 : Int) + (k3 : Int)) = (k1 : Int))
variable (M_fb : ∀ W, Below w0.heap.size w0 W → W.heap[fb]? = some (.cells #[Value.int IntKind.i64 ff, Value.int IntKind.i64 tt, Value.slice fA fn fc] 38 (0, 0)))
variable (i8 : a0.eval (.tmp 8) = (Value.slice A1 n1 c1)) (i9 : a0.eval (.tmp 9) = (Value.slice A2 n2 c2)) (i18 : a0.eval (.tmp 18) = (Value.slice A3 n3 c3)) (i20 : a0.eval (.tmp 20) = (Value.pointer (some ⟨fb, 0, none⟩))) (hsz : a0.tmps.size = 189)
include n1 c1 n2 c2 n3 c3 fb fn fc k1 k2 k3 A1 A2 A3 fA ff tt w0 a0 ct1 ct2 ct3 hwk M_fb i8 i9 i18 i20 hsz
set_option maxHeartbeats 4000000 in
set_option maxRecDepth 20000 in
theorem nkp36_h0 :
    Reg.OpOK Try.prog (Reg.opsOf Try.f5 36) a0 w0 (nkp36R n1 c1 n2 c2 n3 c3 fb fn fc k1 k2 k3 A1 A2 A3 fA ff tt) (fun _ _ _ _ => True) 0 := by
    refine Reg.op_ok2 (fun af => { dst := some 132, op := Op.move (Operand.tmp 8), type := 35, pos := "outright.go:107", after := af, guard := none }) #[] (by kernel_rfl) [] (by kernel_rfl) fun af v W hb hd => ?_
    have e8 := (Reg.gfr_eval0 (ops := (Reg.opsOf Try.f5 36)) (a0 := a0) (v := v) (L := []) 8 (by kernel_rfl)).trans i8
    refine ⟨Reg.wanted_none rfl, ?_⟩
    generalize Reg.gfr (Reg.opsOf Try.f5 36) a0 v [] = G at e8 ⊢
    generalize hρ : G.eval = ρ at e8
    have hρ' : G.eval = ρ := hρ
    refine Reg.go_run (Value.slice A1 n1 c1) W ?_ ?_
    · rw [hρ']; simp [execOp, go_sem, e8]
    · exact ⟨Below.refl _ _, rfl⟩
set_option maxHeartbeats 4000000 in
set_option maxRecDepth 20000 in
theorem nkp36_h1 :
    Reg.OpOK Try.prog (Reg.opsOf Try.f5 36) a0 w0 (nkp36R n1 c1 n2 c2 n3 c3 fb fn fc k1 k2 k3 A1 A2 A3 fA ff tt) (fun _ _ _ _ => True) 1 := by
    refine Reg.op_ok2 (fun af => { dst := some 133, op := Op.load 38 (Operand.tmp 20), type := 38, pos := "outright.go:107", after := af, guard := none }) #[] (by kernel_rfl) [] (by kernel_rfl) fun af v W hb hd => ?_
    have e20 := (Reg.gfr_eval0 (ops := (Reg.opsOf Try.f5 36)) (a0 := a0) (v := v) (L := []) 20 (by kernel_rfl)).trans i20
    refine ⟨Reg.wanted_none rfl, ?_⟩
    generalize Reg.gfr (Reg.opsOf Try.f5 36) a0 v [] = G at e20 ⊢
    generalize hρ : G.eval = ρ at e20
    have hρ' : G.eval = ρ := hρ
    exact fun K hK => wp_load_row 38 (.tmp 20) rfl fb (by rw [hρ']; exact e20) 38 #[Value.int IntKind.i64 ff, Value.int IntKind.i64 tt, Value.slice fA fn fc] (0, 0) _ (M_fb W hb) Try.underlying38 rfl size_fl3 (hK _ _ ⟨Below.refl _ _, rfl⟩)
set_option maxHeartbeats 4000000 in
set_option maxRecDepth 20000 in
theorem nkp36_h2 :
    Reg.OpOK Try.prog (Reg.opsOf Try.f5 36) a0 w0 (nkp36R n1 c1 n2 c2 n3 c3 fb fn fc k1 k2 k3 A1 A2 A3 fA ff tt) (fun _ _ _ _ => True) 2 := by
    refine Reg.op_ok2 (fun af => { dst := some 134, op := Op.call { callee := Callee.value (Operand.func 22), args := #[Operand.tmp 132, Operand.tmp 133], argTypes := #[35, 38] }, type := 3, pos := "outright.go:107", after := af, guard := none }) #[{ on := 0, ground := Ground.data }, { on := 1, ground := Ground.data }] (by kernel_rfl) [0, 1] (by kernel_rfl) fun af v W hb hd => ?_
    have d0 : v 0 = (Value.slice A1 n1 c1) := hd 0 (by decide)
    have d1 : v 1 = (Value.agg #[Value.int IntKind.i64 ff, Value.int IntKind.i64 tt, Value.slice fA fn fc]) := hd 1 (by decide)
    have e132 := (Reg.gfr_eval (ops := (Reg.opsOf Try.f5 36)) (a0 := a0) (v := v) (L := [0, 1]) 132 0 (by kernel_rfl) (by rw [hsz]; omega)).trans d0
    have e133 := (Reg.gfr_eval (ops := (Reg.opsOf Try.f5 36)) (a0 := a0) (v := v) (L := [0, 1]) 133 1 (by kernel_rfl) (by rw [hsz]; omega)).trans d1
    refine ⟨Reg.wanted_none rfl, ?_⟩
    have eF : ∀ f, (Reg.gfr (Reg.opsOf Try.f5 36) a0 v [0, 1]).eval (.func f) = .func (.func f) #[] #[] := fun _ => rfl
    generalize Reg.gfr (Reg.opsOf Try.f5 36) a0 v [0, 1] = G at e132 e133 eF ⊢
    generalize hρ : G.eval = ρ at e132 e133 eF
    have hρ' : G.eval = ρ := hρ
    refine Reg.go_call 22 #[(Value.slice A1 n1 c1), (Value.agg #[Value.int IntKind.i64 ff, Value.int IntKind.i64 tt, Value.slice fA fn fc])] (by rw [hρ']; simp [execOp, go_sem, e132, e133, eF]) ((ct1 W hb).mono fun e w' he => ?_)
    obtain ⟨rfl, hbb⟩ := he
    exact ⟨_, rfl, hbb, rfl⟩
set_option maxHeartbeats 4000000 in
set_option maxRecDepth 20000 in
theorem nkp36_h3 :
    Reg.OpOK Try.prog (Reg.opsOf Try.f5 36) a0 w0 (nkp36R n1 c1 n2 c2 n3 c3 fb fn fc k1 k2 k3 A1 A2 A3 fA ff tt) (fun _ _ _ _ => True) 3 := by
    refine Reg.op_ok2 (fun af => { dst := some 135, op := Op.move (Operand.tmp 9), type := 35, pos := "outright.go:107", after := af, guard := none }) #[] (by kernel_rfl) [] (by kernel_rfl) fun af v W hb hd => ?_
    have e9 := (Reg.gfr_eval0 (ops := (Reg.opsOf Try.f5 36)) (a0 := a0) (v := v) (L := []) 9 (by kernel_rfl)).trans i9
    refine ⟨Reg.wanted_none rfl, ?_⟩
    generalize Reg.gfr (Reg.opsOf Try.f5 36) a0 v [] = G at e9 ⊢
    generalize hρ : G.eval = ρ at e9
    have hρ' : G.eval = ρ := hρ
    refine Reg.go_run (Value.slice A2 n2 c2) W ?_ ?_
    · rw [hρ']; simp [execOp, go_sem, e9]
    · exact ⟨Below.refl _ _, rfl⟩
set_option maxHeartbeats 4000000 in
set_option maxRecDepth 20000 in
theorem nkp36_h4 :
    Reg.OpOK Try.prog (Reg.opsOf Try.f5 36) a0 w0 (nkp36R n1 c1 n2 c2 n3 c3 fb fn fc k1 k2 k3 A1 A2 A3 fA ff tt) (fun _ _ _ _ => True) 4 := by
    refine Reg.op_ok2 (fun af => { dst := some 136, op := Op.load 38 (Operand.tmp 20), type := 38, pos := "outright.go:107", after := af, guard := none }) #[] (by kernel_rfl) [] (by kernel_rfl) fun af v W hb hd => ?_
    have e20 := (Reg.gfr_eval0 (ops := (Reg.opsOf Try.f5 36)) (a0 := a0) (v := v) (L := []) 20 (by kernel_rfl)).trans i20
    refine ⟨Reg.wanted_none rfl, ?_⟩
    generalize Reg.gfr (Reg.opsOf Try.f5 36) a0 v [] = G at e20 ⊢
    generalize hρ : G.eval = ρ at e20
    have hρ' : G.eval = ρ := hρ
    exact fun K hK => wp_load_row 38 (.tmp 20) rfl fb (by rw [hρ']; exact e20) 38 #[Value.int IntKind.i64 ff, Value.int IntKind.i64 tt, Value.slice fA fn fc] (0, 0) _ (M_fb W hb) Try.underlying38 rfl size_fl3 (hK _ _ ⟨Below.refl _ _, rfl⟩)
set_option maxHeartbeats 4000000 in
set_option maxRecDepth 20000 in
theorem nkp36_h5 :
    Reg.OpOK Try.prog (Reg.opsOf Try.f5 36) a0 w0 (nkp36R n1 c1 n2 c2 n3 c3 fb fn fc k1 k2 k3 A1 A2 A3 fA ff tt) (fun _ _ _ _ => True) 5 := by
    refine Reg.op_ok2 (fun af => { dst := some 137, op := Op.call { callee := Callee.value (Operand.func 22), args := #[Operand.tmp 135, Operand.tmp 136], argTypes := #[35, 38] }, type := 3, pos := "outright.go:107", after := af, guard := none }) #[{ on := 3, ground := Ground.data }, { on := 4, ground := Ground.data }, { on := 2, ground := Ground.chain }] (by kernel_rfl) [3, 4, 2] (by kernel_rfl) fun af v W hb hd => ?_
    have d3 : v 3 = (Value.slice A2 n2 c2) := hd 3 (by decide)
    have d4 : v 4 = (Value.agg #[Value.int IntKind.i64 ff, Value.int IntKind.i64 tt, Value.slice fA fn fc]) := hd 4 (by decide)
    have e135 := (Reg.gfr_eval (ops := (Reg.opsOf Try.f5 36)) (a0 := a0) (v := v) (L := [3, 4, 2]) 135 3 (by kernel_rfl) (by rw [hsz]; omega)).trans d3
    have e136 := (Reg.gfr_eval (ops := (Reg.opsOf Try.f5 36)) (a0 := a0) (v := v) (L := [3, 4, 2]) 136 4 (by kernel_rfl) (by rw [hsz]; omega)).trans d4
    refine ⟨Reg.wanted_none rfl, ?_⟩
    have eF : ∀ f, (Reg.gfr (Reg.opsOf Try.f5 36) a0 v [3, 4, 2]).eval (.func f) = .func (.func f) #[] #[] := fun _ => rfl
    generalize Reg.gfr (Reg.opsOf Try.f5 36) a0 v [3, 4, 2] = G at e135 e136 eF ⊢
    generalize hρ : G.eval = ρ at e135 e136 eF
    have hρ' : G.eval = ρ := hρ
    refine Reg.go_call 22 #[(Value.slice A2 n2 c2), (Value.agg #[Value.int IntKind.i64 ff, Value.int IntKind.i64 tt, Value.slice fA fn fc])] (by rw [hρ']; simp [execOp, go_sem, e135, e136, eF]) ((ct2 W hb).mono fun e w' he => ?_)
    obtain ⟨rfl, hbb⟩ := he
    exact ⟨_, rfl, hbb, rfl⟩
set_option maxHeartbeats 4000000 in
set_option maxRecDepth 20000 in
theorem nkp36_h6 :
    Reg.OpOK Try.prog (Reg.opsOf Try.f5 36) a0 w0 (nkp36R n1 c1 n2 c2 n3 c3 fb fn fc k1 k2 k3 A1 A2 A3 fA ff tt) (fun _ _ _ _ => True) 6 := by
    refine Reg.op_ok2 (fun af => { dst := some 138, op := Op.move (Operand.tmp 18), type := 35, pos := "outright.go:107", after := af, guard := none }) #[] (by kernel_rfl) [] (by kernel_rfl) fun af v W hb hd => ?_
    have e18 := (Reg.gfr_eval0 (ops := (Reg.opsOf Try.f5 36)) (a0 := a0) (v := v) (L := []) 18 (by kernel_rfl)).trans i18
    refine ⟨Reg.wanted_none rfl, ?_⟩
    generalize Reg.gfr (Reg.opsOf Try.f5 36) a0 v [] = G at e18 ⊢
    generalize hρ : G.eval = ρ at e18
    have hρ' : G.eval = ρ := hρ
    refine Reg.go_run (Value.slice A3 n3 c3) W ?_ ?_
    · rw [hρ']; simp [execOp, go_sem, e18]
    · exact ⟨Below.refl _ _, rfl⟩
set_option maxHeartbeats 4000000 in
set_option maxRecDepth 20000 in
theorem nkp36_h7 :
    Reg.OpOK Try.prog (Reg.opsOf Try.f5 36) a0 w0 (nkp36R n1 c1 n2 c2 n3 c3 fb fn fc k1 k2 k3 A1 A2 A3 fA ff tt) (fun _ _ _ _ => True) 7 := by
    refine Reg.op_ok2 (fun af => { dst := some 139, op := Op.load 38 (Operand.tmp 20), type := 38, pos := "outright.go:107", after := af, guard := none }) #[] (by kernel_rfl) [] (by kernel_rfl) fun af v W hb hd => ?_
    have e20 := (Reg.gfr_eval0 (ops := (Reg.opsOf Try.f5 36)) (a0 := a0) (v := v) (L := []) 20 (by kernel_rfl)).trans i20
    refine ⟨Reg.wanted_none rfl, ?_⟩
    generalize Reg.gfr (Reg.opsOf Try.f5 36) a0 v [] = G at e20 ⊢
    generalize hρ : G.eval = ρ at e20
    have hρ' : G.eval = ρ := hρ
    exact fun K hK => wp_load_row 38 (.tmp 20) rfl fb (by rw [hρ']; exact e20) 38 #[Value.int IntKind.i64 ff, Value.int IntKind.i64 tt, Value.slice fA fn fc] (0, 0) _ (M_fb W hb) Try.underlying38 rfl size_fl3 (hK _ _ ⟨Below.refl _ _, rfl⟩)
set_option maxHeartbeats 4000000 in
set_option maxRecDepth 20000 in
theorem nkp36_h8 :
    Reg.OpOK Try.prog (Reg.opsOf Try.f5 36) a0 w0 (nkp36R n1 c1 n2 c2 n3 c3 fb fn fc k1 k2 k3 A1 A2 A3 fA ff tt) (fun _ _ _ _ => True) 8 := by
    refine Reg.op_ok2 (fun af => { dst := some 140, op := Op.call { callee := Callee.value (Operand.func 22), args := #[Operand.tmp 138, Operand.tmp 139], argTypes := #[35, 38] }, type := 3, pos := "outright.go:107", after := af, guard := none }) #[{ on := 6, ground := Ground.data }, { on := 7, ground := Ground.data }, { on := 5, ground := Ground.chain }] (by kernel_rfl) [6, 7, 5] (by kernel_rfl) fun af v W hb hd => ?_
    have d6 : v 6 = (Value.slice A3 n3 c3) := hd 6 (by decide)
    have d7 : v 7 = (Value.agg #[Value.int IntKind.i64 ff, Value.int IntKind.i64 tt, Value.slice fA fn fc]) := hd 7 (by decide)
    have e138 := (Reg.gfr_eval (ops := (Reg.opsOf Try.f5 36)) (a0 := a0) (v := v) (L := [6, 7, 5]) 138 6 (by kernel_rfl) (by rw [hsz]; omega)).trans d6
    have e139 := (Reg.gfr_eval (ops := (Reg.opsOf Try.f5 36)) (a0 := a0) (v := v) (L := [6, 7, 5]) 139 7 (by kernel_rfl) (by rw [hsz]; omega)).trans d7
    refine ⟨Reg.wanted_none rfl, ?_⟩
    have eF : ∀ f, (Reg.gfr (Reg.opsOf Try.f5 36) a0 v [6, 7, 5]).eval (.func f) = .func (.func f) #[] #[] := fun _ => rfl
    generalize Reg.gfr (Reg.opsOf Try.f5 36) a0 v [6, 7, 5] = G at e138 e139 eF ⊢
    generalize hρ : G.eval = ρ at e138 e139 eF
    have hρ' : G.eval = ρ := hρ
    refine Reg.go_call 22 #[(Value.slice A3 n3 c3), (Value.agg #[Value.int IntKind.i64 ff, Value.int IntKind.i64 tt, Value.slice fA fn fc])] (by rw [hρ']; simp [execOp, go_sem, e138, e139, eF]) ((ct3 W hb).mono fun e w' he => ?_)
    obtain ⟨rfl, hbb⟩ := he
    exact ⟨_, rfl, hbb, rfl⟩
set_option maxHeartbeats 4000000 in
set_option maxRecDepth 20000 in
theorem nkp36_h9 :
    Reg.OpOK Try.prog (Reg.opsOf Try.f5 36) a0 w0 (nkp36R n1 c1 n2 c2 n3 c3 fb fn fc k1 k2 k3 A1 A2 A3 fA ff tt) (fun _ _ _ _ => True) 9 := by
    refine Reg.op_ok2 (fun af => { dst := some 141, op := Op.binOp BinOp.add 3 (Operand.tmp 137) (Operand.tmp 140) 3, type := 3, pos := "outright.go:107", after := af, guard := none }) #[{ on := 5, ground := Ground.data }, { on := 8, ground := Ground.data }] (by kernel_rfl) [5, 8] (by kernel_rfl) fun af v W hb hd => ?_
    have d5 : v 5 = (Value.int IntKind.i64 (k2 : Int)) := hd 5 (by decide)
    have d8 : v 8 = (Value.int IntKind.i64 (k3 : Int)) := hd 8 (by decide)
    have e137 := (Reg.gfr_eval (ops := (Reg.opsOf Try.f5 36)) (a0 := a0) (v := v) (L := [5, 8]) 137 5 (by kernel_rfl) (by rw [hsz]; omega)).trans d5
    have e140 := (Reg.gfr_eval (ops := (Reg.opsOf Try.f5 36)) (a0 := a0) (v := v) (L := [5, 8]) 140 8 (by kernel_rfl) (by rw [hsz]; omega)).trans d8
    refine ⟨Reg.wanted_none rfl, ?_⟩
    generalize Reg.gfr (Reg.opsOf Try.f5 36) a0 v [5, 8] = G at e137 e140 ⊢
    generalize hρ : G.eval = ρ at e137 e140
    have hρ' : G.eval = ρ := hρ
    refine Reg.go_run (Value.int IntKind.i64 (k1 : Int)) W ?_ ?_
    · rw [hρ']; simp [execOp, go_sem, e137, e140, hwk]
    · exact ⟨Below.refl _ _, rfl⟩
set_option maxHeartbeats 4000000 in
set_option maxRecDepth 20000 in
theorem nkp36_h10 :
    Reg.OpOK Try.prog (Reg.opsOf Try.f5 36) a0 w0 (nkp36R n1 c1 n2 c2 n3 c3 fb fn fc k1 k2 k3 A1 A2 A3 fA ff tt) (fun _ _ _ _ => True) 10 := by
    refine Reg.op_ok2 (fun af => { dst := some 142, op := Op.binOp BinOp.neq 3 (Operand.tmp 134) (Operand.tmp 141) 3, type := 4, pos := "outright.go:107", after := af, guard := none }) #[{ on := 2, ground := Ground.data }, { on := 9, ground := Ground.data }] (by kernel_rfl) [2, 9] (by kernel_rfl) fun af v W hb hd => ?_
    have d2 : v 2 = (Value.int IntKind.i64 (k1 : Int)) := hd 2 (by decide)
    have d9 : v 9 = (Value.int IntKind.i64 (k1 : Int)) := hd 9 (by decide)
    have e134 := (Reg.gfr_eval (ops := (Reg.opsOf Try.f5 36)) (a0 := a0) (v := v) (L := [2, 9]) 134 2 (by kernel_rfl) (by rw [hsz]; omega)).trans d2
    have e141 := (Reg.gfr_eval (ops := (Reg.opsOf Try.f5 36)) (a0 := a0) (v := v) (L := [2, 9]) 141 9 (by kernel_rfl) (by rw [hsz]; omega)).trans d9
    refine ⟨Reg.wanted_none rfl, ?_⟩
    generalize Reg.gfr (Reg.opsOf Try.f5 36) a0 v [2, 9] = G at e134 e141 ⊢
    generalize hρ : G.eval = ρ at e134 e141
    have hρ' : G.eval = ρ := hρ
    refine Reg.go_run (Value.bool false) W ?_ ?_
    · rw [hρ']; simp [execOp, go_sem, e134, e141]
    · exact ⟨Below.refl _ _, rfl⟩
end
set_option maxHeartbeats 4000000 in
set_option maxRecDepth 20000 in
theorem nkp36 (n1 c1 n2 c2 n3 c3 fb fn fc k1 k2 k3 : Nat) (A1 A2 A3 fA : Option Addr) (ff tt : Int) (w0 : World) {s0 s1 s2 s3 s4 s5 s6 s7 s10 s11 s12 s13 s14 s15 s16 s17 s19 s21 s22 s23 s24 s25 s26 s27 s28 s29 s30 s31 s32 s33 s34 s35 s36 s37 s38 s39 s40 s41 s42 s43 s44 s45 s46 s47 s48 s49 s50 s51 s52 s53 s54 s55 s56 s57 s58 s59 s60 s61 s62 s63 s64 s65 s66 s67 s68 s69 s70 s71 s72 s73 s74 s75 s76 s77 s78 s79 s80 s81 s82 s83 s84 s85 s86 s87 s88 s89 s90 s91 s92 s93 s94 s95 s96 s97 s98 s99 s100 s101 s102 s103 s104 s105 s106 s107 s108 s109 s110 s111 s112 s113 s114 s115 s116 s117 s118 s119 s120 s121 s122 s123 s124 s125 s126 s127 s128 s129 s130 s131 s132 s133 s134 s135 s136 s137 s138 s139 s140 s141 s142 s143 s144 s145 s146 s147 s148 s149 s150 s151 s152 s153 s154 s155 s156 s157 s158 s159 s160 s161 s162 s163 s164 s165 s166 s167 s168 s169 s170 s171 s172 s173 s174 s175 s176 s177 s178 s179 s180 s181 s182 s183 s184 s185 s186 s187 s188 : Value}
    (ct1 : ∀ W, Below w0.heap.size w0 W → Calls Try.prog 22 #[.slice A1 n1 c1, .agg #[Value.int IntKind.i64 ff, Value.int IntKind.i64 tt, Value.slice fA fn fc]] W fun e w' => e = .returned (.int .i64 (k1 : Int)) ∧ Below W.heap.size W w')
    (ct2 : ∀ W, Below w0.heap.size w0 W → Calls Try.prog 22 #[.slice A2 n2 c2, .agg #[Value.int IntKind.i64 ff, Value.int IntKind.i64 tt, Value.slice fA fn fc]] W fun e w' => e = .returned (.int .i64 (k2 : Int)) ∧ Below W.heap.size W w')
    (ct3 : ∀ W, Below w0.heap.size w0 W → Calls Try.prog 22 #[.slice A3 n3 c3, .agg #[Value.int IntKind.i64 ff, Value.int IntKind.i64 tt, Value.slice fA fn fc]] W fun e w' => e = .returned (.int .i64 (k3 : Int)) ∧ Below W.heap.size W w')
    (hwk : IntKind.i64.wrap ((k2 : Int) + (k3 : Int)) = (k1 : Int))
    (M_fb : ∀ W, Below w0.heap.size w0 W → W.heap[fb]? = some (.cells #[Value.int IntKind.i64 ff, Value.int IntKind.i64 tt, Value.slice fA fn fc] 38 (0, 0)))
    {Q : Exit → Act → World → Prop}
    (hend : ∀ (w : World), Below w0.heap.size w0 w → Q .normal { tmps := #[s0, s1, s2, s3, s4, s5, s6, s7, (Value.slice A1 n1 c1), (Value.slice A2 n2 c2), s10, s11, s12, s13, s14, s15, s16, s17, (Value.slice A3 n3 c3), s19, (Value.pointer (some ⟨fb, 0, none⟩)), s21, s22, s23, s24, s25, s26, s27, s28, s29, s30, s31, s32, s33, s34, s35, s36, s37, s38, s39, s40, s41, s42, s43, s44, s45, s46, s47, s48, s49, s50, s51, s52, s53, s54, s55, s56, s57, s58, s59, s60, s61, s62, s63, s64, s65, s66, s67, s68, s69, s70, s71, s72, s73, s74, s75, s76, s77, s78, s79, s80, s81, s82, s83, s84, s85, s86, s87, s88, s89, s90, s91, s92, s93, s94, s95, s96, s97, s98, s99, s100, s101, s102, s103, s104, s105, s106, s107, s108, s109, s110, s111, s112, s113, s114, s115, s116, s117, s118, s119, s120, s121, s122, s123, s124, s125, s126, s127, s128, s129, s130, s131, (Value.slice A1 n1 c1), (Value.agg #[Value.int IntKind.i64 ff, Value.int IntKind.i64 tt, Value.slice fA fn fc]), (Value.int IntKind.i64 (k1 : Int)), (Value.slice A2 n2 c2), (Value.agg #[Value.int IntKind.i64 ff, Value.int IntKind.i64 tt, Value.slice fA fn fc]), (Value.int IntKind.i64 (k2 : Int)), (Value.slice A3 n3 c3), (Value.agg #[Value.int IntKind.i64 ff, Value.int IntKind.i64 tt, Value.slice fA fn fc]), (Value.int IntKind.i64 (k3 : Int)), (Value.int IntKind.i64 (k1 : Int)), (Value.bool false), s143, s144, s145, s146, s147, s148, s149, s150, s151, s152, s153, s154, s155, s156, s157, s158, s159, s160, s161, s162, s163, s164, s165, s166, s167, s168, s169, s170, s171, s172, s173, s174, s175, s176, s177, s178, s179, s180, s181, s182, s183, s184, s185, s186, s187, s188], defers := [] } w) :
    (Code.region 36 (Reg.opsOf Try.f5 36) true).wp Try.prog Q { tmps := #[s0, s1, s2, s3, s4, s5, s6, s7, (Value.slice A1 n1 c1), (Value.slice A2 n2 c2), s10, s11, s12, s13, s14, s15, s16, s17, (Value.slice A3 n3 c3), s19, (Value.pointer (some ⟨fb, 0, none⟩)), s21, s22, s23, s24, s25, s26, s27, s28, s29, s30, s31, s32, s33, s34, s35, s36, s37, s38, s39, s40, s41, s42, s43, s44, s45, s46, s47, s48, s49, s50, s51, s52, s53, s54, s55, s56, s57, s58, s59, s60, s61, s62, s63, s64, s65, s66, s67, s68, s69, s70, s71, s72, s73, s74, s75, s76, s77, s78, s79, s80, s81, s82, s83, s84, s85, s86, s87, s88, s89, s90, s91, s92, s93, s94, s95, s96, s97, s98, s99, s100, s101, s102, s103, s104, s105, s106, s107, s108, s109, s110, s111, s112, s113, s114, s115, s116, s117, s118, s119, s120, s121, s122, s123, s124, s125, s126, s127, s128, s129, s130, s131, s132, s133, s134, s135, s136, s137, s138, s139, s140, s141, s142, s143, s144, s145, s146, s147, s148, s149, s150, s151, s152, s153, s154, s155, s156, s157, s158, s159, s160, s161, s162, s163, s164, s165, s166, s167, s168, s169, s170, s171, s172, s173, s174, s175, s176, s177, s178, s179, s180, s181, s182, s183, s184, s185, s186, s187, s188], defers := [] } w0 := by
  obtain ⟨a0, ha0⟩ : ∃ a0 : Act, a0 = { tmps := #[s0, s1, s2, s3, s4, s5, s6, s7, (Value.slice A1 n1 c1), (Value.slice A2 n2 c2), s10, s11, s12, s13, s14, s15, s16, s17, (Value.slice A3 n3 c3), s19, (Value.pointer (some ⟨fb, 0, none⟩)), s21, s22, s23, s24, s25, s26, s27, s28, s29, s30, s31, s32, s33, s34, s35, s36, s37, s38, s39, s40, s41, s42, s43, s44, s45, s46, s47, s48, s49, s50, s51, s52, s53, s54, s55, s56, s57, s58, s59, s60, s61, s62, s63, s64, s65, s66, s67, s68, s69, s70, s71, s72, s73, s74, s75, s76, s77, s78, s79, s80, s81, s82, s83, s84, s85, s86, s87, s88, s89, s90, s91, s92, s93, s94, s95, s96, s97, s98, s99, s100, s101, s102, s103, s104, s105, s106, s107, s108, s109, s110, s111, s112, s113, s114, s115, s116, s117, s118, s119, s120, s121, s122, s123, s124, s125, s126, s127, s128, s129, s130, s131, s132, s133, s134, s135, s136, s137, s138, s139, s140, s141, s142, s143, s144, s145, s146, s147, s148, s149, s150, s151, s152, s153, s154, s155, s156, s157, s158, s159, s160, s161, s162, s163, s164, s165, s166, s167, s168, s169, s170, s171, s172, s173, s174, s175, s176, s177, s178, s179, s180, s181, s182, s183, s184, s185, s186, s187, s188], defers := [] } := ⟨_, rfl⟩
  have hfin : ∀ v : Nat → Value, Reg.gfr (Reg.opsOf Try.f5 36) a0 v (List.range 11) = { tmps := #[s0, s1, s2, s3, s4, s5, s6, s7, (Value.slice A1 n1 c1), (Value.slice A2 n2 c2), s10, s11, s12, s13, s14, s15, s16, s17, (Value.slice A3 n3 c3), s19, (Value.pointer (some ⟨fb, 0, none⟩)), s21, s22, s23, s24, s25, s26, s27, s28, s29, s30, s31, s32, s33, s34, s35, s36, s37, s38, s39, s40, s41, s42, s43, s44, s45, s46, s47, s48, s49, s50, s51, s52, s53, s54, s55, s56, s57, s58, s59, s60, s61, s62, s63, s64, s65, s66, s67, s68, s69, s70, s71, s72, s73, s74, s75, s76, s77, s78, s79, s80, s81, s82, s83, s84, s85, s86, s87, s88, s89, s90, s91, s92, s93, s94, s95, s96, s97, s98, s99, s100, s101, s102, s103, s104, s105, s106, s107, s108, s109, s110, s111, s112, s113, s114, s115, s116, s117, s118, s119, s120, s121, s122, s123, s124, s125, s126, s127, s128, s129, s130, s131, v 0, v 1, v 2, v 3, v 4, v 5, v 6, v 7, v 8, v 9, v 10, s143, s144, s145, s146, s147, s148, s149, s150, s151, s152, s153, s154, s155, s156, s157, s158, s159, s160, s161, s162, s163, s164, s165, s166, s167, s168, s169, s170, s171, s172, s173, s174, s175, s176, s177, s178, s179, s180, s181, s182, s183, s184, s185, s186, s187, s188], defers := [] } := fun v => by rw [ha0]; kernel_rfl
  rw [← ha0]
  have i8 : a0.eval (.tmp 8) = (Value.slice A1 n1 c1) := by rw [ha0]; rfl
  have i9 : a0.eval (.tmp 9) = (Value.slice A2 n2 c2) := by rw [ha0]; rfl
  have i18 : a0.eval (.tmp 18) = (Value.slice A3 n3 c3) := by rw [ha0]; rfl
  have i20 : a0.eval (.tmp 20) = (Value.pointer (some ⟨fb, 0, none⟩)) := by rw [ha0]; rfl
  have hsz : a0.tmps.size = 189 := by rw [ha0]; rfl
  clear ha0
  have hn : (Reg.opsOf Try.f5 36).size = 11 := by kernel_rfl
  have h0 := nkp36_h0 n1 c1 n2 c2 n3 c3 fb fn fc k1 k2 k3 A1 A2 A3 fA ff tt w0 a0 ct1 ct2 ct3 hwk M_fb i8 i9 i18 i20 hsz
  have h1 := nkp36_h1 n1 c1 n2 c2 n3 c3 fb fn fc k1 k2 k3 A1 A2 A3 fA ff tt w0 a0 ct1 ct2 ct3 hwk M_fb i8 i9 i18 i20 hsz
  have h2 := nkp36_h2 n1 c1 n2 c2 n3 c3 fb fn fc k1 k2 k3 A1 A2 A3 fA ff tt w0 a0 ct1 ct2 ct3 hwk M_fb i8 i9 i18 i20 hsz
  have h3 := nkp36_h3 n1 c1 n2 c2 n3 c3 fb fn fc k1 k2 k3 A1 A2 A3 fA ff tt w0 a0 ct1 ct2 ct3 hwk M_fb i8 i9 i18 i20 hsz
  have h4 := nkp36_h4 n1 c1 n2 c2 n3 c3 fb fn fc k1 k2 k3 A1 A2 A3 fA ff tt w0 a0 ct1 ct2 ct3 hwk M_fb i8 i9 i18 i20 hsz
  have h5 := nkp36_h5 n1 c1 n2 c2 n3 c3 fb fn fc k1 k2 k3 A1 A2 A3 fA ff tt w0 a0 ct1 ct2 ct3 hwk M_fb i8 i9 i18 i20 hsz
  have h6 := nkp36_h6 n1 c1 n2 c2 n3 c3 fb fn fc k1 k2 k3 A1 A2 A3 fA ff tt w0 a0 ct1 ct2 ct3 hwk M_fb i8 i9 i18 i20 hsz
  have h7 := nkp36_h7 n1 c1 n2 c2 n3 c3 fb fn fc k1 k2 k3 A1 A2 A3 fA ff tt w0 a0 ct1 ct2 ct3 hwk M_fb i8 i9 i18 i20 hsz
  have h8 := nkp36_h8 n1 c1 n2 c2 n3 c3 fb fn fc k1 k2 k3 A1 A2 A3 fA ff tt w0 a0 ct1 ct2 ct3 hwk M_fb i8 i9 i18 i20 hsz
  have h9 := nkp36_h9 n1 c1 n2 c2 n3 c3 fb fn fc k1 k2 k3 A1 A2 A3 fA ff tt w0 a0 ct1 ct2 ct3 hwk M_fb i8 i9 i18 i20 hsz
  have h10 := nkp36_h10 n1 c1 n2 c2 n3 c3 fb fn fc k1 k2 k3 A1 A2 A3 fA ff tt w0 a0 ct1 ct2 ct3 hwk M_fb i8 i9 i18 i20 hsz
  refine Reg.region_all (by kernel_rfl) (nkp36R n1 c1 n2 c2 n3 c3 fb fn fc k1 k2 k3 A1 A2 A3 fA ff tt) (by rw [hn, hsz]; kernel_rfl) (nkp36_stable n1 c1 n2 c2 n3 c3 fb fn fc k1 k2 k3 A1 A2 A3 fA ff tt) (fun i hi => ?_) (fun v w hb hR => ?_)
  · rw [hn] at hi
    match i, List.mem_range.1 hi with
    | 0, _ => exact h0
    | 1, _ => exact h1
    | 2, _ => exact h2
    | 3, _ => exact h3
    | 4, _ => exact h4
    | 5, _ => exact h5
    | 6, _ => exact h6
    | 7, _ => exact h7
    | 8, _ => exact h8
    | 9, _ => exact h9
    | 10, _ => exact h10
    | (_ + 11), h => omega
  · rw [hn] at hR ⊢
    have v0 : v 0 = (Value.slice A1 n1 c1) := hR 0 (by decide)
    have v1 : v 1 = (Value.agg #[Value.int IntKind.i64 ff, Value.int IntKind.i64 tt, Value.slice fA fn fc]) := hR 1 (by decide)
    have v2 : v 2 = (Value.int IntKind.i64 (k1 : Int)) := hR 2 (by decide)
    have v3 : v 3 = (Value.slice A2 n2 c2) := hR 3 (by decide)
    have v4 : v 4 = (Value.agg #[Value.int IntKind.i64 ff, Value.int IntKind.i64 tt, Value.slice fA fn fc]) := hR 4 (by decide)
    have v5 : v 5 = (Value.int IntKind.i64 (k2 : Int)) := hR 5 (by decide)
    have v6 : v 6 = (Value.slice A3 n3 c3) := hR 6 (by decide)
    have v7 : v 7 = (Value.agg #[Value.int IntKind.i64 ff, Value.int IntKind.i64 tt, Value.slice fA fn fc]) := hR 7 (by decide)
    have v8 : v 8 = (Value.int IntKind.i64 (k3 : Int)) := hR 8 (by decide)
    have v9 : v 9 = (Value.int IntKind.i64 (k1 : Int)) := hR 9 (by decide)
    have v10 : v 10 = (Value.bool false) := hR 10 (by decide)
    rw [hfin v, v0, v1, v2, v3, v4, v5, v6, v7, v8, v9, v10]
    exact hend w  hb 
end Go.Proofs.Ytfojlmnlolnilaa
