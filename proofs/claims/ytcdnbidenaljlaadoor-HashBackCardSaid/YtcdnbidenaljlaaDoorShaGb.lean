/- Regions that draw their order: their obligations (printed by regen2.py). -/
import Derived.Test.YtcdnbidenaljlaaDoorShaL
import Derived.Test.YtcdnbidenaljlaaDoorRegT
namespace Go.Proofs.YtcdnbidenaljlaaDoor
open Go.RowKit
set_option linter.unusedVariables false
set_option linter.unusedSimpArgs false
set_option linter.unusedSectionVars false
def hback5R (ba bb : Nat) (CA CB : Array Value) (TA TB : ByteArray) : Nat → Value → World → Prop
  | 0 => fun x_ _ => x_ = (Value.agg CA)
  | 1 => fun x_ _ => x_ = (Value.string TA)
  | 2 => fun x_ _ => x_ = (Value.agg CB)
  | 3 => fun x_ _ => x_ = (Value.string TB)
  | 4 => fun x_ _ => x_ = (Value.string TA)
  | 5 => fun x_ _ => x_ = (Value.string TB)
  | _ => fun _ _ => True
theorem hback5_stable (ba bb : Nat) (CA CB : Array Value) (TA TB : ByteArray) : ∀ i_ u_ w_ w_', (hback5R ba bb CA CB TA TB) i_ u_ w_ → Below w_.heap.size w_ w_' → (hback5R ba bb CA CB TA TB) i_ u_ w_' := fun i_ u_ w_ w_' h_ hb_ => by
  match i_, h_ with
  | 0, h_ => exact h_
  | 1, h_ => exact h_
  | 2, h_ => exact h_
  | 3, h_ => exact h_
  | 4, h_ => exact h_
  | 5, h_ => exact h_
  | (_ + 6), _ => trivial
section
variable (ba bb : Nat) (CA CB : Array Value) (TA TB : ByteArray) (w0 : World) (a0 : Act)
variable (hCA : (Tryd.prog.info? 25).map (·.size) = some CA.size)
variable (hCB : (Tryd.prog.info? 25).map (·.size) = some CB.size)
variable (htA : ∀ W, Below w0.heap.size w0 W → Calls Tryd.prog 15 #[.agg CA] W fun e w' => e = .returned (.string TA) ∧ Below W.heap.size W w')
variable (htB : ∀ W, Below w0.heap.size w0 W → Calls Tryd.prog 15 #[.agg CB] W fun e w' => e = .returned (.string TB) ∧ Below W.heap.size W w')
variable (M_ba : ∀ W, Below w0.heap.size w0 W → W.heap[ba]? = some (.cells CA 25 (0, 0)))
variable (M_bb : ∀ W, Below w0.heap.size w0 W → W.heap[bb]? = some (.cells CB 25 (0, 0)))
variable (i3 : a0.eval (.tmp 3) = (Value.pointer (some ⟨ba, 0, none⟩))) (i4 : a0.eval (.tmp 4) = (Value.pointer (some ⟨bb, 0, none⟩))) (hsz : a0.tmps.size = 96)
include ba bb CA CB TA TB w0 a0 hCA hCB htA htB M_ba M_bb i3 i4 hsz
set_option maxHeartbeats 4000000 in
set_option maxRecDepth 20000 in
theorem hback5_h0 :
    Reg.OpOK Tryd.prog (Reg.opsOf Tryd.f5 5) a0 w0 (hback5R ba bb CA CB TA TB) (fun _ _ _ _ => True) 0 := by
    refine Reg.op_ok2 (fun af => { dst := some 44, op := Op.load 25 (Operand.tmp 3), type := 25, pos := "outright.go:68", after := af, guard := none }) #[] (by kernel_rfl) [] (by kernel_rfl) fun af v W hb hd => ?_
    have e3 := (Reg.gfr_eval0 (ops := (Reg.opsOf Tryd.f5 5)) (a0 := a0) (v := v) (L := []) 3 (by kernel_rfl)).trans i3
    refine ⟨Reg.wanted_none rfl, ?_⟩
    generalize Reg.gfr (Reg.opsOf Tryd.f5 5) a0 v [] = G at e3 ⊢
    generalize hρ : G.eval = ρ at e3
    have hρ' : G.eval = ρ := hρ
    exact fun K hK => wp_load_row 25 (.tmp 3) rfl ba (by rw [hρ']; exact e3) 25 CA (0, 0) _ (M_ba W hb) Tryd.underlying25 rfl hCA (hK _ _ ⟨Below.refl _ _, rfl⟩)
set_option maxHeartbeats 4000000 in
set_option maxRecDepth 20000 in
theorem hback5_h1 :
    Reg.OpOK Tryd.prog (Reg.opsOf Tryd.f5 5) a0 w0 (hback5R ba bb CA CB TA TB) (fun _ _ _ _ => True) 1 := by
    refine Reg.op_ok2 (fun af => { dst := some 45, op := Op.call { callee := Callee.value (Operand.func 15), args := #[Operand.tmp 44], argTypes := #[25] }, type := 9, pos := "outright.go:68", after := af, guard := none }) #[{ on := 0, ground := Ground.data }] (by kernel_rfl) [0] (by kernel_rfl) fun af v W hb hd => ?_
    have d0 : v 0 = (Value.agg CA) := hd 0 (by decide)
    have e44 := (Reg.gfr_eval (ops := (Reg.opsOf Tryd.f5 5)) (a0 := a0) (v := v) (L := [0]) 44 0 (by kernel_rfl) (by rw [hsz]; omega)).trans d0
    refine ⟨Reg.wanted_none rfl, ?_⟩
    have eF : ∀ f, (Reg.gfr (Reg.opsOf Tryd.f5 5) a0 v [0]).eval (.func f) = .func (.func f) #[] #[] := fun _ => rfl
    generalize Reg.gfr (Reg.opsOf Tryd.f5 5) a0 v [0] = G at e44 eF ⊢
    generalize hρ : G.eval = ρ at e44 eF
    have hρ' : G.eval = ρ := hρ
    refine Reg.go_call 15 #[(Value.agg CA)] (by rw [hρ']; simp [execOp, go_sem, e44, eF]) ((htA W hb).mono fun e w' he => ?_)
    obtain ⟨rfl, hbb⟩ := he
    exact ⟨_, rfl, hbb, rfl⟩
set_option maxHeartbeats 4000000 in
set_option maxRecDepth 20000 in
theorem hback5_h2 :
    Reg.OpOK Tryd.prog (Reg.opsOf Tryd.f5 5) a0 w0 (hback5R ba bb CA CB TA TB) (fun _ _ _ _ => True) 2 := by
    refine Reg.op_ok2 (fun af => { dst := some 46, op := Op.load 25 (Operand.tmp 4), type := 25, pos := "outright.go:68", after := af, guard := none }) #[] (by kernel_rfl) [] (by kernel_rfl) fun af v W hb hd => ?_
    have e4 := (Reg.gfr_eval0 (ops := (Reg.opsOf Tryd.f5 5)) (a0 := a0) (v := v) (L := []) 4 (by kernel_rfl)).trans i4
    refine ⟨Reg.wanted_none rfl, ?_⟩
    generalize Reg.gfr (Reg.opsOf Tryd.f5 5) a0 v [] = G at e4 ⊢
    generalize hρ : G.eval = ρ at e4
    have hρ' : G.eval = ρ := hρ
    exact fun K hK => wp_load_row 25 (.tmp 4) rfl bb (by rw [hρ']; exact e4) 25 CB (0, 0) _ (M_bb W hb) Tryd.underlying25 rfl hCB (hK _ _ ⟨Below.refl _ _, rfl⟩)
set_option maxHeartbeats 4000000 in
set_option maxRecDepth 20000 in
theorem hback5_h3 :
    Reg.OpOK Tryd.prog (Reg.opsOf Tryd.f5 5) a0 w0 (hback5R ba bb CA CB TA TB) (fun _ _ _ _ => True) 3 := by
    refine Reg.op_ok2 (fun af => { dst := some 47, op := Op.call { callee := Callee.value (Operand.func 15), args := #[Operand.tmp 46], argTypes := #[25] }, type := 9, pos := "outright.go:68", after := af, guard := none }) #[{ on := 2, ground := Ground.data }, { on := 1, ground := Ground.chain }] (by kernel_rfl) [2, 1] (by kernel_rfl) fun af v W hb hd => ?_
    have d2 : v 2 = (Value.agg CB) := hd 2 (by decide)
    have e46 := (Reg.gfr_eval (ops := (Reg.opsOf Tryd.f5 5)) (a0 := a0) (v := v) (L := [2, 1]) 46 2 (by kernel_rfl) (by rw [hsz]; omega)).trans d2
    refine ⟨Reg.wanted_none rfl, ?_⟩
    have eF : ∀ f, (Reg.gfr (Reg.opsOf Tryd.f5 5) a0 v [2, 1]).eval (.func f) = .func (.func f) #[] #[] := fun _ => rfl
    generalize Reg.gfr (Reg.opsOf Tryd.f5 5) a0 v [2, 1] = G at e46 eF ⊢
    generalize hρ : G.eval = ρ at e46 eF
    have hρ' : G.eval = ρ := hρ
    refine Reg.go_call 15 #[(Value.agg CB)] (by rw [hρ']; simp [execOp, go_sem, e46, eF]) ((htB W hb).mono fun e w' he => ?_)
    obtain ⟨rfl, hbb⟩ := he
    exact ⟨_, rfl, hbb, rfl⟩
set_option maxHeartbeats 4000000 in
set_option maxRecDepth 20000 in
theorem hback5_h4 :
    Reg.OpOK Tryd.prog (Reg.opsOf Tryd.f5 5) a0 w0 (hback5R ba bb CA CB TA TB) (fun _ _ _ _ => True) 4 := by
    refine Reg.op_ok2 (fun af => { dst := some 10, op := Op.assign (Operand.tmp 45), type := 9, pos := "outright.go:68", after := af, guard := none }) #[{ on := 1, ground := Ground.data }, { on := 3, ground := Ground.chain }, { on := 0, ground := Ground.phase }, { on := 1, ground := Ground.phase }, { on := 2, ground := Ground.textOnly Departure.lateStores }, { on := 3, ground := Ground.textOnly Departure.lateStoresUnsure }] (by kernel_rfl) [1, 3, 0, 1] (by kernel_rfl) fun af v W hb hd => ?_
    have d1 : v 1 = (Value.string TA) := hd 1 (by decide)
    have e45 := (Reg.gfr_eval (ops := (Reg.opsOf Tryd.f5 5)) (a0 := a0) (v := v) (L := [1, 3, 0, 1]) 45 1 (by kernel_rfl) (by rw [hsz]; omega)).trans d1
    refine ⟨Reg.wanted_none rfl, ?_⟩
    generalize Reg.gfr (Reg.opsOf Tryd.f5 5) a0 v [1, 3, 0, 1] = G at e45 ⊢
    generalize hρ : G.eval = ρ at e45
    have hρ' : G.eval = ρ := hρ
    refine Reg.go_run (Value.string TA) W ?_ ?_
    · rw [hρ']; simp [execOp, go_sem, e45]
    · exact ⟨Below.refl _ _, rfl⟩
set_option maxHeartbeats 4000000 in
set_option maxRecDepth 20000 in
theorem hback5_h5 :
    Reg.OpOK Tryd.prog (Reg.opsOf Tryd.f5 5) a0 w0 (hback5R ba bb CA CB TA TB) (fun _ _ _ _ => True) 5 := by
    refine Reg.op_ok2 (fun af => { dst := some 11, op := Op.assign (Operand.tmp 47), type := 9, pos := "outright.go:68", after := af, guard := none }) #[{ on := 3, ground := Ground.data }, { on := 4, ground := Ground.chain }, { on := 0, ground := Ground.phase }, { on := 1, ground := Ground.phase }, { on := 2, ground := Ground.phase }, { on := 3, ground := Ground.phase }, { on := 4, ground := Ground.phase }] (by kernel_rfl) [3, 4, 0, 1, 2, 3, 4] (by kernel_rfl) fun af v W hb hd => ?_
    have d3 : v 3 = (Value.string TB) := hd 3 (by decide)
    have e47 := (Reg.gfr_eval (ops := (Reg.opsOf Tryd.f5 5)) (a0 := a0) (v := v) (L := [3, 4, 0, 1, 2, 3, 4]) 47 3 (by kernel_rfl) (by rw [hsz]; omega)).trans d3
    refine ⟨Reg.wanted_none rfl, ?_⟩
    generalize Reg.gfr (Reg.opsOf Tryd.f5 5) a0 v [3, 4, 0, 1, 2, 3, 4] = G at e47 ⊢
    generalize hρ : G.eval = ρ at e47
    have hρ' : G.eval = ρ := hρ
    refine Reg.go_run (Value.string TB) W ?_ ?_
    · rw [hρ']; simp [execOp, go_sem, e47]
    · exact ⟨Below.refl _ _, rfl⟩
end
set_option maxHeartbeats 4000000 in
set_option maxRecDepth 20000 in
theorem hback5 (ba bb : Nat) (CA CB : Array Value) (TA TB : ByteArray) (w0 : World) {s0 s1 s2 s5 s6 s7 s8 s9 s10 s11 s12 s13 s14 s15 s16 s17 s18 s19 s20 s21 s22 s23 s24 s25 s26 s27 s28 s29 s30 s31 s32 s33 s34 s35 s36 s37 s38 s39 s40 s41 s42 s43 s44 s45 s46 s47 s48 s49 s50 s51 s52 s53 s54 s55 s56 s57 s58 s59 s60 s61 s62 s63 s64 s65 s66 s67 s68 s69 s70 s71 s72 s73 s74 s75 s76 s77 s78 s79 s80 s81 s82 s83 s84 s85 s86 s87 s88 s89 s90 s91 s92 s93 s94 s95 : Value}
    (hCA : (Tryd.prog.info? 25).map (·.size) = some CA.size)
    (hCB : (Tryd.prog.info? 25).map (·.size) = some CB.size)
    (htA : ∀ W, Below w0.heap.size w0 W → Calls Tryd.prog 15 #[.agg CA] W fun e w' => e = .returned (.string TA) ∧ Below W.heap.size W w')
    (htB : ∀ W, Below w0.heap.size w0 W → Calls Tryd.prog 15 #[.agg CB] W fun e w' => e = .returned (.string TB) ∧ Below W.heap.size W w')
    (M_ba : ∀ W, Below w0.heap.size w0 W → W.heap[ba]? = some (.cells CA 25 (0, 0)))
    (M_bb : ∀ W, Below w0.heap.size w0 W → W.heap[bb]? = some (.cells CB 25 (0, 0)))
    {Q : Exit → Act → World → Prop}
    (hend : ∀ (w : World), Below w0.heap.size w0 w → Q .normal { tmps := #[s0, s1, s2, (Value.pointer (some ⟨ba, 0, none⟩)), (Value.pointer (some ⟨bb, 0, none⟩)), s5, s6, s7, s8, s9, (Value.string TA), (Value.string TB), s12, s13, s14, s15, s16, s17, s18, s19, s20, s21, s22, s23, s24, s25, s26, s27, s28, s29, s30, s31, s32, s33, s34, s35, s36, s37, s38, s39, s40, s41, s42, s43, (Value.agg CA), (Value.string TA), (Value.agg CB), (Value.string TB), s48, s49, s50, s51, s52, s53, s54, s55, s56, s57, s58, s59, s60, s61, s62, s63, s64, s65, s66, s67, s68, s69, s70, s71, s72, s73, s74, s75, s76, s77, s78, s79, s80, s81, s82, s83, s84, s85, s86, s87, s88, s89, s90, s91, s92, s93, s94, s95], defers := [] } w) :
    (Code.region 5 (Reg.opsOf Tryd.f5 5) true).wp Tryd.prog Q { tmps := #[s0, s1, s2, (Value.pointer (some ⟨ba, 0, none⟩)), (Value.pointer (some ⟨bb, 0, none⟩)), s5, s6, s7, s8, s9, s10, s11, s12, s13, s14, s15, s16, s17, s18, s19, s20, s21, s22, s23, s24, s25, s26, s27, s28, s29, s30, s31, s32, s33, s34, s35, s36, s37, s38, s39, s40, s41, s42, s43, s44, s45, s46, s47, s48, s49, s50, s51, s52, s53, s54, s55, s56, s57, s58, s59, s60, s61, s62, s63, s64, s65, s66, s67, s68, s69, s70, s71, s72, s73, s74, s75, s76, s77, s78, s79, s80, s81, s82, s83, s84, s85, s86, s87, s88, s89, s90, s91, s92, s93, s94, s95], defers := [] } w0 := by
  obtain ⟨a0, ha0⟩ : ∃ a0 : Act, a0 = { tmps := #[s0, s1, s2, (Value.pointer (some ⟨ba, 0, none⟩)), (Value.pointer (some ⟨bb, 0, none⟩)), s5, s6, s7, s8, s9, s10, s11, s12, s13, s14, s15, s16, s17, s18, s19, s20, s21, s22, s23, s24, s25, s26, s27, s28, s29, s30, s31, s32, s33, s34, s35, s36, s37, s38, s39, s40, s41, s42, s43, s44, s45, s46, s47, s48, s49, s50, s51, s52, s53, s54, s55, s56, s57, s58, s59, s60, s61, s62, s63, s64, s65, s66, s67, s68, s69, s70, s71, s72, s73, s74, s75, s76, s77, s78, s79, s80, s81, s82, s83, s84, s85, s86, s87, s88, s89, s90, s91, s92, s93, s94, s95], defers := [] } := ⟨_, rfl⟩
  have hfin : ∀ v : Nat → Value, Reg.gfr (Reg.opsOf Tryd.f5 5) a0 v (List.range 6) = { tmps := #[s0, s1, s2, (Value.pointer (some ⟨ba, 0, none⟩)), (Value.pointer (some ⟨bb, 0, none⟩)), s5, s6, s7, s8, s9, v 4, v 5, s12, s13, s14, s15, s16, s17, s18, s19, s20, s21, s22, s23, s24, s25, s26, s27, s28, s29, s30, s31, s32, s33, s34, s35, s36, s37, s38, s39, s40, s41, s42, s43, v 0, v 1, v 2, v 3, s48, s49, s50, s51, s52, s53, s54, s55, s56, s57, s58, s59, s60, s61, s62, s63, s64, s65, s66, s67, s68, s69, s70, s71, s72, s73, s74, s75, s76, s77, s78, s79, s80, s81, s82, s83, s84, s85, s86, s87, s88, s89, s90, s91, s92, s93, s94, s95], defers := [] } := fun v => by rw [ha0]; kernel_rfl
  rw [← ha0]
  have i3 : a0.eval (.tmp 3) = (Value.pointer (some ⟨ba, 0, none⟩)) := by rw [ha0]; rfl
  have i4 : a0.eval (.tmp 4) = (Value.pointer (some ⟨bb, 0, none⟩)) := by rw [ha0]; rfl
  have hsz : a0.tmps.size = 96 := by rw [ha0]; rfl
  clear ha0
  have hn : (Reg.opsOf Tryd.f5 5).size = 6 := by kernel_rfl
  have h0 := hback5_h0 ba bb CA CB TA TB w0 a0 hCA hCB htA htB M_ba M_bb i3 i4 hsz
  have h1 := hback5_h1 ba bb CA CB TA TB w0 a0 hCA hCB htA htB M_ba M_bb i3 i4 hsz
  have h2 := hback5_h2 ba bb CA CB TA TB w0 a0 hCA hCB htA htB M_ba M_bb i3 i4 hsz
  have h3 := hback5_h3 ba bb CA CB TA TB w0 a0 hCA hCB htA htB M_ba M_bb i3 i4 hsz
  have h4 := hback5_h4 ba bb CA CB TA TB w0 a0 hCA hCB htA htB M_ba M_bb i3 i4 hsz
  have h5 := hback5_h5 ba bb CA CB TA TB w0 a0 hCA hCB htA htB M_ba M_bb i3 i4 hsz
  refine Reg.region_all (by kernel_rfl) (hback5R ba bb CA CB TA TB) (by rw [hn, hsz]; kernel_rfl) (hback5_stable ba bb CA CB TA TB) (fun i hi => ?_) (fun v w hb hR => ?_)
  · rw [hn] at hi
    match i, List.mem_range.1 hi with
    | 0, _ => exact h0
    | 1, _ => exact h1
    | 2, _ => exact h2
    | 3, _ => exact h3
    | 4, _ => exact h4
    | 5, _ => exact h5
    | (_ + 6), h => omega
  · rw [hn] at hR ⊢
    have v0 : v 0 = (Value.agg CA) := hR 0 (by decide)
    have v1 : v 1 = (Value.string TA) := hR 1 (by decide)
    have v2 : v 2 = (Value.agg CB) := hR 2 (by decide)
    have v3 : v 3 = (Value.string TB) := hR 3 (by decide)
    have v4 : v 4 = (Value.string TA) := hR 4 (by decide)
    have v5 : v 5 = (Value.string TB) := hR 5 (by decide)
    rw [hfin v, v0, v1, v2, v3, v4, v5]
    exact hend w  hb 
end Go.Proofs.YtcdnbidenaljlaaDoor
