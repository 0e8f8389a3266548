/- Regions that draw their order: their obligations (printed by regen2.py). -/
import Derived.Test.YtcdnbidenaljlaaSetT
import Derived.Test.YtcdnbidenaljlaaRegT
namespace Go.Proofs.Ytcdnbidenaljlaa
open Go.RowKit
set_option linter.unusedVariables false
set_option linter.unusedSimpArgs false
set_option linter.unusedSectionVars false
def hs11R (tb n c n2 c2 : Nat) (A2 A3 : Option Addr) (TC : Array Value) (bo : Bool) : Nat → Value → World → Prop
  | 0 => fun x_ _ => x_ = (Value.slice A2 n c)
  | 1 => fun x_ _ => x_ = (Value.agg TC)
  | 2 => fun x_ _ => x_ = (Value.bool bo)
  | 3 => fun x_ _ => x_ = (Value.slice A3 n2 c2)
  | 4 => fun x_ _ => x_ = (Value.agg TC)
  | 5 => fun x_ _ => x_ = (Value.bool bo)
  | 6 => fun x_ _ => x_ = (Value.bool false)
  | _ => fun _ _ => True
theorem hs11_stable (tb n c n2 c2 : Nat) (A2 A3 : Option Addr) (TC : Array Value) (bo : Bool) : ∀ i_ u_ w_ w_', (hs11R tb n c n2 c2 A2 A3 TC bo) i_ u_ w_ → Below w_.heap.size w_ w_' → (hs11R tb n c n2 c2 A2 A3 TC bo) i_ u_ w_' := fun i_ u_ w_ w_' h_ hb_ => by
  match i_, h_ with
  | 0, h_ => exact h_
  | 1, h_ => exact h_
  | 2, h_ => exact h_
  | 3, h_ => exact h_
  | 4, h_ => exact h_
  | 5, h_ => exact h_
  | 6, h_ => exact h_
  | (_ + 7), _ => trivial
section
variable (tb n c n2 c2 : Nat) (A2 A3 : Option Addr) (TC : Array Value) (bo : Bool) (w0 : World) (a0 : Act)
variable (hTi : (Try.prog.info? 23).map (·.size) = some TC.size)
variable (hc1 : ∀ W, Below w0.heap.size w0 W → Calls Try.prog 14 #[.slice A2 n c, .agg TC] W fun e w' => e = .returned (.bool bo) ∧ Below W.heap.size W w')
variable (hc2 : ∀ W, Below w0.heap.size w0 W → Calls Try.prog 15 #[.slice A3 n2 c2, .agg TC] W fun e w' => e = .returned (.bool bo) ∧ Below W.heap.size W w')
variable (M_tb : ∀ W, Below w0.heap.size w0 W → W.heap[tb]? = some (.cells TC 23 (0, 0)))
variable (i8 : a0.eval (.tmp 8) = (Value.slice A2 n c)) (i10 : a0.eval (.tmp 10) = (Value.slice A3 n2 c2)) (i13 : a0.eval (.tmp 13) = (Value.pointer (some ⟨tb, 0, none⟩))) (hsz : a0.tmps.size = 78)
include tb n c n2 c2 A2 A3 TC bo w0 a0 hTi hc1 hc2 M_tb i8 i10 i13 hsz
set_option maxHeartbeats 4000000 in
set_option maxRecDepth 20000 in
theorem hs11_h0 :
    Reg.OpOK Try.prog (Reg.opsOf Try.f4 11) a0 w0 (hs11R tb n c n2 c2 A2 A3 TC bo) (fun _ _ _ _ => True) 0 := by
    refine Reg.op_ok2 (fun af => { dst := some 58, op := Op.move (Operand.tmp 8), type := 32, pos := "law.go:53", after := af, guard := none }) #[] (by kernel_rfl) [] (by kernel_rfl) fun af v W hb hd => ?_
    have e8 := (Reg.gfr_eval0 (ops := (Reg.opsOf Try.f4 11)) (a0 := a0) (v := v) (L := []) 8 (by kernel_rfl)).trans i8
    refine ⟨Reg.wanted_none rfl, ?_⟩
    generalize Reg.gfr (Reg.opsOf Try.f4 11) a0 v [] = G at e8 ⊢
    generalize hρ : G.eval = ρ at e8
    have hρ' : G.eval = ρ := hρ
    refine Reg.go_run (Value.slice A2 n c) W ?_ ?_
    · rw [hρ']; simp [execOp, go_sem, e8]
    · exact ⟨Below.refl _ _, rfl⟩
set_option maxHeartbeats 4000000 in
set_option maxRecDepth 20000 in
theorem hs11_h1 :
    Reg.OpOK Try.prog (Reg.opsOf Try.f4 11) a0 w0 (hs11R tb n c n2 c2 A2 A3 TC bo) (fun _ _ _ _ => True) 1 := by
    refine Reg.op_ok2 (fun af => { dst := some 59, op := Op.load 23 (Operand.tmp 13), type := 23, pos := "law.go:53", after := af, guard := none }) #[] (by kernel_rfl) [] (by kernel_rfl) fun af v W hb hd => ?_
    have e13 := (Reg.gfr_eval0 (ops := (Reg.opsOf Try.f4 11)) (a0 := a0) (v := v) (L := []) 13 (by kernel_rfl)).trans i13
    refine ⟨Reg.wanted_none rfl, ?_⟩
    generalize Reg.gfr (Reg.opsOf Try.f4 11) a0 v [] = G at e13 ⊢
    generalize hρ : G.eval = ρ at e13
    have hρ' : G.eval = ρ := hρ
    exact fun K hK => wp_load_row 23 (.tmp 13) rfl tb (by rw [hρ']; exact e13) 23 TC (0, 0) _ (M_tb W hb) Try.underlying23 rfl hTi (hK _ _ ⟨Below.refl _ _, rfl⟩)
set_option maxHeartbeats 4000000 in
set_option maxRecDepth 20000 in
theorem hs11_h2 :
    Reg.OpOK Try.prog (Reg.opsOf Try.f4 11) a0 w0 (hs11R tb n c n2 c2 A2 A3 TC bo) (fun _ _ _ _ => True) 2 := by
    refine Reg.op_ok2 (fun af => { dst := some 60, op := Op.call { callee := Callee.value (Operand.func 14), args := #[Operand.tmp 58, Operand.tmp 59], argTypes := #[32, 23] }, type := 4, pos := "law.go:53", after := af, guard := none }) #[{ on := 0, ground := Ground.data }, { on := 1, ground := Ground.data }] (by kernel_rfl) [0, 1] (by kernel_rfl) fun af v W hb hd => ?_
    have d0 : v 0 = (Value.slice A2 n c) := hd 0 (by decide)
    have d1 : v 1 = (Value.agg TC) := hd 1 (by decide)
    have e58 := (Reg.gfr_eval (ops := (Reg.opsOf Try.f4 11)) (a0 := a0) (v := v) (L := [0, 1]) 58 0 (by kernel_rfl) (by rw [hsz]; omega)).trans d0
    have e59 := (Reg.gfr_eval (ops := (Reg.opsOf Try.f4 11)) (a0 := a0) (v := v) (L := [0, 1]) 59 1 (by kernel_rfl) (by rw [hsz]; omega)).trans d1
    refine ⟨Reg.wanted_none rfl, ?_⟩
    have eF : ∀ f, (Reg.gfr (Reg.opsOf Try.f4 11) a0 v [0, 1]).eval (.func f) = .func (.func f) #[] #[] := fun _ => rfl
    generalize Reg.gfr (Reg.opsOf Try.f4 11) a0 v [0, 1] = G at e58 e59 eF ⊢
    generalize hρ : G.eval = ρ at e58 e59 eF
    have hρ' : G.eval = ρ := hρ
    refine Reg.go_call 14 #[(Value.slice A2 n c), (Value.agg TC)] (by rw [hρ']; simp [execOp, go_sem, e58, e59, eF]) ((hc1 W hb).mono fun e w' he => ?_)
    obtain ⟨rfl, hbb⟩ := he
    exact ⟨_, rfl, hbb, rfl⟩
set_option maxHeartbeats 4000000 in
set_option maxRecDepth 20000 in
theorem hs11_h3 :
    Reg.OpOK Try.prog (Reg.opsOf Try.f4 11) a0 w0 (hs11R tb n c n2 c2 A2 A3 TC bo) (fun _ _ _ _ => True) 3 := by
    refine Reg.op_ok2 (fun af => { dst := some 61, op := Op.move (Operand.tmp 10), type := 32, pos := "law.go:53", after := af, guard := none }) #[] (by kernel_rfl) [] (by kernel_rfl) fun af v W hb hd => ?_
    have e10 := (Reg.gfr_eval0 (ops := (Reg.opsOf Try.f4 11)) (a0 := a0) (v := v) (L := []) 10 (by kernel_rfl)).trans i10
    refine ⟨Reg.wanted_none rfl, ?_⟩
    generalize Reg.gfr (Reg.opsOf Try.f4 11) a0 v [] = G at e10 ⊢
    generalize hρ : G.eval = ρ at e10
    have hρ' : G.eval = ρ := hρ
    refine Reg.go_run (Value.slice A3 n2 c2) W ?_ ?_
    · rw [hρ']; simp [execOp, go_sem, e10]
    · exact ⟨Below.refl _ _, rfl⟩
set_option maxHeartbeats 4000000 in
set_option maxRecDepth 20000 in
theorem hs11_h4 :
    Reg.OpOK Try.prog (Reg.opsOf Try.f4 11) a0 w0 (hs11R tb n c n2 c2 A2 A3 TC bo) (fun _ _ _ _ => True) 4 := by
    refine Reg.op_ok2 (fun af => { dst := some 62, op := Op.load 23 (Operand.tmp 13), type := 23, pos := "law.go:53", after := af, guard := none }) #[] (by kernel_rfl) [] (by kernel_rfl) fun af v W hb hd => ?_
    have e13 := (Reg.gfr_eval0 (ops := (Reg.opsOf Try.f4 11)) (a0 := a0) (v := v) (L := []) 13 (by kernel_rfl)).trans i13
    refine ⟨Reg.wanted_none rfl, ?_⟩
    generalize Reg.gfr (Reg.opsOf Try.f4 11) a0 v [] = G at e13 ⊢
    generalize hρ : G.eval = ρ at e13
    have hρ' : G.eval = ρ := hρ
    exact fun K hK => wp_load_row 23 (.tmp 13) rfl tb (by rw [hρ']; exact e13) 23 TC (0, 0) _ (M_tb W hb) Try.underlying23 rfl hTi (hK _ _ ⟨Below.refl _ _, rfl⟩)
set_option maxHeartbeats 4000000 in
set_option maxRecDepth 20000 in
theorem hs11_h5 :
    Reg.OpOK Try.prog (Reg.opsOf Try.f4 11) a0 w0 (hs11R tb n c n2 c2 A2 A3 TC bo) (fun _ _ _ _ => True) 5 := by
    refine Reg.op_ok2 (fun af => { dst := some 63, op := Op.call { callee := Callee.value (Operand.func 15), args := #[Operand.tmp 61, Operand.tmp 62], argTypes := #[32, 23] }, type := 4, pos := "law.go:53", after := af, guard := none }) #[{ on := 3, ground := Ground.data }, { on := 4, ground := Ground.data }, { on := 2, ground := Ground.chain }] (by kernel_rfl) [3, 4, 2] (by kernel_rfl) fun af v W hb hd => ?_
    have d3 : v 3 = (Value.slice A3 n2 c2) := hd 3 (by decide)
    have d4 : v 4 = (Value.agg TC) := hd 4 (by decide)
    have e61 := (Reg.gfr_eval (ops := (Reg.opsOf Try.f4 11)) (a0 := a0) (v := v) (L := [3, 4, 2]) 61 3 (by kernel_rfl) (by rw [hsz]; omega)).trans d3
    have e62 := (Reg.gfr_eval (ops := (Reg.opsOf Try.f4 11)) (a0 := a0) (v := v) (L := [3, 4, 2]) 62 4 (by kernel_rfl) (by rw [hsz]; omega)).trans d4
    refine ⟨Reg.wanted_none rfl, ?_⟩
    have eF : ∀ f, (Reg.gfr (Reg.opsOf Try.f4 11) a0 v [3, 4, 2]).eval (.func f) = .func (.func f) #[] #[] := fun _ => rfl
    generalize Reg.gfr (Reg.opsOf Try.f4 11) a0 v [3, 4, 2] = G at e61 e62 eF ⊢
    generalize hρ : G.eval = ρ at e61 e62 eF
    have hρ' : G.eval = ρ := hρ
    refine Reg.go_call 15 #[(Value.slice A3 n2 c2), (Value.agg TC)] (by rw [hρ']; simp [execOp, go_sem, e61, e62, eF]) ((hc2 W hb).mono fun e w' he => ?_)
    obtain ⟨rfl, hbb⟩ := he
    exact ⟨_, rfl, hbb, rfl⟩
set_option maxHeartbeats 4000000 in
set_option maxRecDepth 20000 in
theorem hs11_h6 :
    Reg.OpOK Try.prog (Reg.opsOf Try.f4 11) a0 w0 (hs11R tb n c n2 c2 A2 A3 TC bo) (fun _ _ _ _ => True) 6 := by
    refine Reg.op_ok2 (fun af => { dst := some 64, op := Op.binOp BinOp.neq 4 (Operand.tmp 60) (Operand.tmp 63) 4, type := 4, pos := "law.go:53", after := af, guard := none }) #[{ on := 2, ground := Ground.data }, { on := 5, ground := Ground.data }] (by kernel_rfl) [2, 5] (by kernel_rfl) fun af v W hb hd => ?_
    have d2 : v 2 = (Value.bool bo) := hd 2 (by decide)
    have d5 : v 5 = (Value.bool bo) := hd 5 (by decide)
    have e60 := (Reg.gfr_eval (ops := (Reg.opsOf Try.f4 11)) (a0 := a0) (v := v) (L := [2, 5]) 60 2 (by kernel_rfl) (by rw [hsz]; omega)).trans d2
    have e63 := (Reg.gfr_eval (ops := (Reg.opsOf Try.f4 11)) (a0 := a0) (v := v) (L := [2, 5]) 63 5 (by kernel_rfl) (by rw [hsz]; omega)).trans d5
    refine ⟨Reg.wanted_none rfl, ?_⟩
    generalize Reg.gfr (Reg.opsOf Try.f4 11) a0 v [2, 5] = G at e60 e63 ⊢
    generalize hρ : G.eval = ρ at e60 e63
    have hρ' : G.eval = ρ := hρ
    refine Reg.go_run (Value.bool false) W ?_ ?_
    · rw [hρ']; simp [execOp, go_sem, e60, e63]
    · exact ⟨Below.refl _ _, rfl⟩
end
set_option maxHeartbeats 4000000 in
set_option maxRecDepth 20000 in
theorem hs11 (tb n c n2 c2 : Nat) (A2 A3 : Option Addr) (TC : Array Value) (bo : Bool) (w0 : World) {s0 s1 s2 s3 s4 s5 s6 s7 s9 s11 s12 s14 s15 s16 s17 s18 s19 s20 s21 s22 s23 s24 s25 s26 s27 s28 s29 s30 s31 s32 s33 s34 s35 s36 s37 s38 s39 s40 s41 s42 s43 s44 s45 s46 s47 s48 s49 s50 s51 s52 s53 s54 s55 s56 s57 s58 s59 s60 s61 s62 s63 s64 s65 s66 s67 s68 s69 s70 s71 s72 s73 s74 s75 s76 s77 : Value}
    (hTi : (Try.prog.info? 23).map (·.size) = some TC.size)
    (hc1 : ∀ W, Below w0.heap.size w0 W → Calls Try.prog 14 #[.slice A2 n c, .agg TC] W fun e w' => e = .returned (.bool bo) ∧ Below W.heap.size W w')
    (hc2 : ∀ W, Below w0.heap.size w0 W → Calls Try.prog 15 #[.slice A3 n2 c2, .agg TC] W fun e w' => e = .returned (.bool bo) ∧ Below W.heap.size W w')
    (M_tb : ∀ W, Below w0.heap.size w0 W → W.heap[tb]? = some (.cells TC 23 (0, 0)))
    {Q : Exit → Act → World → Prop}
    (hend : ∀ (w : World), Below w0.heap.size w0 w → Q .normal { tmps := #[s0, s1, s2, s3, s4, s5, s6, s7, (Value.slice A2 n c), s9, (Value.slice A3 n2 c2), s11, s12, (Value.pointer (some ⟨tb, 0, none⟩)), s14, s15, s16, s17, s18, s19, s20, s21, s22, s23, s24, s25, s26, s27, s28, s29, s30, s31, s32, s33, s34, s35, s36, s37, s38, s39, s40, s41, s42, s43, s44, s45, s46, s47, s48, s49, s50, s51, s52, s53, s54, s55, s56, s57, (Value.slice A2 n c), (Value.agg TC), (Value.bool bo), (Value.slice A3 n2 c2), (Value.agg TC), (Value.bool bo), (Value.bool false), s65, s66, s67, s68, s69, s70, s71, s72, s73, s74, s75, s76, s77], defers := [] } w) :
    (Code.region 11 (Reg.opsOf Try.f4 11) true).wp Try.prog Q { tmps := #[s0, s1, s2, s3, s4, s5, s6, s7, (Value.slice A2 n c), s9, (Value.slice A3 n2 c2), s11, s12, (Value.pointer (some ⟨tb, 0, none⟩)), s14, s15, s16, s17, s18, s19, s20, s21, s22, s23, s24, s25, s26, s27, s28, s29, s30, s31, s32, s33, s34, s35, s36, s37, s38, s39, s40, s41, s42, s43, s44, s45, s46, s47, s48, s49, s50, s51, s52, s53, s54, s55, s56, s57, s58, s59, s60, s61, s62, s63, s64, s65, s66, s67, s68, s69, s70, s71, s72, s73, s74, s75, s76, s77], defers := [] } w0 := by
  obtain ⟨a0, ha0⟩ : ∃ a0 : Act, a0 = { tmps := #[s0, s1, s2, s3, s4, s5, s6, s7, (Value.slice A2 n c), s9, (Value.slice A3 n2 c2), s11, s12, (Value.pointer (some ⟨tb, 0, none⟩)), s14, s15, s16, s17, s18, s19, s20, s21, s22, s23, s24, s25, s26, s27, s28, s29, s30, s31, s32, s33, s34, s35, s36, s37, s38, s39, s40, s41, s42, s43, s44, s45, s46, s47, s48, s49, s50, s51, s52, s53, s54, s55, s56, s57, s58, s59, s60, s61, s62, s63, s64, s65, s66, s67, s68, s69, s70, s71, s72, s73, s74, s75, s76, s77], defers := [] } := ⟨_, rfl⟩
  have hfin : ∀ v : Nat → Value, Reg.gfr (Reg.opsOf Try.f4 11) a0 v (List.range 7) = { tmps := #[s0, s1, s2, s3, s4, s5, s6, s7, (Value.slice A2 n c), s9, (Value.slice A3 n2 c2), s11, s12, (Value.pointer (some ⟨tb, 0, none⟩)), s14, s15, s16, s17, s18, s19, s20, s21, s22, s23, s24, s25, s26, s27, s28, s29, s30, s31, s32, s33, s34, s35, s36, s37, s38, s39, s40, s41, s42, s43, s44, s45, s46, s47, s48, s49, s50, s51, s52, s53, s54, s55, s56, s57, v 0, v 1, v 2, v 3, v 4, v 5, v 6, s65, s66, s67, s68, s69, s70, s71, s72, s73, s74, s75, s76, s77], defers := [] } := fun v => by rw [ha0]; kernel_rfl
  rw [← ha0]
  have i8 : a0.eval (.tmp 8) = (Value.slice A2 n c) := by rw [ha0]; rfl
  have i10 : a0.eval (.tmp 10) = (Value.slice A3 n2 c2) := by rw [ha0]; rfl
  have i13 : a0.eval (.tmp 13) = (Value.pointer (some ⟨tb, 0, none⟩)) := by rw [ha0]; rfl
  have hsz : a0.tmps.size = 78 := by rw [ha0]; rfl
  clear ha0
  have hn : (Reg.opsOf Try.f4 11).size = 7 := by kernel_rfl
  have h0 := hs11_h0 tb n c n2 c2 A2 A3 TC bo w0 a0 hTi hc1 hc2 M_tb i8 i10 i13 hsz
  have h1 := hs11_h1 tb n c n2 c2 A2 A3 TC bo w0 a0 hTi hc1 hc2 M_tb i8 i10 i13 hsz
  have h2 := hs11_h2 tb n c n2 c2 A2 A3 TC bo w0 a0 hTi hc1 hc2 M_tb i8 i10 i13 hsz
  have h3 := hs11_h3 tb n c n2 c2 A2 A3 TC bo w0 a0 hTi hc1 hc2 M_tb i8 i10 i13 hsz
  have h4 := hs11_h4 tb n c n2 c2 A2 A3 TC bo w0 a0 hTi hc1 hc2 M_tb i8 i10 i13 hsz
  have h5 := hs11_h5 tb n c n2 c2 A2 A3 TC bo w0 a0 hTi hc1 hc2 M_tb i8 i10 i13 hsz
  have h6 := hs11_h6 tb n c n2 c2 A2 A3 TC bo w0 a0 hTi hc1 hc2 M_tb i8 i10 i13 hsz
  refine Reg.region_all (by kernel_rfl) (hs11R tb n c n2 c2 A2 A3 TC bo) (by rw [hn, hsz]; kernel_rfl) (hs11_stable tb n c n2 c2 A2 A3 TC bo) (fun i hi => ?_) (fun v w hb hR => ?_)
  · rw [hn] at hi
    match i, List.mem_range.1 hi with
    | 0, _ => exact h0
    | 1, _ => exact h1
    | 2, _ => exact h2
    | 3, _ => exact h3
    | 4, _ => exact h4
    | 5, _ => exact h5
    | 6, _ => exact h6
    | (_ + 7), h => omega
  · rw [hn] at hR ⊢
    have v0 : v 0 = (Value.slice A2 n c) := hR 0 (by decide)
    have v1 : v 1 = (Value.agg TC) := hR 1 (by decide)
    have v2 : v 2 = (Value.bool bo) := hR 2 (by decide)
    have v3 : v 3 = (Value.slice A3 n2 c2) := hR 3 (by decide)
    have v4 : v 4 = (Value.agg TC) := hR 4 (by decide)
    have v5 : v 5 = (Value.bool bo) := hR 5 (by decide)
    have v6 : v 6 = (Value.bool false) := hR 6 (by decide)
    rw [hfin v, v0, v1, v2, v3, v4, v5, v6]
    exact hend w  hb 
end Go.Proofs.Ytcdnbidenaljlaa
