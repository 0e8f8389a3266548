/- Regions that draw their order: their obligations (printed by regen2.py). -/
import Derived.Test.YtfifbjlmbdgmjaaVecBq
import Derived.Test.YtfifbjlmbdgmjaaRegT
namespace Go.Proofs.Ytfifbjlmbdgmjaa
open Go.RowKit
set_option linter.unusedVariables false
set_option linter.unusedSimpArgs false
set_option linter.unusedSectionVars false
def vb11R (b10 : Nat) (zz : List Nat) : Nat → Value → World → Prop
  | 0 => fun x_ _ => x_ = (Value.bool true)
  | 1 => fun x_ _ => x_ = (Value.bool true)
  | 2 => fun x_ _ => x_ = (Value.agg (vC zz))
  | 3 => fun x_ _ => x_ = (Value.agg (vC zz))
  | 4 => fun x_ _ => x_ = (Value.bool true)
  | 5 => fun x_ _ => x_ = (Value.bool true)
  | 6 => fun x_ _ => x_ = (Value.bool true)
  | _ => fun _ _ => True
theorem vb11_stable (b10 : Nat) (zz : List Nat) : ∀ i_ u_ w_ w_', (vb11R b10 zz) i_ u_ w_ → Below w_.heap.size w_ w_' → (vb11R b10 zz) i_ u_ w_' := fun i_ u_ w_ w_' h_ hb_ => by
  match i_, h_ with
  | 0, h_ => exact h_
  | 1, h_ => exact h_
  | 2, h_ => exact h_
  | 3, h_ => exact h_
  | 4, h_ => exact h_
  | 5, h_ => exact h_
  | 6, h_ => exact h_
  | (_ + 7), _ => trivial
section
variable (b10 : Nat) (zz : List Nat) (w0 : World) (a0 : Act)
variable (hz : zz.length = 16) (hzz : padV [] = zz)
variable (M_b10 : ∀ W, Below w0.heap.size w0 W → W.heap[b10]? = some (.cells (vC zz) 24 (0, 0)))
variable (i5 : a0.eval (.tmp 5) = (Value.bool true)) (i10 : a0.eval (.tmp 10) = (Value.pointer (some ⟨b10, 0, none⟩))) (hsz : a0.tmps.size = 75)
include b10 zz w0 a0 hz hzz M_b10 i5 i10 hsz
set_option maxHeartbeats 4000000 in
set_option maxRecDepth 20000 in
theorem vb11_h0 :
    Reg.OpOK Try.prog (Reg.opsOf Try.f8 11) a0 w0 (vb11R b10 zz) (fun _ _ _ _ => True) 0 := by
    refine Reg.op_ok2 (fun af => { dst := some 54, op := Op.move (Operand.tmp 5), type := 4, pos := "outright.go:104", after := af, guard := none }) #[] (by kernel_rfl) [] (by kernel_rfl) fun af v W hb hd => ?_
    have e5 := (Reg.gfr_eval0 (ops := (Reg.opsOf Try.f8 11)) (a0 := a0) (v := v) (L := []) 5 (by kernel_rfl)).trans i5
    refine ⟨Reg.wanted_none rfl, ?_⟩
    generalize Reg.gfr (Reg.opsOf Try.f8 11) a0 v [] = G at e5 ⊢
    generalize hρ : G.eval = ρ at e5
    have hρ' : G.eval = ρ := hρ
    refine Reg.go_run (Value.bool true) W ?_ ?_
    · rw [hρ']; simp [execOp, go_sem, e5]
    · exact ⟨Below.refl _ _, rfl⟩
set_option maxHeartbeats 4000000 in
set_option maxRecDepth 20000 in
theorem vb11_h1 :
    Reg.OpOK Try.prog (Reg.opsOf Try.f8 11) a0 w0 (vb11R b10 zz) (fun _ _ _ _ => True) 1 := by
    refine Reg.op_ok2 (fun af => { dst := some 55, op := Op.move (Operand.tmp 54), type := 4, pos := "outright.go:104", after := af, guard := none }) #[{ on := 0, ground := Ground.data }] (by kernel_rfl) [0] (by kernel_rfl) fun af v W hb hd => ?_
    have d0 : v 0 = (Value.bool true) := hd 0 (by decide)
    have e54 := (Reg.gfr_eval (ops := (Reg.opsOf Try.f8 11)) (a0 := a0) (v := v) (L := [0]) 54 0 (by kernel_rfl) (by rw [hsz]; omega)).trans d0
    refine ⟨Reg.wanted_none rfl, ?_⟩
    generalize Reg.gfr (Reg.opsOf Try.f8 11) a0 v [0] = G at e54 ⊢
    generalize hρ : G.eval = ρ at e54
    have hρ' : G.eval = ρ := hρ
    refine Reg.go_run (Value.bool true) W ?_ ?_
    · rw [hρ']; simp [execOp, go_sem, e54]
    · exact ⟨Below.refl _ _, rfl⟩
set_option maxHeartbeats 4000000 in
set_option maxRecDepth 20000 in
theorem vb11_h2 :
    Reg.OpOK Try.prog (Reg.opsOf Try.f8 11) a0 w0 (vb11R b10 zz) (fun _ _ _ _ => True) 2 := by
    refine Reg.op_ok2 (fun af => { dst := some 56, op := Op.load 24 (Operand.tmp 10), type := 24, pos := "outright.go:104", after := af, guard := some (1, true) }) #[{ on := 1, ground := Ground.guard }] (by kernel_rfl) [1] (by kernel_rfl) fun af v W hb hd => ?_
    have d1 : v 1 = (Value.bool true) := hd 1 (by decide)
    have e10 := (Reg.gfr_eval0 (ops := (Reg.opsOf Try.f8 11)) (a0 := a0) (v := v) (L := [1]) 10 (by kernel_rfl)).trans i10
    have e55 := (Reg.gfr_eval (ops := (Reg.opsOf Try.f8 11)) (a0 := a0) (v := v) (L := [1]) 55 1 (by kernel_rfl) (by rw [hsz]; omega)).trans d1
    refine ⟨Reg.wanted_of rfl (by kernel_rfl) e55, ?_⟩
    generalize Reg.gfr (Reg.opsOf Try.f8 11) a0 v [1] = G at e10 ⊢
    generalize hρ : G.eval = ρ at e10
    have hρ' : G.eval = ρ := hρ
    exact fun K hK => wp_load_row 24 (.tmp 10) rfl b10 (by rw [hρ']; exact e10) 24 (vC zz) (0, 0) _ (M_b10 W hb) Try.underlying24 rfl (vec_size hz) (hK _ _ ⟨Below.refl _ _, rfl⟩)
set_option maxHeartbeats 4000000 in
set_option maxRecDepth 20000 in
theorem vb11_h3 :
    Reg.OpOK Try.prog (Reg.opsOf Try.f8 11) a0 w0 (vb11R b10 zz) (fun _ _ _ _ => True) 3 := by
    refine Reg.op_ok2 (fun af => { dst := some 57, op := Op.call { callee := Callee.value (Operand.func 34), args := #[Operand.const (Value.slice none 0 0)], argTypes := #[75] }, type := 24, pos := "outright.go:104", after := af, guard := some (1, true) }) #[{ on := 1, ground := Ground.chain }, { on := 1, ground := Ground.guard }] (by kernel_rfl) [1, 1] (by kernel_rfl) fun af v W hb hd => ?_
    have d1 : v 1 = (Value.bool true) := hd 1 (by decide)
    have e55 := (Reg.gfr_eval (ops := (Reg.opsOf Try.f8 11)) (a0 := a0) (v := v) (L := [1, 1]) 55 1 (by kernel_rfl) (by rw [hsz]; omega)).trans d1
    refine ⟨Reg.wanted_of rfl (by kernel_rfl) e55, ?_⟩
    have eF : ∀ f, (Reg.gfr (Reg.opsOf Try.f8 11) a0 v [1, 1]).eval (.func f) = .func (.func f) #[] #[] := fun _ => rfl
    have eC : ∀ x, (Reg.gfr (Reg.opsOf Try.f8 11) a0 v [1, 1]).eval (.const x) = x := fun _ => rfl
    generalize Reg.gfr (Reg.opsOf Try.f8 11) a0 v [1, 1] = G at eF eC ⊢
    generalize hρ : G.eval = ρ at eF eC
    have hρ' : G.eval = ρ := hρ
    refine Reg.go_call 34 #[(Value.slice none 0 0)] (by rw [hρ']; simp [execOp, go_sem, eF, eC]) ((of_any none 0 0 [] rfl (by omega) W (RdC.nil _ _)).mono fun e w' he => ?_)
    obtain ⟨rfl, hbb⟩ := he
    exact ⟨_, rfl, hbb, (show _ = _ from by rw [hzz])⟩
set_option maxHeartbeats 4000000 in
set_option maxRecDepth 20000 in
theorem vb11_h4 :
    Reg.OpOK Try.prog (Reg.opsOf Try.f8 11) a0 w0 (vb11R b10 zz) (fun _ _ _ _ => True) 4 := by
    refine Reg.op_ok2 (fun af => { dst := some 58, op := Op.binOp BinOp.eql 24 (Operand.tmp 56) (Operand.tmp 57) 24, type := 4, pos := "outright.go:104", after := af, guard := some (1, true) }) #[{ on := 2, ground := Ground.data }, { on := 3, ground := Ground.data }, { on := 1, ground := Ground.guard }] (by kernel_rfl) [2, 3, 1] (by kernel_rfl) fun af v W hb hd => ?_
    have d1 : v 1 = (Value.bool true) := hd 1 (by decide)
    have d2 : v 2 = (Value.agg (vC zz)) := hd 2 (by decide)
    have d3 : v 3 = (Value.agg (vC zz)) := hd 3 (by decide)
    have e56 := (Reg.gfr_eval (ops := (Reg.opsOf Try.f8 11)) (a0 := a0) (v := v) (L := [2, 3, 1]) 56 2 (by kernel_rfl) (by rw [hsz]; omega)).trans d2
    have e57 := (Reg.gfr_eval (ops := (Reg.opsOf Try.f8 11)) (a0 := a0) (v := v) (L := [2, 3, 1]) 57 3 (by kernel_rfl) (by rw [hsz]; omega)).trans d3
    have e55 := (Reg.gfr_eval (ops := (Reg.opsOf Try.f8 11)) (a0 := a0) (v := v) (L := [2, 3, 1]) 55 1 (by kernel_rfl) (by rw [hsz]; omega)).trans d1
    refine ⟨Reg.wanted_of rfl (by kernel_rfl) e55, ?_⟩
    generalize Reg.gfr (Reg.opsOf Try.f8 11) a0 v [2, 3, 1] = G at e56 e57 ⊢
    generalize hρ : G.eval = ρ at e56 e57
    have hρ' : G.eval = ρ := hρ
    refine Reg.go_run (Value.bool true) W ?_ ?_
    · rw [hρ']; simp [execOp, go_sem, e56, e57, run_eq_vec W zz zz hz hz]
    · exact ⟨Below.refl _ _, rfl⟩
set_option maxHeartbeats 4000000 in
set_option maxRecDepth 20000 in
theorem vb11_h5 :
    Reg.OpOK Try.prog (Reg.opsOf Try.f8 11) a0 w0 (vb11R b10 zz) (fun _ _ _ _ => True) 5 := by
    refine Reg.op_ok2 (fun af => { dst := some 59, op := Op.pick (Operand.tmp 55) (Operand.tmp 58) (Operand.const (Value.bool false)), type := 4, pos := "outright.go:104", after := af, guard := none }) #[{ on := 1, ground := Ground.data }, { on := 4, ground := Ground.data }] (by kernel_rfl) [1, 4] (by kernel_rfl) fun af v W hb hd => ?_
    have d1 : v 1 = (Value.bool true) := hd 1 (by decide)
    have d4 : v 4 = (Value.bool true) := hd 4 (by decide)
    have e55 := (Reg.gfr_eval (ops := (Reg.opsOf Try.f8 11)) (a0 := a0) (v := v) (L := [1, 4]) 55 1 (by kernel_rfl) (by rw [hsz]; omega)).trans d1
    have e58 := (Reg.gfr_eval (ops := (Reg.opsOf Try.f8 11)) (a0 := a0) (v := v) (L := [1, 4]) 58 4 (by kernel_rfl) (by rw [hsz]; omega)).trans d4
    refine ⟨Reg.wanted_none rfl, ?_⟩
    have eC : ∀ x, (Reg.gfr (Reg.opsOf Try.f8 11) a0 v [1, 4]).eval (.const x) = x := fun _ => rfl
    generalize Reg.gfr (Reg.opsOf Try.f8 11) a0 v [1, 4] = G at e55 e58 eC ⊢
    generalize hρ : G.eval = ρ at e55 e58 eC
    have hρ' : G.eval = ρ := hρ
    refine Reg.go_run (Value.bool true) W ?_ ?_
    · rw [hρ']; simp [execOp, go_sem, e55, e58, eC]
    · exact ⟨Below.refl _ _, rfl⟩
set_option maxHeartbeats 4000000 in
set_option maxRecDepth 20000 in
theorem vb11_h6 :
    Reg.OpOK Try.prog (Reg.opsOf Try.f8 11) a0 w0 (vb11R b10 zz) (fun _ _ _ _ => True) 6 := by
    refine Reg.op_ok2 (fun af => { dst := some 4, op := Op.assign (Operand.tmp 59), type := 4, pos := "outright.go:104", after := af, guard := none }) #[{ on := 5, ground := Ground.data }, { on := 3, ground := Ground.chain }, { on := 0, ground := Ground.phase }, { on := 1, ground := Ground.phase }, { on := 2, ground := Ground.phase }, { on := 3, ground := Ground.phase }, { on := 4, ground := Ground.phase }, { on := 5, ground := Ground.phase }] (by kernel_rfl) [5, 3, 0, 1, 2, 3, 4, 5] (by kernel_rfl) fun af v W hb hd => ?_
    have d5 : v 5 = (Value.bool true) := hd 5 (by decide)
    have e59 := (Reg.gfr_eval (ops := (Reg.opsOf Try.f8 11)) (a0 := a0) (v := v) (L := [5, 3, 0, 1, 2, 3, 4, 5]) 59 5 (by kernel_rfl) (by rw [hsz]; omega)).trans d5
    refine ⟨Reg.wanted_none rfl, ?_⟩
    generalize Reg.gfr (Reg.opsOf Try.f8 11) a0 v [5, 3, 0, 1, 2, 3, 4, 5] = G at e59 ⊢
    generalize hρ : G.eval = ρ at e59
    have hρ' : G.eval = ρ := hρ
    refine Reg.go_run (Value.bool true) W ?_ ?_
    · rw [hρ']; simp [execOp, go_sem, e59]
    · exact ⟨Below.refl _ _, rfl⟩
end
set_option maxHeartbeats 4000000 in
set_option maxRecDepth 20000 in
theorem vb11 (b10 : Nat) (zz : List Nat) (w0 : World) {s0 s1 s2 s3 s4 s6 s7 s8 s9 s11 s12 s13 s14 s15 s16 s17 s18 s19 s20 s21 s22 s23 s24 s25 s26 s27 s28 s29 s30 s31 s32 s33 s34 s35 s36 s37 s38 s39 s40 s41 s42 s43 s44 s45 s46 s47 s48 s49 s50 s51 s52 s53 s54 s55 s56 s57 s58 s59 s60 s61 s62 s63 s64 s65 s66 s67 s68 s69 s70 s71 s72 s73 s74 : Value}
    (hz : zz.length = 16) (hzz : padV [] = zz)
    (M_b10 : ∀ W, Below w0.heap.size w0 W → W.heap[b10]? = some (.cells (vC zz) 24 (0, 0)))
    {Q : Exit → Act → World → Prop}
    (hend : ∀ (w : World), Below w0.heap.size w0 w → Q .normal { tmps := #[s0, s1, s2, s3, (Value.bool true), (Value.bool true), s6, s7, s8, s9, (Value.pointer (some ⟨b10, 0, none⟩)), s11, s12, s13, s14, s15, s16, s17, s18, s19, s20, s21, s22, s23, s24, s25, s26, s27, s28, s29, s30, s31, s32, s33, s34, s35, s36, s37, s38, s39, s40, s41, s42, s43, s44, s45, s46, s47, s48, s49, s50, s51, s52, s53, (Value.bool true), (Value.bool true), (Value.agg (vC zz)), (Value.agg (vC zz)), (Value.bool true), (Value.bool true), s60, s61, s62, s63, s64, s65, s66, s67, s68, s69, s70, s71, s72, s73, s74], defers := [] } w) :
    (Code.region 11 (Reg.opsOf Try.f8 11) true).wp Try.prog Q { tmps := #[s0, s1, s2, s3, s4, (Value.bool true), s6, s7, s8, s9, (Value.pointer (some ⟨b10, 0, none⟩)), s11, s12, s13, s14, s15, s16, s17, s18, s19, s20, s21, s22, s23, s24, s25, s26, s27, s28, s29, s30, s31, s32, s33, s34, s35, s36, s37, s38, s39, s40, s41, s42, s43, s44, s45, s46, s47, s48, s49, s50, s51, s52, s53, s54, s55, s56, s57, s58, s59, s60, s61, s62, s63, s64, s65, s66, s67, s68, s69, s70, s71, s72, s73, s74], defers := [] } w0 := by
  obtain ⟨a0, ha0⟩ : ∃ a0 : Act, a0 = { tmps := #[s0, s1, s2, s3, s4, (Value.bool true), s6, s7, s8, s9, (Value.pointer (some ⟨b10, 0, none⟩)), s11, s12, s13, s14, s15, s16, s17, s18, s19, s20, s21, s22, s23, s24, s25, s26, s27, s28, s29, s30, s31, s32, s33, s34, s35, s36, s37, s38, s39, s40, s41, s42, s43, s44, s45, s46, s47, s48, s49, s50, s51, s52, s53, s54, s55, s56, s57, s58, s59, s60, s61, s62, s63, s64, s65, s66, s67, s68, s69, s70, s71, s72, s73, s74], defers := [] } := ⟨_, rfl⟩
  have hfin : ∀ v : Nat → Value, Reg.gfr (Reg.opsOf Try.f8 11) a0 v (List.range 7) = { tmps := #[s0, s1, s2, s3, v 6, (Value.bool true), s6, s7, s8, s9, (Value.pointer (some ⟨b10, 0, none⟩)), s11, s12, s13, s14, s15, s16, s17, s18, s19, s20, s21, s22, s23, s24, s25, s26, s27, s28, s29, s30, s31, s32, s33, s34, s35, s36, s37, s38, s39, s40, s41, s42, s43, s44, s45, s46, s47, s48, s49, s50, s51, s52, s53, v 0, v 1, v 2, v 3, v 4, v 5, s60, s61, s62, s63, s64, s65, s66, s67, s68, s69, s70, s71, s72, s73, s74], defers := [] } := fun v => by rw [ha0]; kernel_rfl
  rw [← ha0]
  have i5 : a0.eval (.tmp 5) = (Value.bool true) := by rw [ha0]; rfl
  have i10 : a0.eval (.tmp 10) = (Value.pointer (some ⟨b10, 0, none⟩)) := by rw [ha0]; rfl
  have hsz : a0.tmps.size = 75 := by rw [ha0]; rfl
  clear ha0
  have hn : (Reg.opsOf Try.f8 11).size = 7 := by kernel_rfl
  have h0 := vb11_h0 b10 zz w0 a0 hz hzz M_b10 i5 i10 hsz
  have h1 := vb11_h1 b10 zz w0 a0 hz hzz M_b10 i5 i10 hsz
  have h2 := vb11_h2 b10 zz w0 a0 hz hzz M_b10 i5 i10 hsz
  have h3 := vb11_h3 b10 zz w0 a0 hz hzz M_b10 i5 i10 hsz
  have h4 := vb11_h4 b10 zz w0 a0 hz hzz M_b10 i5 i10 hsz
  have h5 := vb11_h5 b10 zz w0 a0 hz hzz M_b10 i5 i10 hsz
  have h6 := vb11_h6 b10 zz w0 a0 hz hzz M_b10 i5 i10 hsz
  refine Reg.region_all (by kernel_rfl) (vb11R b10 zz) (by rw [hn, hsz]; kernel_rfl) (vb11_stable b10 zz) (fun i hi => ?_) (fun v w hb hR => ?_)
  · rw [hn] at hi
    match i, List.mem_range.1 hi with
    | 0, _ => exact h0
    | 1, _ => exact h1
    | 2, _ => exact h2
    | 3, _ => exact h3
    | 4, _ => exact h4
    | 5, _ => exact h5
    | 6, _ => exact h6
    | (_ + 7), h => omega
  · rw [hn] at hR ⊢
    have v0 : v 0 = (Value.bool true) := hR 0 (by decide)
    have v1 : v 1 = (Value.bool true) := hR 1 (by decide)
    have v2 : v 2 = (Value.agg (vC zz)) := hR 2 (by decide)
    have v3 : v 3 = (Value.agg (vC zz)) := hR 3 (by decide)
    have v4 : v 4 = (Value.bool true) := hR 4 (by decide)
    have v5 : v 5 = (Value.bool true) := hR 5 (by decide)
    have v6 : v 6 = (Value.bool true) := hR 6 (by decide)
    rw [hfin v, v0, v1, v2, v3, v4, v5, v6]
    exact hend w  hb 
def vb12R (b10 gt nn cc nl kk : Nat) (xx : List Nat) (lr : List UInt8) (vs : Value) (AA : Option Addr) : Nat → Value → World → Prop
  | 0 => fun x_ _ => x_ = (Value.bool true)
  | 1 => fun x_ _ => x_ = (Value.bool true)
  | 2 => fun x_ _ => x_ = (Value.agg (vC xx))
  | 3 => (fun u_ w_ => ∃ A_ c_, u_ = Value.slice A_ (encV xx).length c_ ∧ RdC w_ A_ (u8v (encV xx)))
  | 4 => fun x_ _ => x_ = (Value.string (bstr (encV xx)))
  | 5 => fun x_ _ => x_ = (Value.slice AA nn cc)
  | 6 => fun x_ _ => x_ = (Value.slice AA nn cc)
  | 7 => fun x_ _ => x_ = (Value.int IntKind.i64 (nn : Int))
  | 8 => fun x_ _ => x_ = (Value.pointer (some ⟨gt, 0, none⟩))
  | 9 => fun x_ _ => x_ = (Value.int IntKind.i64 (nl : Int))
  | 10 => fun x_ _ => x_ = (Value.int IntKind.i64 (kk : Int))
  | 11 => fun x_ _ => x_ = (Value.slice AA kk cc)
  | 12 => fun x_ _ => x_ = (Value.string (bstr (encV xx)))
  | 13 => fun x_ _ => x_ = (Value.bool true)
  | 14 => fun x_ _ => x_ = (Value.bool true)
  | 15 => fun x_ _ => x_ = (Value.bool true)
  | _ => fun _ _ => True
theorem vb12_stable (b10 gt nn cc nl kk : Nat) (xx : List Nat) (lr : List UInt8) (vs : Value) (AA : Option Addr) : ∀ i_ u_ w_ w_', (vb12R b10 gt nn cc nl kk xx lr vs AA) i_ u_ w_ → Below w_.heap.size w_ w_' → (vb12R b10 gt nn cc nl kk xx lr vs AA) i_ u_ w_' := fun i_ u_ w_ w_' h_ hb_ => by
  match i_, h_ with
  | 0, h_ => exact h_
  | 1, h_ => exact h_
  | 2, h_ => exact h_
  | 3, h_ => exact ((by obtain ⟨A_, c_, h1_, h2_⟩ := h_; exact ⟨A_, c_, h1_, h2_.below hb_⟩))
  | 4, h_ => exact h_
  | 5, h_ => exact h_
  | 6, h_ => exact h_
  | 7, h_ => exact h_
  | 8, h_ => exact h_
  | 9, h_ => exact h_
  | 10, h_ => exact h_
  | 11, h_ => exact h_
  | 12, h_ => exact h_
  | 13, h_ => exact h_
  | 14, h_ => exact h_
  | 15, h_ => exact h_
  | (_ + 16), _ => trivial
section
variable (b10 gt nn cc nl kk : Nat) (xx : List Nat) (lr : List UInt8) (vs : Value) (AA : Option Addr) (w0 : World) (a0 : Act)
variable (hx : xx.length = 16) (sx : small xx) (hnl : lr.length = nl)
variable (hSL : ∀ W, Below w0.heap.size w0 W → Src 67 gt vs lr W)
variable (hwk : IntKind.i64.wrap ((nn : Int) - (nl : Int)) = (kk : Int))
variable (hs : ∀ W : World, (Instr.slice 33 (.slice AA nn cc) none (some (.int .i64 (kk : Int))) none).run Try.prog W = .ok (.slice AA kk cc) W)
variable (cA : ∀ W, Below w0.heap.size w0 W → (convert 33 9 (.slice AA kk cc)).run Try.prog W = .ok (.string (bstr (encV xx))) W)
variable (M_b10 : ∀ W, Below w0.heap.size w0 W → W.heap[b10]? = some (.cells (vC xx) 24 (0, 0)))
variable (i1 : a0.eval (.tmp 1) = (Value.slice AA nn cc)) (i5 : a0.eval (.tmp 5) = (Value.bool true)) (i9 : a0.eval (.tmp 9) = (Value.pointer (some ⟨gt, 0, none⟩))) (i10 : a0.eval (.tmp 10) = (Value.pointer (some ⟨b10, 0, none⟩))) (hsz : a0.tmps.size = 75)
include b10 gt nn cc nl kk xx lr vs AA w0 a0 hx sx hnl hSL hwk hs cA M_b10 i1 i5 i9 i10 hsz
set_option maxHeartbeats 4000000 in
set_option maxRecDepth 20000 in
theorem vb12_h0 :
    Reg.OpOK Try.prog (Reg.opsOf Try.f8 12) a0 w0 (vb12R b10 gt nn cc nl kk xx lr vs AA) (fun _ _ _ _ => True) 0 := by
    refine Reg.op_ok2 (fun af => { dst := some 60, op := Op.move (Operand.tmp 5), type := 4, pos := "outright.go:106", after := af, guard := none }) #[] (by kernel_rfl) [] (by kernel_rfl) fun af v W hb hd => ?_
    have e5 := (Reg.gfr_eval0 (ops := (Reg.opsOf Try.f8 12)) (a0 := a0) (v := v) (L := []) 5 (by kernel_rfl)).trans i5
    refine ⟨Reg.wanted_none rfl, ?_⟩
    generalize Reg.gfr (Reg.opsOf Try.f8 12) a0 v [] = G at e5 ⊢
    generalize hρ : G.eval = ρ at e5
    have hρ' : G.eval = ρ := hρ
    refine Reg.go_run (Value.bool true) W ?_ ?_
    · rw [hρ']; simp [execOp, go_sem, e5]
    · exact ⟨Below.refl _ _, rfl⟩
set_option maxHeartbeats 4000000 in
set_option maxRecDepth 20000 in
theorem vb12_h1 :
    Reg.OpOK Try.prog (Reg.opsOf Try.f8 12) a0 w0 (vb12R b10 gt nn cc nl kk xx lr vs AA) (fun _ _ _ _ => True) 1 := by
    refine Reg.op_ok2 (fun af => { dst := some 61, op := Op.move (Operand.tmp 60), type := 4, pos := "outright.go:106", after := af, guard := none }) #[{ on := 0, ground := Ground.data }] (by kernel_rfl) [0] (by kernel_rfl) fun af v W hb hd => ?_
    have d0 : v 0 = (Value.bool true) := hd 0 (by decide)
    have e60 := (Reg.gfr_eval (ops := (Reg.opsOf Try.f8 12)) (a0 := a0) (v := v) (L := [0]) 60 0 (by kernel_rfl) (by rw [hsz]; omega)).trans d0
    refine ⟨Reg.wanted_none rfl, ?_⟩
    generalize Reg.gfr (Reg.opsOf Try.f8 12) a0 v [0] = G at e60 ⊢
    generalize hρ : G.eval = ρ at e60
    have hρ' : G.eval = ρ := hρ
    refine Reg.go_run (Value.bool true) W ?_ ?_
    · rw [hρ']; simp [execOp, go_sem, e60]
    · exact ⟨Below.refl _ _, rfl⟩
set_option maxHeartbeats 4000000 in
set_option maxRecDepth 20000 in
theorem vb12_h2 :
    Reg.OpOK Try.prog (Reg.opsOf Try.f8 12) a0 w0 (vb12R b10 gt nn cc nl kk xx lr vs AA) (fun _ _ _ _ => True) 2 := by
    refine Reg.op_ok2 (fun af => { dst := some 62, op := Op.load 24 (Operand.tmp 10), type := 24, pos := "outright.go:106", after := af, guard := some (1, true) }) #[{ on := 1, ground := Ground.guard }] (by kernel_rfl) [1] (by kernel_rfl) fun af v W hb hd => ?_
    have d1 : v 1 = (Value.bool true) := hd 1 (by decide)
    have e10 := (Reg.gfr_eval0 (ops := (Reg.opsOf Try.f8 12)) (a0 := a0) (v := v) (L := [1]) 10 (by kernel_rfl)).trans i10
    have e61 := (Reg.gfr_eval (ops := (Reg.opsOf Try.f8 12)) (a0 := a0) (v := v) (L := [1]) 61 1 (by kernel_rfl) (by rw [hsz]; omega)).trans d1
    refine ⟨Reg.wanted_of rfl (by kernel_rfl) e61, ?_⟩
    generalize Reg.gfr (Reg.opsOf Try.f8 12) a0 v [1] = G at e10 ⊢
    generalize hρ : G.eval = ρ at e10
    have hρ' : G.eval = ρ := hρ
    exact fun K hK => wp_load_row 24 (.tmp 10) rfl b10 (by rw [hρ']; exact e10) 24 (vC xx) (0, 0) _ (M_b10 W hb) Try.underlying24 rfl (vec_size hx) (hK _ _ ⟨Below.refl _ _, rfl⟩)
set_option maxHeartbeats 4000000 in
set_option maxRecDepth 20000 in
theorem vb12_h3 :
    Reg.OpOK Try.prog (Reg.opsOf Try.f8 12) a0 w0 (vb12R b10 gt nn cc nl kk xx lr vs AA) (fun _ _ _ _ => True) 3 := by
    refine Reg.op_ok2 (fun af => { dst := some 63, op := Op.call { callee := Callee.value (Operand.func 31), args := #[Operand.tmp 62], argTypes := #[24] }, type := 33, pos := "outright.go:106", after := af, guard := some (1, true) }) #[{ on := 2, ground := Ground.data }, { on := 1, ground := Ground.chain }, { on := 1, ground := Ground.guard }] (by kernel_rfl) [2, 1, 1] (by kernel_rfl) fun af v W hb hd => ?_
    have d1 : v 1 = (Value.bool true) := hd 1 (by decide)
    have d2 : v 2 = (Value.agg (vC xx)) := hd 2 (by decide)
    have e62 := (Reg.gfr_eval (ops := (Reg.opsOf Try.f8 12)) (a0 := a0) (v := v) (L := [2, 1, 1]) 62 2 (by kernel_rfl) (by rw [hsz]; omega)).trans d2
    have e61 := (Reg.gfr_eval (ops := (Reg.opsOf Try.f8 12)) (a0 := a0) (v := v) (L := [2, 1, 1]) 61 1 (by kernel_rfl) (by rw [hsz]; omega)).trans d1
    refine ⟨Reg.wanted_of rfl (by kernel_rfl) e61, ?_⟩
    have eF : ∀ f, (Reg.gfr (Reg.opsOf Try.f8 12) a0 v [2, 1, 1]).eval (.func f) = .func (.func f) #[] #[] := fun _ => rfl
    generalize Reg.gfr (Reg.opsOf Try.f8 12) a0 v [2, 1, 1] = G at e62 eF ⊢
    generalize hρ : G.eval = ρ at e62 eF
    have hρ' : G.eval = ρ := hρ
    refine Reg.go_call 31 #[(Value.agg (vC xx))] (by rw [hρ']; simp [execOp, go_sem, e62, eF]) ((encode_any xx hx sx W).mono fun e w' he => ?_)
    obtain ⟨v_, rfl, hn_⟩ := he
    obtain ⟨A_, c_, rfl, _, _, hr_, _⟩ := RdC.of_own hn_.1
    exact ⟨_, rfl, hn_.2, ⟨A_, c_, rfl, hr_⟩⟩
set_option maxHeartbeats 4000000 in
set_option maxRecDepth 20000 in
theorem vb12_h4 :
    Reg.OpOK Try.prog (Reg.opsOf Try.f8 12) a0 w0 (vb12R b10 gt nn cc nl kk xx lr vs AA) (fun _ _ _ _ => True) 4 := by
    refine Reg.op_ok2 (fun af => { dst := some 64, op := Op.convert 33 9 (Operand.tmp 63), type := 9, pos := "outright.go:106", after := af, guard := some (1, true) }) #[{ on := 3, ground := Ground.data }, { on := 1, ground := Ground.guard }] (by kernel_rfl) [3, 1] (by kernel_rfl) fun af v W hb hd => ?_
    have d1 : v 1 = (Value.bool true) := hd 1 (by decide)
    have d3 : ((fun u_ w_ => ∃ A_ c_, u_ = Value.slice A_ (encV xx).length c_ ∧ RdC w_ A_ (u8v (encV xx)))) (v 3) W := hd 3 (by decide)
    have e63 := Reg.gfr_eval (ops := (Reg.opsOf Try.f8 12)) (a0 := a0) (v := v) (L := [3, 1]) 63 3 (by kernel_rfl) (by rw [hsz]; omega)
    have e61 := (Reg.gfr_eval (ops := (Reg.opsOf Try.f8 12)) (a0 := a0) (v := v) (L := [3, 1]) 61 1 (by kernel_rfl) (by rw [hsz]; omega)).trans d1
    refine ⟨Reg.wanted_of rfl (by kernel_rfl) e61, ?_⟩
    generalize Reg.gfr (Reg.opsOf Try.f8 12) a0 v [3, 1] = G at e63 ⊢
    generalize hρ : G.eval = ρ at e63
    have hρ' : G.eval = ρ := hρ
    obtain ⟨A_, c_, hv_, hr_⟩ := d3
    rw [hv_] at e63
    have cv := run_string_of (P := Try.prog) W 33 9 5 Try.underlying33 Try.underlying5 Try.underlying9 A_ (encV xx) c_ hr_
    refine Reg.go_run (Value.string (bstr (encV xx))) W (by rw [hρ']; simp [execOp, go_sem, e63, cv]) ⟨Below.refl _ _, rfl⟩
set_option maxHeartbeats 4000000 in
set_option maxRecDepth 20000 in
theorem vb12_h5 :
    Reg.OpOK Try.prog (Reg.opsOf Try.f8 12) a0 w0 (vb12R b10 gt nn cc nl kk xx lr vs AA) (fun _ _ _ _ => True) 5 := by
    refine Reg.op_ok2 (fun af => { dst := some 65, op := Op.move (Operand.tmp 1), type := 33, pos := "outright.go:106", after := af, guard := some (1, true) }) #[{ on := 1, ground := Ground.guard }] (by kernel_rfl) [1] (by kernel_rfl) fun af v W hb hd => ?_
    have d1 : v 1 = (Value.bool true) := hd 1 (by decide)
    have e1 := (Reg.gfr_eval0 (ops := (Reg.opsOf Try.f8 12)) (a0 := a0) (v := v) (L := [1]) 1 (by kernel_rfl)).trans i1
    have e61 := (Reg.gfr_eval (ops := (Reg.opsOf Try.f8 12)) (a0 := a0) (v := v) (L := [1]) 61 1 (by kernel_rfl) (by rw [hsz]; omega)).trans d1
    refine ⟨Reg.wanted_of rfl (by kernel_rfl) e61, ?_⟩
    generalize Reg.gfr (Reg.opsOf Try.f8 12) a0 v [1] = G at e1 ⊢
    generalize hρ : G.eval = ρ at e1
    have hρ' : G.eval = ρ := hρ
    refine Reg.go_run (Value.slice AA nn cc) W ?_ ?_
    · rw [hρ']; simp [execOp, go_sem, e1]
    · exact ⟨Below.refl _ _, rfl⟩
set_option maxHeartbeats 4000000 in
set_option maxRecDepth 20000 in
theorem vb12_h6 :
    Reg.OpOK Try.prog (Reg.opsOf Try.f8 12) a0 w0 (vb12R b10 gt nn cc nl kk xx lr vs AA) (fun _ _ _ _ => True) 6 := by
    refine Reg.op_ok2 (fun af => { dst := some 66, op := Op.move (Operand.tmp 1), type := 33, pos := "outright.go:106", after := af, guard := some (1, true) }) #[{ on := 1, ground := Ground.guard }] (by kernel_rfl) [1] (by kernel_rfl) fun af v W hb hd => ?_
    have d1 : v 1 = (Value.bool true) := hd 1 (by decide)
    have e1 := (Reg.gfr_eval0 (ops := (Reg.opsOf Try.f8 12)) (a0 := a0) (v := v) (L := [1]) 1 (by kernel_rfl)).trans i1
    have e61 := (Reg.gfr_eval (ops := (Reg.opsOf Try.f8 12)) (a0 := a0) (v := v) (L := [1]) 61 1 (by kernel_rfl) (by rw [hsz]; omega)).trans d1
    refine ⟨Reg.wanted_of rfl (by kernel_rfl) e61, ?_⟩
    generalize Reg.gfr (Reg.opsOf Try.f8 12) a0 v [1] = G at e1 ⊢
    generalize hρ : G.eval = ρ at e1
    have hρ' : G.eval = ρ := hρ
    refine Reg.go_run (Value.slice AA nn cc) W ?_ ?_
    · rw [hρ']; simp [execOp, go_sem, e1]
    · exact ⟨Below.refl _ _, rfl⟩
set_option maxHeartbeats 4000000 in
set_option maxRecDepth 20000 in
theorem vb12_h7 :
    Reg.OpOK Try.prog (Reg.opsOf Try.f8 12) a0 w0 (vb12R b10 gt nn cc nl kk xx lr vs AA) (fun _ _ _ _ => True) 7 := by
    refine Reg.op_ok2 (fun af => { dst := some 67, op := Op.call { callee := Callee.builtin Builtin.len, args := #[Operand.tmp 66], argTypes := #[33] }, type := 3, pos := "outright.go:106", after := af, guard := some (1, true) }) #[{ on := 6, ground := Ground.data }, { on := 1, ground := Ground.guard }] (by kernel_rfl) [6, 1] (by kernel_rfl) fun af v W hb hd => ?_
    have d1 : v 1 = (Value.bool true) := hd 1 (by decide)
    have d6 : v 6 = (Value.slice AA nn cc) := hd 6 (by decide)
    have e66 := (Reg.gfr_eval (ops := (Reg.opsOf Try.f8 12)) (a0 := a0) (v := v) (L := [6, 1]) 66 6 (by kernel_rfl) (by rw [hsz]; omega)).trans d6
    have e61 := (Reg.gfr_eval (ops := (Reg.opsOf Try.f8 12)) (a0 := a0) (v := v) (L := [6, 1]) 61 1 (by kernel_rfl) (by rw [hsz]; omega)).trans d1
    refine ⟨Reg.wanted_of rfl (by kernel_rfl) e61, ?_⟩
    generalize Reg.gfr (Reg.opsOf Try.f8 12) a0 v [6, 1] = G at e66 ⊢
    generalize hρ : G.eval = ρ at e66
    have hρ' : G.eval = ρ := hρ
    refine Reg.go_run (Value.int IntKind.i64 (nn : Int)) W ?_ ?_
    · rw [hρ']; simp [execOp, go_sem, e66]
    · exact ⟨Below.refl _ _, rfl⟩
set_option maxHeartbeats 4000000 in
set_option maxRecDepth 20000 in
theorem vb12_h8 :
    Reg.OpOK Try.prog (Reg.opsOf Try.f8 12) a0 w0 (vb12R b10 gt nn cc nl kk xx lr vs AA) (fun _ _ _ _ => True) 8 := by
    refine Reg.op_ok2 (fun af => { dst := some 68, op := Op.move (Operand.tmp 9), type := 51, pos := "outright.go:106", after := af, guard := some (1, true) }) #[{ on := 1, ground := Ground.guard }] (by kernel_rfl) [1] (by kernel_rfl) fun af v W hb hd => ?_
    have d1 : v 1 = (Value.bool true) := hd 1 (by decide)
    have e9 := (Reg.gfr_eval0 (ops := (Reg.opsOf Try.f8 12)) (a0 := a0) (v := v) (L := [1]) 9 (by kernel_rfl)).trans i9
    have e61 := (Reg.gfr_eval (ops := (Reg.opsOf Try.f8 12)) (a0 := a0) (v := v) (L := [1]) 61 1 (by kernel_rfl) (by rw [hsz]; omega)).trans d1
    refine ⟨Reg.wanted_of rfl (by kernel_rfl) e61, ?_⟩
    generalize Reg.gfr (Reg.opsOf Try.f8 12) a0 v [1] = G at e9 ⊢
    generalize hρ : G.eval = ρ at e9
    have hρ' : G.eval = ρ := hρ
    refine Reg.go_run (Value.pointer (some ⟨gt, 0, none⟩)) W ?_ ?_
    · rw [hρ']; simp [execOp, go_sem, e9]
    · exact ⟨Below.refl _ _, rfl⟩
set_option maxHeartbeats 4000000 in
set_option maxRecDepth 20000 in
theorem vb12_h9 :
    Reg.OpOK Try.prog (Reg.opsOf Try.f8 12) a0 w0 (vb12R b10 gt nn cc nl kk xx lr vs AA) (fun _ _ _ _ => True) 9 := by
    refine Reg.op_ok2 (fun af => { dst := some 69, op := Op.call { callee := Callee.value (Operand.func 33), args := #[Operand.tmp 68], argTypes := #[51] }, type := 3, pos := "outright.go:106", after := af, guard := some (1, true) }) #[{ on := 8, ground := Ground.data }, { on := 3, ground := Ground.chain }, { on := 1, ground := Ground.guard }] (by kernel_rfl) [8, 3, 1] (by kernel_rfl) fun af v W hb hd => ?_
    have d1 : v 1 = (Value.bool true) := hd 1 (by decide)
    have d8 : v 8 = (Value.pointer (some ⟨gt, 0, none⟩)) := hd 8 (by decide)
    have e68 := (Reg.gfr_eval (ops := (Reg.opsOf Try.f8 12)) (a0 := a0) (v := v) (L := [8, 3, 1]) 68 8 (by kernel_rfl) (by rw [hsz]; omega)).trans d8
    have e61 := (Reg.gfr_eval (ops := (Reg.opsOf Try.f8 12)) (a0 := a0) (v := v) (L := [8, 3, 1]) 61 1 (by kernel_rfl) (by rw [hsz]; omega)).trans d1
    refine ⟨Reg.wanted_of rfl (by kernel_rfl) e61, ?_⟩
    have eF : ∀ f, (Reg.gfr (Reg.opsOf Try.f8 12) a0 v [8, 3, 1]).eval (.func f) = .func (.func f) #[] #[] := fun _ => rfl
    generalize Reg.gfr (Reg.opsOf Try.f8 12) a0 v [8, 3, 1] = G at e68 eF ⊢
    generalize hρ : G.eval = ρ at e68 eF
    have hρ' : G.eval = ρ := hρ
    refine Reg.go_call 33 #[(Value.pointer (some ⟨gt, 0, none⟩))] (by rw [hρ']; simp [execOp, go_sem, e68, eF]) ((left_any gt vs lr W (hSL W hb)).mono fun e w' he => ?_)
    obtain ⟨rfl, rfl⟩ := he
    exact ⟨_, rfl, Below.refl _ _, (show _ = _ from by rw [hnl])⟩
set_option maxHeartbeats 4000000 in
set_option maxRecDepth 20000 in
theorem vb12_h10 :
    Reg.OpOK Try.prog (Reg.opsOf Try.f8 12) a0 w0 (vb12R b10 gt nn cc nl kk xx lr vs AA) (fun _ _ _ _ => True) 10 := by
    refine Reg.op_ok2 (fun af => { dst := some 70, op := Op.binOp BinOp.sub 3 (Operand.tmp 67) (Operand.tmp 69) 3, type := 3, pos := "outright.go:106", after := af, guard := some (1, true) }) #[{ on := 7, ground := Ground.data }, { on := 9, ground := Ground.data }, { on := 1, ground := Ground.guard }] (by kernel_rfl) [7, 9, 1] (by kernel_rfl) fun af v W hb hd => ?_
    have d1 : v 1 = (Value.bool true) := hd 1 (by decide)
    have d7 : v 7 = (Value.int IntKind.i64 (nn : Int)) := hd 7 (by decide)
    have d9 : v 9 = (Value.int IntKind.i64 (nl : Int)) := hd 9 (by decide)
    have e67 := (Reg.gfr_eval (ops := (Reg.opsOf Try.f8 12)) (a0 := a0) (v := v) (L := [7, 9, 1]) 67 7 (by kernel_rfl) (by rw [hsz]; omega)).trans d7
    have e69 := (Reg.gfr_eval (ops := (Reg.opsOf Try.f8 12)) (a0 := a0) (v := v) (L := [7, 9, 1]) 69 9 (by kernel_rfl) (by rw [hsz]; omega)).trans d9
    have e61 := (Reg.gfr_eval (ops := (Reg.opsOf Try.f8 12)) (a0 := a0) (v := v) (L := [7, 9, 1]) 61 1 (by kernel_rfl) (by rw [hsz]; omega)).trans d1
    refine ⟨Reg.wanted_of rfl (by kernel_rfl) e61, ?_⟩
    generalize Reg.gfr (Reg.opsOf Try.f8 12) a0 v [7, 9, 1] = G at e67 e69 ⊢
    generalize hρ : G.eval = ρ at e67 e69
    have hρ' : G.eval = ρ := hρ
    refine Reg.go_run (Value.int IntKind.i64 (kk : Int)) W ?_ ?_
    · rw [hρ']; simp [execOp, go_sem, e67, e69, hwk]
    · exact ⟨Below.refl _ _, rfl⟩
set_option maxHeartbeats 4000000 in
set_option maxRecDepth 20000 in
theorem vb12_h11 :
    Reg.OpOK Try.prog (Reg.opsOf Try.f8 12) a0 w0 (vb12R b10 gt nn cc nl kk xx lr vs AA) (fun _ _ _ _ => True) 11 := by
    refine Reg.op_ok2 (fun af => { dst := some 71, op := Op.slice 33 (Operand.tmp 65) none (some (Operand.tmp 70)) none, type := 33, pos := "outright.go:106", after := af, guard := some (1, true) }) #[{ on := 5, ground := Ground.data }, { on := 10, ground := Ground.data }, { on := 1, ground := Ground.guard }] (by kernel_rfl) [5, 10, 1] (by kernel_rfl) fun af v W hb hd => ?_
    have d1 : v 1 = (Value.bool true) := hd 1 (by decide)
    have d5 : v 5 = (Value.slice AA nn cc) := hd 5 (by decide)
    have d10 : v 10 = (Value.int IntKind.i64 (kk : Int)) := hd 10 (by decide)
    have e65 := (Reg.gfr_eval (ops := (Reg.opsOf Try.f8 12)) (a0 := a0) (v := v) (L := [5, 10, 1]) 65 5 (by kernel_rfl) (by rw [hsz]; omega)).trans d5
    have e70 := (Reg.gfr_eval (ops := (Reg.opsOf Try.f8 12)) (a0 := a0) (v := v) (L := [5, 10, 1]) 70 10 (by kernel_rfl) (by rw [hsz]; omega)).trans d10
    have e61 := (Reg.gfr_eval (ops := (Reg.opsOf Try.f8 12)) (a0 := a0) (v := v) (L := [5, 10, 1]) 61 1 (by kernel_rfl) (by rw [hsz]; omega)).trans d1
    refine ⟨Reg.wanted_of rfl (by kernel_rfl) e61, ?_⟩
    generalize Reg.gfr (Reg.opsOf Try.f8 12) a0 v [5, 10, 1] = G at e65 e70 ⊢
    generalize hρ : G.eval = ρ at e65 e70
    have hρ' : G.eval = ρ := hρ
    refine Reg.go_run (Value.slice AA kk cc) W ?_ ?_
    · rw [hρ']; simp [execOp, go_sem, e65, e70, hs]
    · exact ⟨Below.refl _ _, rfl⟩
set_option maxHeartbeats 4000000 in
set_option maxRecDepth 20000 in
theorem vb12_h12 :
    Reg.OpOK Try.prog (Reg.opsOf Try.f8 12) a0 w0 (vb12R b10 gt nn cc nl kk xx lr vs AA) (fun _ _ _ _ => True) 12 := by
    refine Reg.op_ok2 (fun af => { dst := some 72, op := Op.convert 33 9 (Operand.tmp 71), type := 9, pos := "outright.go:106", after := af, guard := some (1, true) }) #[{ on := 11, ground := Ground.data }, { on := 1, ground := Ground.guard }] (by kernel_rfl) [11, 1] (by kernel_rfl) fun af v W hb hd => ?_
    have d1 : v 1 = (Value.bool true) := hd 1 (by decide)
    have d11 : v 11 = (Value.slice AA kk cc) := hd 11 (by decide)
    have e71 := (Reg.gfr_eval (ops := (Reg.opsOf Try.f8 12)) (a0 := a0) (v := v) (L := [11, 1]) 71 11 (by kernel_rfl) (by rw [hsz]; omega)).trans d11
    have e61 := (Reg.gfr_eval (ops := (Reg.opsOf Try.f8 12)) (a0 := a0) (v := v) (L := [11, 1]) 61 1 (by kernel_rfl) (by rw [hsz]; omega)).trans d1
    refine ⟨Reg.wanted_of rfl (by kernel_rfl) e61, ?_⟩
    generalize Reg.gfr (Reg.opsOf Try.f8 12) a0 v [11, 1] = G at e71 ⊢
    generalize hρ : G.eval = ρ at e71
    have hρ' : G.eval = ρ := hρ
    refine Reg.go_run (Value.string (bstr (encV xx))) W ?_ ?_
    · rw [hρ']; simp [execOp, go_sem, e71, cA W hb]
    · exact ⟨Below.refl _ _, rfl⟩
set_option maxHeartbeats 4000000 in
set_option maxRecDepth 20000 in
theorem vb12_h13 :
    Reg.OpOK Try.prog (Reg.opsOf Try.f8 12) a0 w0 (vb12R b10 gt nn cc nl kk xx lr vs AA) (fun _ _ _ _ => True) 13 := by
    refine Reg.op_ok2 (fun af => { dst := some 73, op := Op.binOp BinOp.eql 9 (Operand.tmp 64) (Operand.tmp 72) 9, type := 4, pos := "outright.go:106", after := af, guard := some (1, true) }) #[{ on := 4, ground := Ground.data }, { on := 12, ground := Ground.data }, { on := 1, ground := Ground.guard }] (by kernel_rfl) [4, 12, 1] (by kernel_rfl) fun af v W hb hd => ?_
    have d1 : v 1 = (Value.bool true) := hd 1 (by decide)
    have d4 : v 4 = (Value.string (bstr (encV xx))) := hd 4 (by decide)
    have d12 : v 12 = (Value.string (bstr (encV xx))) := hd 12 (by decide)
    have e64 := (Reg.gfr_eval (ops := (Reg.opsOf Try.f8 12)) (a0 := a0) (v := v) (L := [4, 12, 1]) 64 4 (by kernel_rfl) (by rw [hsz]; omega)).trans d4
    have e72 := (Reg.gfr_eval (ops := (Reg.opsOf Try.f8 12)) (a0 := a0) (v := v) (L := [4, 12, 1]) 72 12 (by kernel_rfl) (by rw [hsz]; omega)).trans d12
    have e61 := (Reg.gfr_eval (ops := (Reg.opsOf Try.f8 12)) (a0 := a0) (v := v) (L := [4, 12, 1]) 61 1 (by kernel_rfl) (by rw [hsz]; omega)).trans d1
    refine ⟨Reg.wanted_of rfl (by kernel_rfl) e61, ?_⟩
    generalize Reg.gfr (Reg.opsOf Try.f8 12) a0 v [4, 12, 1] = G at e64 e72 ⊢
    generalize hρ : G.eval = ρ at e64 e72
    have hρ' : G.eval = ρ := hρ
    refine Reg.go_run (Value.bool true) W ?_ ?_
    · rw [hρ']; simp [execOp, go_sem, e64, e72]
    · exact ⟨Below.refl _ _, rfl⟩
set_option maxHeartbeats 4000000 in
set_option maxRecDepth 20000 in
theorem vb12_h14 :
    Reg.OpOK Try.prog (Reg.opsOf Try.f8 12) a0 w0 (vb12R b10 gt nn cc nl kk xx lr vs AA) (fun _ _ _ _ => True) 14 := by
    refine Reg.op_ok2 (fun af => { dst := some 74, op := Op.pick (Operand.tmp 61) (Operand.tmp 73) (Operand.const (Value.bool false)), type := 4, pos := "outright.go:106", after := af, guard := none }) #[{ on := 1, ground := Ground.data }, { on := 13, ground := Ground.data }] (by kernel_rfl) [1, 13] (by kernel_rfl) fun af v W hb hd => ?_
    have d1 : v 1 = (Value.bool true) := hd 1 (by decide)
    have d13 : v 13 = (Value.bool true) := hd 13 (by decide)
    have e61 := (Reg.gfr_eval (ops := (Reg.opsOf Try.f8 12)) (a0 := a0) (v := v) (L := [1, 13]) 61 1 (by kernel_rfl) (by rw [hsz]; omega)).trans d1
    have e73 := (Reg.gfr_eval (ops := (Reg.opsOf Try.f8 12)) (a0 := a0) (v := v) (L := [1, 13]) 73 13 (by kernel_rfl) (by rw [hsz]; omega)).trans d13
    refine ⟨Reg.wanted_none rfl, ?_⟩
    have eC : ∀ x, (Reg.gfr (Reg.opsOf Try.f8 12) a0 v [1, 13]).eval (.const x) = x := fun _ => rfl
    generalize Reg.gfr (Reg.opsOf Try.f8 12) a0 v [1, 13] = G at e61 e73 eC ⊢
    generalize hρ : G.eval = ρ at e61 e73 eC
    have hρ' : G.eval = ρ := hρ
    refine Reg.go_run (Value.bool true) W ?_ ?_
    · rw [hρ']; simp [execOp, go_sem, e61, e73, eC]
    · exact ⟨Below.refl _ _, rfl⟩
set_option maxHeartbeats 4000000 in
set_option maxRecDepth 20000 in
theorem vb12_h15 :
    Reg.OpOK Try.prog (Reg.opsOf Try.f8 12) a0 w0 (vb12R b10 gt nn cc nl kk xx lr vs AA) (fun _ _ _ _ => True) 15 := by
    refine Reg.op_ok2 (fun af => { dst := some 4, op := Op.assign (Operand.tmp 74), type := 4, pos := "outright.go:106", after := af, guard := none }) #[{ on := 14, ground := Ground.data }, { on := 9, ground := Ground.chain }, { on := 0, ground := Ground.phase }, { on := 1, ground := Ground.phase }, { on := 2, ground := Ground.phase }, { on := 3, ground := Ground.phase }, { on := 4, ground := Ground.phase }, { on := 5, ground := Ground.phase }, { on := 6, ground := Ground.phase }, { on := 7, ground := Ground.phase }, { on := 8, ground := Ground.phase }, { on := 9, ground := Ground.phase }, { on := 10, ground := Ground.phase }, { on := 11, ground := Ground.phase }, { on := 12, ground := Ground.phase }, { on := 13, ground := Ground.phase }, { on := 14, ground := Ground.phase }] (by kernel_rfl) [14, 9, 0, 1, 2, 3, 4, 5, 6, 7, 8, 9, 10, 11, 12, 13, 14] (by kernel_rfl) fun af v W hb hd => ?_
    have d14 : v 14 = (Value.bool true) := hd 14 (by decide)
    have e74 := (Reg.gfr_eval (ops := (Reg.opsOf Try.f8 12)) (a0 := a0) (v := v) (L := [14, 9, 0, 1, 2, 3, 4, 5, 6, 7, 8, 9, 10, 11, 12, 13, 14]) 74 14 (by kernel_rfl) (by rw [hsz]; omega)).trans d14
    refine ⟨Reg.wanted_none rfl, ?_⟩
    generalize Reg.gfr (Reg.opsOf Try.f8 12) a0 v [14, 9, 0, 1, 2, 3, 4, 5, 6, 7, 8, 9, 10, 11, 12, 13, 14] = G at e74 ⊢
    generalize hρ : G.eval = ρ at e74
    have hρ' : G.eval = ρ := hρ
    refine Reg.go_run (Value.bool true) W ?_ ?_
    · rw [hρ']; simp [execOp, go_sem, e74]
    · exact ⟨Below.refl _ _, rfl⟩
end
set_option maxHeartbeats 4000000 in
set_option maxRecDepth 20000 in
theorem vb12 (b10 gt nn cc nl kk : Nat) (xx : List Nat) (lr : List UInt8) (vs : Value) (AA : Option Addr) (w0 : World) {s0 s2 s3 s4 s6 s7 s8 s11 s12 s13 s14 s15 s16 s17 s18 s19 s20 s21 s22 s23 s24 s25 s26 s27 s28 s29 s30 s31 s32 s33 s34 s35 s36 s37 s38 s39 s40 s41 s42 s43 s44 s45 s46 s47 s48 s49 s50 s51 s52 s53 s54 s55 s56 s57 s58 s59 s60 s61 s62 s63 s64 s65 s66 s67 s68 s69 s70 s71 s72 s73 s74 : Value}
    (hx : xx.length = 16) (sx : small xx) (hnl : lr.length = nl)
    (hSL : ∀ W, Below w0.heap.size w0 W → Src 67 gt vs lr W)
    (hwk : IntKind.i64.wrap ((nn : Int) - (nl : Int)) = (kk : Int))
    (hs : ∀ W : World, (Instr.slice 33 (.slice AA nn cc) none (some (.int .i64 (kk : Int))) none).run Try.prog W = .ok (.slice AA kk cc) W)
    (cA : ∀ W, Below w0.heap.size w0 W → (convert 33 9 (.slice AA kk cc)).run Try.prog W = .ok (.string (bstr (encV xx))) W)
    (M_b10 : ∀ W, Below w0.heap.size w0 W → W.heap[b10]? = some (.cells (vC xx) 24 (0, 0)))
    {Q : Exit → Act → World → Prop}
    (hend : ∀ (w : World) (r63 : Value), Below w0.heap.size w0 w → Q .normal { tmps := #[s0, (Value.slice AA nn cc), s2, s3, (Value.bool true), (Value.bool true), s6, s7, s8, (Value.pointer (some ⟨gt, 0, none⟩)), (Value.pointer (some ⟨b10, 0, none⟩)), s11, s12, s13, s14, s15, s16, s17, s18, s19, s20, s21, s22, s23, s24, s25, s26, s27, s28, s29, s30, s31, s32, s33, s34, s35, s36, s37, s38, s39, s40, s41, s42, s43, s44, s45, s46, s47, s48, s49, s50, s51, s52, s53, s54, s55, s56, s57, s58, s59, (Value.bool true), (Value.bool true), (Value.agg (vC xx)), r63, (Value.string (bstr (encV xx))), (Value.slice AA nn cc), (Value.slice AA nn cc), (Value.int IntKind.i64 (nn : Int)), (Value.pointer (some ⟨gt, 0, none⟩)), (Value.int IntKind.i64 (nl : Int)), (Value.int IntKind.i64 (kk : Int)), (Value.slice AA kk cc), (Value.string (bstr (encV xx))), (Value.bool true), (Value.bool true)], defers := [] } w) :
    (Code.region 12 (Reg.opsOf Try.f8 12) true).wp Try.prog Q { tmps := #[s0, (Value.slice AA nn cc), s2, s3, s4, (Value.bool true), s6, s7, s8, (Value.pointer (some ⟨gt, 0, none⟩)), (Value.pointer (some ⟨b10, 0, none⟩)), s11, s12, s13, s14, s15, s16, s17, s18, s19, s20, s21, s22, s23, s24, s25, s26, s27, s28, s29, s30, s31, s32, s33, s34, s35, s36, s37, s38, s39, s40, s41, s42, s43, s44, s45, s46, s47, s48, s49, s50, s51, s52, s53, s54, s55, s56, s57, s58, s59, s60, s61, s62, s63, s64, s65, s66, s67, s68, s69, s70, s71, s72, s73, s74], defers := [] } w0 := by
  obtain ⟨a0, ha0⟩ : ∃ a0 : Act, a0 = { tmps := #[s0, (Value.slice AA nn cc), s2, s3, s4, (Value.bool true), s6, s7, s8, (Value.pointer (some ⟨gt, 0, none⟩)), (Value.pointer (some ⟨b10, 0, none⟩)), s11, s12, s13, s14, s15, s16, s17, s18, s19, s20, s21, s22, s23, s24, s25, s26, s27, s28, s29, s30, s31, s32, s33, s34, s35, s36, s37, s38, s39, s40, s41, s42, s43, s44, s45, s46, s47, s48, s49, s50, s51, s52, s53, s54, s55, s56, s57, s58, s59, s60, s61, s62, s63, s64, s65, s66, s67, s68, s69, s70, s71, s72, s73, s74], defers := [] } := ⟨_, rfl⟩
  have hfin : ∀ v : Nat → Value, Reg.gfr (Reg.opsOf Try.f8 12) a0 v (List.range 16) = { tmps := #[s0, (Value.slice AA nn cc), s2, s3, v 15, (Value.bool true), s6, s7, s8, (Value.pointer (some ⟨gt, 0, none⟩)), (Value.pointer (some ⟨b10, 0, none⟩)), s11, s12, s13, s14, s15, s16, s17, s18, s19, s20, s21, s22, s23, s24, s25, s26, s27, s28, s29, s30, s31, s32, s33, s34, s35, s36, s37, s38, s39, s40, s41, s42, s43, s44, s45, s46, s47, s48, s49, s50, s51, s52, s53, s54, s55, s56, s57, s58, s59, v 0, v 1, v 2, v 3, v 4, v 5, v 6, v 7, v 8, v 9, v 10, v 11, v 12, v 13, v 14], defers := [] } := fun v => by rw [ha0]; kernel_rfl
  rw [← ha0]
  have i1 : a0.eval (.tmp 1) = (Value.slice AA nn cc) := by rw [ha0]; rfl
  have i5 : a0.eval (.tmp 5) = (Value.bool true) := by rw [ha0]; rfl
  have i9 : a0.eval (.tmp 9) = (Value.pointer (some ⟨gt, 0, none⟩)) := by rw [ha0]; rfl
  have i10 : a0.eval (.tmp 10) = (Value.pointer (some ⟨b10, 0, none⟩)) := by rw [ha0]; rfl
  have hsz : a0.tmps.size = 75 := by rw [ha0]; rfl
  clear ha0
  have hn : (Reg.opsOf Try.f8 12).size = 16 := by kernel_rfl
  have h0 := vb12_h0 b10 gt nn cc nl kk xx lr vs AA w0 a0 hx sx hnl hSL hwk hs cA M_b10 i1 i5 i9 i10 hsz
  have h1 := vb12_h1 b10 gt nn cc nl kk xx lr vs AA w0 a0 hx sx hnl hSL hwk hs cA M_b10 i1 i5 i9 i10 hsz
  have h2 := vb12_h2 b10 gt nn cc nl kk xx lr vs AA w0 a0 hx sx hnl hSL hwk hs cA M_b10 i1 i5 i9 i10 hsz
  have h3 := vb12_h3 b10 gt nn cc nl kk xx lr vs AA w0 a0 hx sx hnl hSL hwk hs cA M_b10 i1 i5 i9 i10 hsz
  have h4 := vb12_h4 b10 gt nn cc nl kk xx lr vs AA w0 a0 hx sx hnl hSL hwk hs cA M_b10 i1 i5 i9 i10 hsz
  have h5 := vb12_h5 b10 gt nn cc nl kk xx lr vs AA w0 a0 hx sx hnl hSL hwk hs cA M_b10 i1 i5 i9 i10 hsz
  have h6 := vb12_h6 b10 gt nn cc nl kk xx lr vs AA w0 a0 hx sx hnl hSL hwk hs cA M_b10 i1 i5 i9 i10 hsz
  have h7 := vb12_h7 b10 gt nn cc nl kk xx lr vs AA w0 a0 hx sx hnl hSL hwk hs cA M_b10 i1 i5 i9 i10 hsz
  have h8 := vb12_h8 b10 gt nn cc nl kk xx lr vs AA w0 a0 hx sx hnl hSL hwk hs cA M_b10 i1 i5 i9 i10 hsz
  have h9 := vb12_h9 b10 gt nn cc nl kk xx lr vs AA w0 a0 hx sx hnl hSL hwk hs cA M_b10 i1 i5 i9 i10 hsz
  have h10 := vb12_h10 b10 gt nn cc nl kk xx lr vs AA w0 a0 hx sx hnl hSL hwk hs cA M_b10 i1 i5 i9 i10 hsz
  have h11 := vb12_h11 b10 gt nn cc nl kk xx lr vs AA w0 a0 hx sx hnl hSL hwk hs cA M_b10 i1 i5 i9 i10 hsz
  have h12 := vb12_h12 b10 gt nn cc nl kk xx lr vs AA w0 a0 hx sx hnl hSL hwk hs cA M_b10 i1 i5 i9 i10 hsz
  have h13 := vb12_h13 b10 gt nn cc nl kk xx lr vs AA w0 a0 hx sx hnl hSL hwk hs cA M_b10 i1 i5 i9 i10 hsz
  have h14 := vb12_h14 b10 gt nn cc nl kk xx lr vs AA w0 a0 hx sx hnl hSL hwk hs cA M_b10 i1 i5 i9 i10 hsz
  have h15 := vb12_h15 b10 gt nn cc nl kk xx lr vs AA w0 a0 hx sx hnl hSL hwk hs cA M_b10 i1 i5 i9 i10 hsz
  refine Reg.region_all (by kernel_rfl) (vb12R b10 gt nn cc nl kk xx lr vs AA) (by rw [hn, hsz]; kernel_rfl) (vb12_stable b10 gt nn cc nl kk xx lr vs AA) (fun i hi => ?_) (fun v w hb hR => ?_)
  · rw [hn] at hi
    match i, List.mem_range.1 hi with
    | 0, _ => exact h0
    | 1, _ => exact h1
    | 2, _ => exact h2
    | 3, _ => exact h3
    | 4, _ => exact h4
    | 5, _ => exact h5
    | 6, _ => exact h6
    | 7, _ => exact h7
    | 8, _ => exact h8
    | 9, _ => exact h9
    | 10, _ => exact h10
    | 11, _ => exact h11
    | 12, _ => exact h12
    | 13, _ => exact h13
    | 14, _ => exact h14
    | 15, _ => exact h15
    | (_ + 16), h => omega
  · rw [hn] at hR ⊢
    have v0 : v 0 = (Value.bool true) := hR 0 (by decide)
    have v1 : v 1 = (Value.bool true) := hR 1 (by decide)
    have v2 : v 2 = (Value.agg (vC xx)) := hR 2 (by decide)
    have v4 : v 4 = (Value.string (bstr (encV xx))) := hR 4 (by decide)
    have v5 : v 5 = (Value.slice AA nn cc) := hR 5 (by decide)
    have v6 : v 6 = (Value.slice AA nn cc) := hR 6 (by decide)
    have v7 : v 7 = (Value.int IntKind.i64 (nn : Int)) := hR 7 (by decide)
    have v8 : v 8 = (Value.pointer (some ⟨gt, 0, none⟩)) := hR 8 (by decide)
    have v9 : v 9 = (Value.int IntKind.i64 (nl : Int)) := hR 9 (by decide)
    have v10 : v 10 = (Value.int IntKind.i64 (kk : Int)) := hR 10 (by decide)
    have v11 : v 11 = (Value.slice AA kk cc) := hR 11 (by decide)
    have v12 : v 12 = (Value.string (bstr (encV xx))) := hR 12 (by decide)
    have v13 : v 13 = (Value.bool true) := hR 13 (by decide)
    have v14 : v 14 = (Value.bool true) := hR 14 (by decide)
    have v15 : v 15 = (Value.bool true) := hR 15 (by decide)
    rw [hfin v, v0, v1, v2, v4, v5, v6, v7, v8, v9, v10, v11, v12, v13, v14, v15]
    exact hend w (v 3) hb 
end Go.Proofs.Ytfifbjlmbdgmjaa
