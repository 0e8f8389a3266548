/- Regions that draw their order: their obligations (printed by regen2.py). -/
import Derived.Test.YtfifbjlmbdgmjaaLebY
import Derived.Test.YtfifbjlmbdgmjaaRegT
namespace Go.Proofs.Ytfifbjlmbdgmjaa
open Go.RowKit
set_option linter.unusedVariables false
set_option linter.unusedSimpArgs false
set_option linter.unusedSectionVars false
def lr11R (gg nn kk ll cc : Nat) (AA : Option Addr) (xs : List UInt8) (bb : Bool) : Nat → Value → World → Prop
  | 0 => fun x_ _ => x_ = (Value.int IntKind.u64 (nn : Int))
  | 1 => (fun u_ w_ => ∃ A_ c_, u_ = Value.slice A_ (numB nn).length c_ ∧ RdC w_ A_ (u8v (numB nn)))
  | 2 => fun x_ _ => x_ = (Value.string (bstr (numB nn)))
  | 3 => fun x_ _ => x_ = (Value.pointer (some ⟨gg, 0, none⟩))
  | 4 => fun x_ _ => x_ = (Value.pointer (some ⟨gg, 0, none⟩))
  | 5 => fun x_ _ => x_ = (Value.pointer (some ⟨gg, 0, none⟩))
  | 6 => fun x_ _ => x_ = (Value.slice AA ll cc)
  | 7 => fun x_ _ => x_ = (Value.int IntKind.i64 (kk : Int))
  | 8 => fun x_ _ => x_ = (Value.slice AA kk cc)
  | 9 => fun x_ _ => x_ = (Value.string (bstr xs))
  | 10 => fun x_ _ => x_ = (Value.bool bb)
  | _ => fun _ _ => True
theorem lr11_stable (gg nn kk ll cc : Nat) (AA : Option Addr) (xs : List UInt8) (bb : Bool) : ∀ i_ u_ w_ w_', (lr11R gg nn kk ll cc AA xs bb) i_ u_ w_ → Below w_.heap.size w_ w_' → (lr11R gg nn kk ll cc AA xs bb) i_ u_ w_' := fun i_ u_ w_ w_' h_ hb_ => by
  match i_, h_ with
  | 0, h_ => exact h_
  | 1, h_ => exact ((by obtain ⟨A_, c_, h1_, h2_⟩ := h_; exact ⟨A_, c_, h1_, h2_.below hb_⟩))
  | 2, h_ => exact h_
  | 3, h_ => exact h_
  | 4, h_ => exact h_
  | 5, h_ => exact h_
  | 6, h_ => exact h_
  | 7, h_ => exact h_
  | 8, h_ => exact h_
  | 9, h_ => exact h_
  | 10, h_ => exact h_
  | (_ + 11), _ => trivial
section
variable (gg nn kk ll cc : Nat) (AA : Option Addr) (xs : List UInt8) (bb : Bool) (w0 : World) (a0 : Act)
variable (hnn : nn < 18446744073709551616)
variable (cs : ∀ W : World, (Instr.slice 33 (.slice AA ll cc) none (some (.int .i64 (kk : Int))) none).run Try.prog W = .ok (.slice AA kk cc) W)
variable (c2 : ∀ W, Below w0.heap.size w0 W → (convert 33 9 (.slice AA kk cc)).run Try.prog W = .ok (.string (bstr xs)) W)
variable (hne : ((bstr (numB nn)).toList == (bstr xs).toList) = !bb)
variable (CN : ∀ W, Below w0.heap.size w0 W → W.cell? ⟨gg, 0, none⟩ = some (Value.slice AA ll cc))
variable (i0 : a0.eval (.tmp 0) = (Value.pointer (some ⟨gg, 0, none⟩))) (i6 : a0.eval (.tmp 6) = (Value.int IntKind.i64 (kk : Int))) (i7 : a0.eval (.tmp 7) = (Value.int IntKind.u64 (nn : Int))) (hsz : a0.tmps.size = 72)
include gg nn kk ll cc AA xs bb w0 a0 hnn cs c2 hne CN i0 i6 i7 hsz
set_option maxHeartbeats 4000000 in
set_option maxRecDepth 20000 in
theorem lr11_h0 :
    Reg.OpOK Try.prog (Reg.opsOf Try.f42 11) a0 w0 (lr11R gg nn kk ll cc AA xs bb) (fun _ _ _ _ => True) 0 := by
    refine Reg.op_ok2 (fun af => { dst := some 48, op := Op.move (Operand.tmp 7), type := 31, pos := "ref.go:59", after := af, guard := none }) #[] (by kernel_rfl) [] (by kernel_rfl) fun af v W hb hd => ?_
    have e7 := (Reg.gfr_eval0 (ops := (Reg.opsOf Try.f42 11)) (a0 := a0) (v := v) (L := []) 7 (by kernel_rfl)).trans i7
    refine ⟨Reg.wanted_none rfl, ?_⟩
    generalize Reg.gfr (Reg.opsOf Try.f42 11) a0 v [] = G at e7 ⊢
    generalize hρ : G.eval = ρ at e7
    have hρ' : G.eval = ρ := hρ
    refine Reg.go_run (Value.int IntKind.u64 (nn : Int)) W ?_ ?_
    · rw [hρ']; simp [execOp, go_sem, e7]
    · exact ⟨Below.refl _ _, rfl⟩
set_option maxHeartbeats 4000000 in
set_option maxRecDepth 20000 in
theorem lr11_h1 :
    Reg.OpOK Try.prog (Reg.opsOf Try.f42 11) a0 w0 (lr11R gg nn kk ll cc AA xs bb) (fun _ _ _ _ => True) 1 := by
    refine Reg.op_ok2 (fun af => { dst := some 49, op := Op.call { callee := Callee.value (Operand.func 45), args := #[Operand.tmp 48], argTypes := #[31] }, type := 33, pos := "ref.go:59", after := af, guard := none }) #[{ on := 0, ground := Ground.data }] (by kernel_rfl) [0] (by kernel_rfl) fun af v W hb hd => ?_
    have d0 : v 0 = (Value.int IntKind.u64 (nn : Int)) := hd 0 (by decide)
    have e48 := (Reg.gfr_eval (ops := (Reg.opsOf Try.f42 11)) (a0 := a0) (v := v) (L := [0]) 48 0 (by kernel_rfl) (by rw [hsz]; omega)).trans d0
    refine ⟨Reg.wanted_none rfl, ?_⟩
    have eF : ∀ f, (Reg.gfr (Reg.opsOf Try.f42 11) a0 v [0]).eval (.func f) = .func (.func f) #[] #[] := fun _ => rfl
    generalize Reg.gfr (Reg.opsOf Try.f42 11) a0 v [0] = G at e48 eF ⊢
    generalize hρ : G.eval = ρ at e48 eF
    have hρ' : G.eval = ρ := hρ
    refine Reg.go_call 45 #[(Value.int IntKind.u64 (nn : Int))] (by rw [hρ']; simp [execOp, go_sem, e48, eF]) ((rnumber_any nn hnn W).mono fun e w' he => ?_)
    obtain ⟨v_, rfl, hn_⟩ := he
    obtain ⟨A_, c_, rfl, _, _, hr_, _⟩ := RdC.of_own hn_.1
    exact ⟨_, rfl, hn_.2, ⟨A_, c_, rfl, hr_⟩⟩
set_option maxHeartbeats 4000000 in
set_option maxRecDepth 20000 in
theorem lr11_h2 :
    Reg.OpOK Try.prog (Reg.opsOf Try.f42 11) a0 w0 (lr11R gg nn kk ll cc AA xs bb) (fun _ _ _ _ => True) 2 := by
    refine Reg.op_ok2 (fun af => { dst := some 50, op := Op.convert 33 9 (Operand.tmp 49), type := 9, pos := "ref.go:59", after := af, guard := none }) #[{ on := 1, ground := Ground.data }] (by kernel_rfl) [1] (by kernel_rfl) fun af v W hb hd => ?_
    have d1 : ((fun u_ w_ => ∃ A_ c_, u_ = Value.slice A_ (numB nn).length c_ ∧ RdC w_ A_ (u8v (numB nn)))) (v 1) W := hd 1 (by decide)
    have e49 := Reg.gfr_eval (ops := (Reg.opsOf Try.f42 11)) (a0 := a0) (v := v) (L := [1]) 49 1 (by kernel_rfl) (by rw [hsz]; omega)
    refine ⟨Reg.wanted_none rfl, ?_⟩
    generalize Reg.gfr (Reg.opsOf Try.f42 11) a0 v [1] = G at e49 ⊢
    generalize hρ : G.eval = ρ at e49
    have hρ' : G.eval = ρ := hρ
    obtain ⟨A_, c_, hv_, hr_⟩ := d1
    rw [hv_] at e49
    have cv := run_string_of (P := Try.prog) W 33 9 5 Try.underlying33 Try.underlying5 Try.underlying9 A_ (numB nn) c_ hr_
    refine Reg.go_run (Value.string (bstr (numB nn))) W (by rw [hρ']; simp [execOp, go_sem, e49, cv]) ⟨Below.refl _ _, rfl⟩
set_option maxHeartbeats 4000000 in
set_option maxRecDepth 20000 in
theorem lr11_h3 :
    Reg.OpOK Try.prog (Reg.opsOf Try.f42 11) a0 w0 (lr11R gg nn kk ll cc AA xs bb) (fun _ _ _ _ => True) 3 := by
    refine Reg.op_ok2 (fun af => { dst := some 51, op := Op.move (Operand.tmp 0), type := 53, pos := "ref.go:59", after := af, guard := none }) #[] (by kernel_rfl) [] (by kernel_rfl) fun af v W hb hd => ?_
    have e0 := (Reg.gfr_eval0 (ops := (Reg.opsOf Try.f42 11)) (a0 := a0) (v := v) (L := []) 0 (by kernel_rfl)).trans i0
    refine ⟨Reg.wanted_none rfl, ?_⟩
    generalize Reg.gfr (Reg.opsOf Try.f42 11) a0 v [] = G at e0 ⊢
    generalize hρ : G.eval = ρ at e0
    have hρ' : G.eval = ρ := hρ
    refine Reg.go_run (Value.pointer (some ⟨gg, 0, none⟩)) W ?_ ?_
    · rw [hρ']; simp [execOp, go_sem, e0]
    · exact ⟨Below.refl _ _, rfl⟩
set_option maxHeartbeats 4000000 in
set_option maxRecDepth 20000 in
theorem lr11_h4 :
    Reg.OpOK Try.prog (Reg.opsOf Try.f42 11) a0 w0 (lr11R gg nn kk ll cc AA xs bb) (fun _ _ _ _ => True) 4 := by
    refine Reg.op_ok2 (fun af => { dst := some 52, op := Op.nilCheck (Operand.tmp 51), type := 0, pos := "ref.go:59", after := af, guard := none }) #[{ on := 3, ground := Ground.data }] (by kernel_rfl) [3] (by kernel_rfl) fun af v W hb hd => ?_
    have d3 : v 3 = (Value.pointer (some ⟨gg, 0, none⟩)) := hd 3 (by decide)
    have e51 := (Reg.gfr_eval (ops := (Reg.opsOf Try.f42 11)) (a0 := a0) (v := v) (L := [3]) 51 3 (by kernel_rfl) (by rw [hsz]; omega)).trans d3
    refine ⟨Reg.wanted_none rfl, ?_⟩
    generalize Reg.gfr (Reg.opsOf Try.f42 11) a0 v [3] = G at e51 ⊢
    generalize hρ : G.eval = ρ at e51
    have hρ' : G.eval = ρ := hρ
    refine Reg.go_run (Value.pointer (some ⟨gg, 0, none⟩)) W ?_ ?_
    · rw [hρ']; simp [execOp, go_sem, e51]
    · exact ⟨Below.refl _ _, rfl⟩
set_option maxHeartbeats 4000000 in
set_option maxRecDepth 20000 in
theorem lr11_h5 :
    Reg.OpOK Try.prog (Reg.opsOf Try.f42 11) a0 w0 (lr11R gg nn kk ll cc AA xs bb) (fun _ _ _ _ => True) 5 := by
    refine Reg.op_ok2 (fun af => { dst := some 53, op := Op.fieldAddr 55 (Operand.tmp 52) 0, type := 0, pos := "ref.go:59", after := af, guard := none }) #[{ on := 4, ground := Ground.data }] (by kernel_rfl) [4] (by kernel_rfl) fun af v W hb hd => ?_
    have d4 : v 4 = (Value.pointer (some ⟨gg, 0, none⟩)) := hd 4 (by decide)
    have e52 := (Reg.gfr_eval (ops := (Reg.opsOf Try.f42 11)) (a0 := a0) (v := v) (L := [4]) 52 4 (by kernel_rfl) (by rw [hsz]; omega)).trans d4
    refine ⟨Reg.wanted_none rfl, ?_⟩
    generalize Reg.gfr (Reg.opsOf Try.f42 11) a0 v [4] = G at e52 ⊢
    generalize hρ : G.eval = ρ at e52
    have hρ' : G.eval = ρ := hρ
    refine Reg.go_run (Value.pointer (some ⟨gg, 0, none⟩)) W ?_ ?_
    · rw [hρ']; simp [execOp, go_sem, e52]
    · exact ⟨Below.refl _ _, rfl⟩
set_option maxHeartbeats 4000000 in
set_option maxRecDepth 20000 in
theorem lr11_h6 :
    Reg.OpOK Try.prog (Reg.opsOf Try.f42 11) a0 w0 (lr11R gg nn kk ll cc AA xs bb) (fun _ _ _ _ => True) 6 := by
    refine Reg.op_ok2 (fun af => { dst := some 54, op := Op.load 33 (Operand.tmp 53), type := 33, pos := "ref.go:59", after := af, guard := none }) #[{ on := 5, ground := Ground.data }] (by kernel_rfl) [5] (by kernel_rfl) fun af v W hb hd => ?_
    have d5 : v 5 = (Value.pointer (some ⟨gg, 0, none⟩)) := hd 5 (by decide)
    have e53 := (Reg.gfr_eval (ops := (Reg.opsOf Try.f42 11)) (a0 := a0) (v := v) (L := [5]) 53 5 (by kernel_rfl) (by rw [hsz]; omega)).trans d5
    refine ⟨Reg.wanted_none rfl, ?_⟩
    generalize Reg.gfr (Reg.opsOf Try.f42 11) a0 v [5] = G at e53 ⊢
    generalize hρ : G.eval = ρ at e53
    have hρ' : G.eval = ρ := hρ
    refine Reg.go_run (Value.slice AA ll cc) W ?_ ?_
    · rw [hρ']; simp [execOp, go_sem, e53, CN W hb]
    · exact ⟨Below.refl _ _, rfl⟩
set_option maxHeartbeats 4000000 in
set_option maxRecDepth 20000 in
theorem lr11_h7 :
    Reg.OpOK Try.prog (Reg.opsOf Try.f42 11) a0 w0 (lr11R gg nn kk ll cc AA xs bb) (fun _ _ _ _ => True) 7 := by
    refine Reg.op_ok2 (fun af => { dst := some 55, op := Op.move (Operand.tmp 6), type := 3, pos := "ref.go:59", after := af, guard := none }) #[] (by kernel_rfl) [] (by kernel_rfl) fun af v W hb hd => ?_
    have e6 := (Reg.gfr_eval0 (ops := (Reg.opsOf Try.f42 11)) (a0 := a0) (v := v) (L := []) 6 (by kernel_rfl)).trans i6
    refine ⟨Reg.wanted_none rfl, ?_⟩
    generalize Reg.gfr (Reg.opsOf Try.f42 11) a0 v [] = G at e6 ⊢
    generalize hρ : G.eval = ρ at e6
    have hρ' : G.eval = ρ := hρ
    refine Reg.go_run (Value.int IntKind.i64 (kk : Int)) W ?_ ?_
    · rw [hρ']; simp [execOp, go_sem, e6]
    · exact ⟨Below.refl _ _, rfl⟩
set_option maxHeartbeats 4000000 in
set_option maxRecDepth 20000 in
theorem lr11_h8 :
    Reg.OpOK Try.prog (Reg.opsOf Try.f42 11) a0 w0 (lr11R gg nn kk ll cc AA xs bb) (fun _ _ _ _ => True) 8 := by
    refine Reg.op_ok2 (fun af => { dst := some 56, op := Op.slice 33 (Operand.tmp 54) none (some (Operand.tmp 55)) none, type := 33, pos := "ref.go:59", after := af, guard := none }) #[{ on := 6, ground := Ground.data }, { on := 7, ground := Ground.data }] (by kernel_rfl) [6, 7] (by kernel_rfl) fun af v W hb hd => ?_
    have d6 : v 6 = (Value.slice AA ll cc) := hd 6 (by decide)
    have d7 : v 7 = (Value.int IntKind.i64 (kk : Int)) := hd 7 (by decide)
    have e54 := (Reg.gfr_eval (ops := (Reg.opsOf Try.f42 11)) (a0 := a0) (v := v) (L := [6, 7]) 54 6 (by kernel_rfl) (by rw [hsz]; omega)).trans d6
    have e55 := (Reg.gfr_eval (ops := (Reg.opsOf Try.f42 11)) (a0 := a0) (v := v) (L := [6, 7]) 55 7 (by kernel_rfl) (by rw [hsz]; omega)).trans d7
    refine ⟨Reg.wanted_none rfl, ?_⟩
    generalize Reg.gfr (Reg.opsOf Try.f42 11) a0 v [6, 7] = G at e54 e55 ⊢
    generalize hρ : G.eval = ρ at e54 e55
    have hρ' : G.eval = ρ := hρ
    refine Reg.go_run (Value.slice AA kk cc) W ?_ ?_
    · rw [hρ']; simp [execOp, go_sem, e54, e55, cs]
    · exact ⟨Below.refl _ _, rfl⟩
set_option maxHeartbeats 4000000 in
set_option maxRecDepth 20000 in
theorem lr11_h9 :
    Reg.OpOK Try.prog (Reg.opsOf Try.f42 11) a0 w0 (lr11R gg nn kk ll cc AA xs bb) (fun _ _ _ _ => True) 9 := by
    refine Reg.op_ok2 (fun af => { dst := some 57, op := Op.convert 33 9 (Operand.tmp 56), type := 9, pos := "ref.go:59", after := af, guard := none }) #[{ on := 8, ground := Ground.data }] (by kernel_rfl) [8] (by kernel_rfl) fun af v W hb hd => ?_
    have d8 : v 8 = (Value.slice AA kk cc) := hd 8 (by decide)
    have e56 := (Reg.gfr_eval (ops := (Reg.opsOf Try.f42 11)) (a0 := a0) (v := v) (L := [8]) 56 8 (by kernel_rfl) (by rw [hsz]; omega)).trans d8
    refine ⟨Reg.wanted_none rfl, ?_⟩
    generalize Reg.gfr (Reg.opsOf Try.f42 11) a0 v [8] = G at e56 ⊢
    generalize hρ : G.eval = ρ at e56
    have hρ' : G.eval = ρ := hρ
    refine Reg.go_run (Value.string (bstr xs)) W ?_ ?_
    · rw [hρ']; simp [execOp, go_sem, e56, c2 W hb]
    · exact ⟨Below.refl _ _, rfl⟩
set_option maxHeartbeats 4000000 in
set_option maxRecDepth 20000 in
theorem lr11_h10 :
    Reg.OpOK Try.prog (Reg.opsOf Try.f42 11) a0 w0 (lr11R gg nn kk ll cc AA xs bb) (fun _ _ _ _ => True) 10 := by
    refine Reg.op_ok2 (fun af => { dst := some 58, op := Op.binOp BinOp.neq 9 (Operand.tmp 50) (Operand.tmp 57) 9, type := 4, pos := "ref.go:59", after := af, guard := none }) #[{ on := 2, ground := Ground.data }, { on := 9, ground := Ground.data }] (by kernel_rfl) [2, 9] (by kernel_rfl) fun af v W hb hd => ?_
    have d2 : v 2 = (Value.string (bstr (numB nn))) := hd 2 (by decide)
    have d9 : v 9 = (Value.string (bstr xs)) := hd 9 (by decide)
    have e50 := (Reg.gfr_eval (ops := (Reg.opsOf Try.f42 11)) (a0 := a0) (v := v) (L := [2, 9]) 50 2 (by kernel_rfl) (by rw [hsz]; omega)).trans d2
    have e57 := (Reg.gfr_eval (ops := (Reg.opsOf Try.f42 11)) (a0 := a0) (v := v) (L := [2, 9]) 57 9 (by kernel_rfl) (by rw [hsz]; omega)).trans d9
    refine ⟨Reg.wanted_none rfl, ?_⟩
    generalize Reg.gfr (Reg.opsOf Try.f42 11) a0 v [2, 9] = G at e50 e57 ⊢
    generalize hρ : G.eval = ρ at e50 e57
    have hρ' : G.eval = ρ := hρ
    refine Reg.go_run (Value.bool bb) W ?_ ?_
    · rw [hρ']; simp [execOp, go_sem, e50, e57, hne]
    · exact ⟨Below.refl _ _, rfl⟩
end
set_option maxHeartbeats 4000000 in
set_option maxRecDepth 20000 in
theorem lr11 (gg nn kk ll cc : Nat) (AA : Option Addr) (xs : List UInt8) (bb : Bool) (w0 : World) {s1 s2 s3 s4 s5 s8 s9 s10 s11 s12 s13 s14 s15 s16 s17 s18 s19 s20 s21 s22 s23 s24 s25 s26 s27 s28 s29 s30 s31 s32 s33 s34 s35 s36 s37 s38 s39 s40 s41 s42 s43 s44 s45 s46 s47 s48 s49 s50 s51 s52 s53 s54 s55 s56 s57 s58 s59 s60 s61 s62 s63 s64 s65 s66 s67 s68 s69 s70 s71 : Value}
    (hnn : nn < 18446744073709551616)
    (cs : ∀ W : World, (Instr.slice 33 (.slice AA ll cc) none (some (.int .i64 (kk : Int))) none).run Try.prog W = .ok (.slice AA kk cc) W)
    (c2 : ∀ W, Below w0.heap.size w0 W → (convert 33 9 (.slice AA kk cc)).run Try.prog W = .ok (.string (bstr xs)) W)
    (hne : ((bstr (numB nn)).toList == (bstr xs).toList) = !bb)
    (CN : ∀ W, Below w0.heap.size w0 W → W.cell? ⟨gg, 0, none⟩ = some (Value.slice AA ll cc))
    {Q : Exit → Act → World → Prop}
    (hend : ∀ (w : World) (r49 : Value), Below w0.heap.size w0 w → Q .normal { tmps := #[(Value.pointer (some ⟨gg, 0, none⟩)), s1, s2, s3, s4, s5, (Value.int IntKind.i64 (kk : Int)), (Value.int IntKind.u64 (nn : Int)), s8, s9, s10, s11, s12, s13, s14, s15, s16, s17, s18, s19, s20, s21, s22, s23, s24, s25, s26, s27, s28, s29, s30, s31, s32, s33, s34, s35, s36, s37, s38, s39, s40, s41, s42, s43, s44, s45, s46, s47, (Value.int IntKind.u64 (nn : Int)), r49, (Value.string (bstr (numB nn))), (Value.pointer (some ⟨gg, 0, none⟩)), (Value.pointer (some ⟨gg, 0, none⟩)), (Value.pointer (some ⟨gg, 0, none⟩)), (Value.slice AA ll cc), (Value.int IntKind.i64 (kk : Int)), (Value.slice AA kk cc), (Value.string (bstr xs)), (Value.bool bb), s59, s60, s61, s62, s63, s64, s65, s66, s67, s68, s69, s70, s71], defers := [] } w) :
    (Code.region 11 (Reg.opsOf Try.f42 11) true).wp Try.prog Q { tmps := #[(Value.pointer (some ⟨gg, 0, none⟩)), s1, s2, s3, s4, s5, (Value.int IntKind.i64 (kk : Int)), (Value.int IntKind.u64 (nn : Int)), s8, s9, s10, s11, s12, s13, s14, s15, s16, s17, s18, s19, s20, s21, s22, s23, s24, s25, s26, s27, s28, s29, s30, s31, s32, s33, s34, s35, s36, s37, s38, s39, s40, s41, s42, s43, s44, s45, s46, s47, s48, s49, s50, s51, s52, s53, s54, s55, s56, s57, s58, s59, s60, s61, s62, s63, s64, s65, s66, s67, s68, s69, s70, s71], defers := [] } w0 := by
  obtain ⟨a0, ha0⟩ : ∃ a0 : Act, a0 = { tmps := #[(Value.pointer (some ⟨gg, 0, none⟩)), s1, s2, s3, s4, s5, (Value.int IntKind.i64 (kk : Int)), (Value.int IntKind.u64 (nn : Int)), s8, s9, s10, s11, s12, s13, s14, s15, s16, s17, s18, s19, s20, s21, s22, s23, s24, s25, s26, s27, s28, s29, s30, s31, s32, s33, s34, s35, s36, s37, s38, s39, s40, s41, s42, s43, s44, s45, s46, s47, s48, s49, s50, s51, s52, s53, s54, s55, s56, s57, s58, s59, s60, s61, s62, s63, s64, s65, s66, s67, s68, s69, s70, s71], defers := [] } := ⟨_, rfl⟩
  have hfin : ∀ v : Nat → Value, Reg.gfr (Reg.opsOf Try.f42 11) a0 v (List.range 11) = { tmps := #[(Value.pointer (some ⟨gg, 0, none⟩)), s1, s2, s3, s4, s5, (Value.int IntKind.i64 (kk : Int)), (Value.int IntKind.u64 (nn : Int)), s8, s9, s10, s11, s12, s13, s14, s15, s16, s17, s18, s19, s20, s21, s22, s23, s24, s25, s26, s27, s28, s29, s30, s31, s32, s33, s34, s35, s36, s37, s38, s39, s40, s41, s42, s43, s44, s45, s46, s47, v 0, v 1, v 2, v 3, v 4, v 5, v 6, v 7, v 8, v 9, v 10, s59, s60, s61, s62, s63, s64, s65, s66, s67, s68, s69, s70, s71], defers := [] } := fun v => by rw [ha0]; kernel_rfl
  rw [← ha0]
  have i0 : a0.eval (.tmp 0) = (Value.pointer (some ⟨gg, 0, none⟩)) := by rw [ha0]; rfl
  have i6 : a0.eval (.tmp 6) = (Value.int IntKind.i64 (kk : Int)) := by rw [ha0]; rfl
  have i7 : a0.eval (.tmp 7) = (Value.int IntKind.u64 (nn : Int)) := by rw [ha0]; rfl
  have hsz : a0.tmps.size = 72 := by rw [ha0]; rfl
  clear ha0
  have hn : (Reg.opsOf Try.f42 11).size = 11 := by kernel_rfl
  have h0 := lr11_h0 gg nn kk ll cc AA xs bb w0 a0 hnn cs c2 hne CN i0 i6 i7 hsz
  have h1 := lr11_h1 gg nn kk ll cc AA xs bb w0 a0 hnn cs c2 hne CN i0 i6 i7 hsz
  have h2 := lr11_h2 gg nn kk ll cc AA xs bb w0 a0 hnn cs c2 hne CN i0 i6 i7 hsz
  have h3 := lr11_h3 gg nn kk ll cc AA xs bb w0 a0 hnn cs c2 hne CN i0 i6 i7 hsz
  have h4 := lr11_h4 gg nn kk ll cc AA xs bb w0 a0 hnn cs c2 hne CN i0 i6 i7 hsz
  have h5 := lr11_h5 gg nn kk ll cc AA xs bb w0 a0 hnn cs c2 hne CN i0 i6 i7 hsz
  have h6 := lr11_h6 gg nn kk ll cc AA xs bb w0 a0 hnn cs c2 hne CN i0 i6 i7 hsz
  have h7 := lr11_h7 gg nn kk ll cc AA xs bb w0 a0 hnn cs c2 hne CN i0 i6 i7 hsz
  have h8 := lr11_h8 gg nn kk ll cc AA xs bb w0 a0 hnn cs c2 hne CN i0 i6 i7 hsz
  have h9 := lr11_h9 gg nn kk ll cc AA xs bb w0 a0 hnn cs c2 hne CN i0 i6 i7 hsz
  have h10 := lr11_h10 gg nn kk ll cc AA xs bb w0 a0 hnn cs c2 hne CN i0 i6 i7 hsz
  refine Reg.region_all (by kernel_rfl) (lr11R gg nn kk ll cc AA xs bb) (by rw [hn, hsz]; kernel_rfl) (lr11_stable gg nn kk ll cc AA xs bb) (fun i hi => ?_) (fun v w hb hR => ?_)
  · rw [hn] at hi
    match i, List.mem_range.1 hi with
    | 0, _ => exact h0
    | 1, _ => exact h1
    | 2, _ => exact h2
    | 3, _ => exact h3
    | 4, _ => exact h4
    | 5, _ => exact h5
    | 6, _ => exact h6
    | 7, _ => exact h7
    | 8, _ => exact h8
    | 9, _ => exact h9
    | 10, _ => exact h10
    | (_ + 11), h => omega
  · rw [hn] at hR ⊢
    have v0 : v 0 = (Value.int IntKind.u64 (nn : Int)) := hR 0 (by decide)
    have v2 : v 2 = (Value.string (bstr (numB nn))) := hR 2 (by decide)
    have v3 : v 3 = (Value.pointer (some ⟨gg, 0, none⟩)) := hR 3 (by decide)
    have v4 : v 4 = (Value.pointer (some ⟨gg, 0, none⟩)) := hR 4 (by decide)
    have v5 : v 5 = (Value.pointer (some ⟨gg, 0, none⟩)) := hR 5 (by decide)
    have v6 : v 6 = (Value.slice AA ll cc) := hR 6 (by decide)
    have v7 : v 7 = (Value.int IntKind.i64 (kk : Int)) := hR 7 (by decide)
    have v8 : v 8 = (Value.slice AA kk cc) := hR 8 (by decide)
    have v9 : v 9 = (Value.string (bstr xs)) := hR 9 (by decide)
    have v10 : v 10 = (Value.bool bb) := hR 10 (by decide)
    rw [hfin v, v0, v2, v3, v4, v5, v6, v7, v8, v9, v10]
    exact hend w (v 1) hb 
end Go.Proofs.Ytfifbjlmbdgmjaa
