/- Regions that draw their order: their obligations (printed by regen2.py). -/
import Derived.Test.YtfifbjlmbdgmjaaVecY
import Derived.Test.YtfifbjlmbdgmjaaRegS
namespace Go.Proofs.Ytfifbjlmbdgmjaa
open Go.RowKit
set_option linter.unusedVariables false
set_option linter.unusedSimpArgs false
set_option linter.unusedSectionVars false
def asks12R (vv : List Nat) (ao al : Addr) (nn co cl k : Nat) : Nat → Value → World → Prop
  | 0 => fun x_ _ => x_ = (Value.slice (some ao) nn co)
  | 1 => fun x_ _ => x_ = (Value.int IntKind.i64 (k : Int))
  | 2 => fun x_ _ => x_ = (Value.pointer (some (ao.add (k * 16))))
  | 3 => fun x_ _ => x_ = (Value.agg (vC vv))
  | 4 => fun x_ _ => x_ = (Value.slice (some al) nn cl)
  | 5 => fun x_ _ => x_ = (Value.int IntKind.i64 (k : Int))
  | 6 => fun x_ _ => x_ = (Value.pointer (some (al.add (k * 16))))
  | 7 => fun x_ _ => x_ = (Value.agg (vC vv))
  | 8 => fun x_ _ => x_ = (Value.bool false)
  | _ => fun _ _ => True
theorem asks12_stable (vv : List Nat) (ao al : Addr) (nn co cl k : Nat) : ∀ i_ u_ w_ w_', (asks12R vv ao al nn co cl k) i_ u_ w_ → Below w_.heap.size w_ w_' → (asks12R vv ao al nn co cl k) i_ u_ w_' := fun i_ u_ w_ w_' h_ hb_ => by
  match i_, h_ with
  | 0, h_ => exact h_
  | 1, h_ => exact h_
  | 2, h_ => exact h_
  | 3, h_ => exact h_
  | 4, h_ => exact h_
  | 5, h_ => exact h_
  | 6, h_ => exact h_
  | 7, h_ => exact h_
  | 8, h_ => exact h_
  | (_ + 9), _ => trivial
section
variable (vv : List Nat) (ao al : Addr) (nn co cl k : Nat) (w0 : World) (a0 : Act)
variable (hv : vv.length = 16) (k0 : (0 : Int) ≤ k) (k1 : (k : Int) < nn) (LO : ∀ W, Below w0.heap.size w0 W → (loadVar 24 (ao.add (k * 16))).run Try.prog W = .ok (.agg (vC vv)) W) (LL : ∀ W, Below w0.heap.size w0 W → (loadVar 24 (al.add (k * 16))).run Try.prog W = .ok (.agg (vC vv)) W)
variable (i2 : a0.eval (.tmp 2) = (Value.slice (some al) nn cl)) (i19 : a0.eval (.tmp 19) = (Value.slice (some ao) nn co)) (i22 : a0.eval (.tmp 22) = (Value.int IntKind.i64 (k : Int))) (hsz : a0.tmps.size = 138)
include vv ao al nn co cl k w0 a0 hv k0 k1 LO LL i2 i19 i22 hsz
set_option maxHeartbeats 4000000 in
set_option maxRecDepth 20000 in
theorem asks12_h0 :
    Reg.OpOK Try.prog (Reg.opsOf Try.f6 12) a0 w0 (asks12R vv ao al nn co cl k) (fun _ _ _ _ => True) 0 := by
    refine Reg.op_ok2 (fun af => { dst := some 62, op := Op.move (Operand.tmp 19), type := 43, pos := "law.go:24", after := af, guard := none }) #[] (by kernel_rfl) [] (by kernel_rfl) fun af v W hb hd => ?_
    have e19 := (Reg.gfr_eval0 (ops := (Reg.opsOf Try.f6 12)) (a0 := a0) (v := v) (L := []) 19 (by kernel_rfl)).trans i19
    refine ⟨Reg.wanted_none rfl, ?_⟩
    generalize Reg.gfr (Reg.opsOf Try.f6 12) a0 v [] = G at e19 ⊢
    generalize hρ : G.eval = ρ at e19
    have hρ' : G.eval = ρ := hρ
    refine Reg.go_run (Value.slice (some ao) nn co) W ?_ ?_
    · rw [hρ']; simp [execOp, go_sem, e19]
    · exact ⟨Below.refl _ _, rfl⟩
set_option maxHeartbeats 4000000 in
set_option maxRecDepth 20000 in
theorem asks12_h1 :
    Reg.OpOK Try.prog (Reg.opsOf Try.f6 12) a0 w0 (asks12R vv ao al nn co cl k) (fun _ _ _ _ => True) 1 := by
    refine Reg.op_ok2 (fun af => { dst := some 63, op := Op.move (Operand.tmp 22), type := 3, pos := "law.go:24", after := af, guard := none }) #[] (by kernel_rfl) [] (by kernel_rfl) fun af v W hb hd => ?_
    have e22 := (Reg.gfr_eval0 (ops := (Reg.opsOf Try.f6 12)) (a0 := a0) (v := v) (L := []) 22 (by kernel_rfl)).trans i22
    refine ⟨Reg.wanted_none rfl, ?_⟩
    generalize Reg.gfr (Reg.opsOf Try.f6 12) a0 v [] = G at e22 ⊢
    generalize hρ : G.eval = ρ at e22
    have hρ' : G.eval = ρ := hρ
    refine Reg.go_run (Value.int IntKind.i64 (k : Int)) W ?_ ?_
    · rw [hρ']; simp [execOp, go_sem, e22]
    · exact ⟨Below.refl _ _, rfl⟩
set_option maxHeartbeats 4000000 in
set_option maxRecDepth 20000 in
theorem asks12_h2 :
    Reg.OpOK Try.prog (Reg.opsOf Try.f6 12) a0 w0 (asks12R vv ao al nn co cl k) (fun _ _ _ _ => True) 2 := by
    refine Reg.op_ok2 (fun af => { dst := some 64, op := Op.indexAddr 43 (Operand.tmp 62) (Operand.tmp 63), type := 0, pos := "law.go:24", after := af, guard := none }) #[{ on := 0, ground := Ground.data }, { on := 1, ground := Ground.data }] (by kernel_rfl) [0, 1] (by kernel_rfl) fun af v W hb hd => ?_
    have d0 : v 0 = (Value.slice (some ao) nn co) := hd 0 (by decide)
    have d1 : v 1 = (Value.int IntKind.i64 (k : Int)) := hd 1 (by decide)
    have e62 := (Reg.gfr_eval (ops := (Reg.opsOf Try.f6 12)) (a0 := a0) (v := v) (L := [0, 1]) 62 0 (by kernel_rfl) (by rw [hsz]; omega)).trans d0
    have e63 := (Reg.gfr_eval (ops := (Reg.opsOf Try.f6 12)) (a0 := a0) (v := v) (L := [0, 1]) 63 1 (by kernel_rfl) (by rw [hsz]; omega)).trans d1
    refine ⟨Reg.wanted_none rfl, ?_⟩
    generalize Reg.gfr (Reg.opsOf Try.f6 12) a0 v [0, 1] = G at e62 e63 ⊢
    generalize hρ : G.eval = ρ at e62 e63
    have hρ' : G.eval = ρ := hρ
    refine Reg.go_run (Value.pointer (some (ao.add (k * 16)))) W ?_ ?_
    · rw [hρ']; simp [execOp, go_sem, e62, e63, k0, k1]
    · exact ⟨Below.refl _ _, rfl⟩
set_option maxHeartbeats 4000000 in
set_option maxRecDepth 20000 in
theorem asks12_h3 :
    Reg.OpOK Try.prog (Reg.opsOf Try.f6 12) a0 w0 (asks12R vv ao al nn co cl k) (fun _ _ _ _ => True) 3 := by
    refine Reg.op_ok2 (fun af => { dst := some 65, op := Op.load 24 (Operand.tmp 64), type := 24, pos := "law.go:24", after := af, guard := none }) #[{ on := 2, ground := Ground.data }] (by kernel_rfl) [2] (by kernel_rfl) fun af v W hb hd => ?_
    have d2 : v 2 = (Value.pointer (some (ao.add (k * 16)))) := hd 2 (by decide)
    have e64 := (Reg.gfr_eval (ops := (Reg.opsOf Try.f6 12)) (a0 := a0) (v := v) (L := [2]) 64 2 (by kernel_rfl) (by rw [hsz]; omega)).trans d2
    refine ⟨Reg.wanted_none rfl, ?_⟩
    generalize Reg.gfr (Reg.opsOf Try.f6 12) a0 v [2] = G at e64 ⊢
    generalize hρ : G.eval = ρ at e64
    have hρ' : G.eval = ρ := hρ
    exact fun K hK => wp_load_at 24 (.tmp 64) rfl (ao.add (k * 16)) (by rw [hρ']; exact e64) _ (LO W hb) (hK _ _ ⟨Below.refl _ _, rfl⟩)
set_option maxHeartbeats 4000000 in
set_option maxRecDepth 20000 in
theorem asks12_h4 :
    Reg.OpOK Try.prog (Reg.opsOf Try.f6 12) a0 w0 (asks12R vv ao al nn co cl k) (fun _ _ _ _ => True) 4 := by
    refine Reg.op_ok2 (fun af => { dst := some 66, op := Op.move (Operand.tmp 2), type := 43, pos := "law.go:24", after := af, guard := none }) #[] (by kernel_rfl) [] (by kernel_rfl) fun af v W hb hd => ?_
    have e2 := (Reg.gfr_eval0 (ops := (Reg.opsOf Try.f6 12)) (a0 := a0) (v := v) (L := []) 2 (by kernel_rfl)).trans i2
    refine ⟨Reg.wanted_none rfl, ?_⟩
    generalize Reg.gfr (Reg.opsOf Try.f6 12) a0 v [] = G at e2 ⊢
    generalize hρ : G.eval = ρ at e2
    have hρ' : G.eval = ρ := hρ
    refine Reg.go_run (Value.slice (some al) nn cl) W ?_ ?_
    · rw [hρ']; simp [execOp, go_sem, e2]
    · exact ⟨Below.refl _ _, rfl⟩
set_option maxHeartbeats 4000000 in
set_option maxRecDepth 20000 in
theorem asks12_h5 :
    Reg.OpOK Try.prog (Reg.opsOf Try.f6 12) a0 w0 (asks12R vv ao al nn co cl k) (fun _ _ _ _ => True) 5 := by
    refine Reg.op_ok2 (fun af => { dst := some 67, op := Op.move (Operand.tmp 22), type := 3, pos := "law.go:24", after := af, guard := none }) #[] (by kernel_rfl) [] (by kernel_rfl) fun af v W hb hd => ?_
    have e22 := (Reg.gfr_eval0 (ops := (Reg.opsOf Try.f6 12)) (a0 := a0) (v := v) (L := []) 22 (by kernel_rfl)).trans i22
    refine ⟨Reg.wanted_none rfl, ?_⟩
    generalize Reg.gfr (Reg.opsOf Try.f6 12) a0 v [] = G at e22 ⊢
    generalize hρ : G.eval = ρ at e22
    have hρ' : G.eval = ρ := hρ
    refine Reg.go_run (Value.int IntKind.i64 (k : Int)) W ?_ ?_
    · rw [hρ']; simp [execOp, go_sem, e22]
    · exact ⟨Below.refl _ _, rfl⟩
set_option maxHeartbeats 4000000 in
set_option maxRecDepth 20000 in
theorem asks12_h6 :
    Reg.OpOK Try.prog (Reg.opsOf Try.f6 12) a0 w0 (asks12R vv ao al nn co cl k) (fun _ _ _ _ => True) 6 := by
    refine Reg.op_ok2 (fun af => { dst := some 68, op := Op.indexAddr 43 (Operand.tmp 66) (Operand.tmp 67), type := 0, pos := "law.go:24", after := af, guard := none }) #[{ on := 4, ground := Ground.data }, { on := 5, ground := Ground.data }] (by kernel_rfl) [4, 5] (by kernel_rfl) fun af v W hb hd => ?_
    have d4 : v 4 = (Value.slice (some al) nn cl) := hd 4 (by decide)
    have d5 : v 5 = (Value.int IntKind.i64 (k : Int)) := hd 5 (by decide)
    have e66 := (Reg.gfr_eval (ops := (Reg.opsOf Try.f6 12)) (a0 := a0) (v := v) (L := [4, 5]) 66 4 (by kernel_rfl) (by rw [hsz]; omega)).trans d4
    have e67 := (Reg.gfr_eval (ops := (Reg.opsOf Try.f6 12)) (a0 := a0) (v := v) (L := [4, 5]) 67 5 (by kernel_rfl) (by rw [hsz]; omega)).trans d5
    refine ⟨Reg.wanted_none rfl, ?_⟩
    generalize Reg.gfr (Reg.opsOf Try.f6 12) a0 v [4, 5] = G at e66 e67 ⊢
    generalize hρ : G.eval = ρ at e66 e67
    have hρ' : G.eval = ρ := hρ
    refine Reg.go_run (Value.pointer (some (al.add (k * 16)))) W ?_ ?_
    · rw [hρ']; simp [execOp, go_sem, e66, e67, k0, k1]
    · exact ⟨Below.refl _ _, rfl⟩
set_option maxHeartbeats 4000000 in
set_option maxRecDepth 20000 in
theorem asks12_h7 :
    Reg.OpOK Try.prog (Reg.opsOf Try.f6 12) a0 w0 (asks12R vv ao al nn co cl k) (fun _ _ _ _ => True) 7 := by
    refine Reg.op_ok2 (fun af => { dst := some 69, op := Op.load 24 (Operand.tmp 68), type := 24, pos := "law.go:24", after := af, guard := none }) #[{ on := 6, ground := Ground.data }] (by kernel_rfl) [6] (by kernel_rfl) fun af v W hb hd => ?_
    have d6 : v 6 = (Value.pointer (some (al.add (k * 16)))) := hd 6 (by decide)
    have e68 := (Reg.gfr_eval (ops := (Reg.opsOf Try.f6 12)) (a0 := a0) (v := v) (L := [6]) 68 6 (by kernel_rfl) (by rw [hsz]; omega)).trans d6
    refine ⟨Reg.wanted_none rfl, ?_⟩
    generalize Reg.gfr (Reg.opsOf Try.f6 12) a0 v [6] = G at e68 ⊢
    generalize hρ : G.eval = ρ at e68
    have hρ' : G.eval = ρ := hρ
    exact fun K hK => wp_load_at 24 (.tmp 68) rfl (al.add (k * 16)) (by rw [hρ']; exact e68) _ (LL W hb) (hK _ _ ⟨Below.refl _ _, rfl⟩)
set_option maxHeartbeats 4000000 in
set_option maxRecDepth 20000 in
theorem asks12_h8 :
    Reg.OpOK Try.prog (Reg.opsOf Try.f6 12) a0 w0 (asks12R vv ao al nn co cl k) (fun _ _ _ _ => True) 8 := by
    refine Reg.op_ok2 (fun af => { dst := some 70, op := Op.binOp BinOp.neq 24 (Operand.tmp 65) (Operand.tmp 69) 24, type := 4, pos := "law.go:24", after := af, guard := none }) #[{ on := 3, ground := Ground.data }, { on := 7, ground := Ground.data }] (by kernel_rfl) [3, 7] (by kernel_rfl) fun af v W hb hd => ?_
    have d3 : v 3 = (Value.agg (vC vv)) := hd 3 (by decide)
    have d7 : v 7 = (Value.agg (vC vv)) := hd 7 (by decide)
    have e65 := (Reg.gfr_eval (ops := (Reg.opsOf Try.f6 12)) (a0 := a0) (v := v) (L := [3, 7]) 65 3 (by kernel_rfl) (by rw [hsz]; omega)).trans d3
    have e69 := (Reg.gfr_eval (ops := (Reg.opsOf Try.f6 12)) (a0 := a0) (v := v) (L := [3, 7]) 69 7 (by kernel_rfl) (by rw [hsz]; omega)).trans d7
    refine ⟨Reg.wanted_none rfl, ?_⟩
    generalize Reg.gfr (Reg.opsOf Try.f6 12) a0 v [3, 7] = G at e65 e69 ⊢
    generalize hρ : G.eval = ρ at e65 e69
    have hρ' : G.eval = ρ := hρ
    refine Reg.go_run (Value.bool false) W ?_ ?_
    · rw [hρ']; simp [execOp, go_sem, e65, e69, run_eq_vec W vv vv hv hv]
    · exact ⟨Below.refl _ _, rfl⟩
end
set_option maxHeartbeats 4000000 in
set_option maxRecDepth 20000 in
theorem asks12 (vv : List Nat) (ao al : Addr) (nn co cl k : Nat) (w0 : World) {s0 s1 s3 s4 s5 s6 s7 s8 s9 s10 s11 s12 s13 s14 s15 s16 s17 s18 s20 s21 s23 s24 s25 s26 s27 s28 s29 s30 s31 s32 s33 s34 s35 s36 s37 s38 s39 s40 s41 s42 s43 s44 s45 s46 s47 s48 s49 s50 s51 s52 s53 s54 s55 s56 s57 s58 s59 s60 s61 s62 s63 s64 s65 s66 s67 s68 s69 s70 s71 s72 s73 s74 s75 s76 s77 s78 s79 s80 s81 s82 s83 s84 s85 s86 s87 s88 s89 s90 s91 s92 s93 s94 s95 s96 s97 s98 s99 s100 s101 s102 s103 s104 s105 s106 s107 s108 s109 s110 s111 s112 s113 s114 s115 s116 s117 s118 s119 s120 s121 s122 s123 s124 s125 s126 s127 s128 s129 s130 s131 s132 s133 s134 s135 s136 s137 : Value}
    (hv : vv.length = 16) (k0 : (0 : Int) ≤ k) (k1 : (k : Int) < nn) (LO : ∀ W, Below w0.heap.size w0 W → (loadVar 24 (ao.add (k * 16))).run Try.prog W = .ok (.agg (vC vv)) W) (LL : ∀ W, Below w0.heap.size w0 W → (loadVar 24 (al.add (k * 16))).run Try.prog W = .ok (.agg (vC vv)) W)
    {Q : Exit → Act → World → Prop}
    (hend : ∀ (w : World), Below w0.heap.size w0 w → Q .normal { tmps := #[s0, s1, (Value.slice (some al) nn cl), s3, s4, s5, s6, s7, s8, s9, s10, s11, s12, s13, s14, s15, s16, s17, s18, (Value.slice (some ao) nn co), s20, s21, (Value.int IntKind.i64 (k : Int)), s23, s24, s25, s26, s27, s28, s29, s30, s31, s32, s33, s34, s35, s36, s37, s38, s39, s40, s41, s42, s43, s44, s45, s46, s47, s48, s49, s50, s51, s52, s53, s54, s55, s56, s57, s58, s59, s60, s61, (Value.slice (some ao) nn co), (Value.int IntKind.i64 (k : Int)), (Value.pointer (some (ao.add (k * 16)))), (Value.agg (vC vv)), (Value.slice (some al) nn cl), (Value.int IntKind.i64 (k : Int)), (Value.pointer (some (al.add (k * 16)))), (Value.agg (vC vv)), (Value.bool false), s71, s72, s73, s74, s75, s76, s77, s78, s79, s80, s81, s82, s83, s84, s85, s86, s87, s88, s89, s90, s91, s92, s93, s94, s95, s96, s97, s98, s99, s100, s101, s102, s103, s104, s105, s106, s107, s108, s109, s110, s111, s112, s113, s114, s115, s116, s117, s118, s119, s120, s121, s122, s123, s124, s125, s126, s127, s128, s129, s130, s131, s132, s133, s134, s135, s136, s137], defers := [] } w) :
    (Code.region 12 (Reg.opsOf Try.f6 12) true).wp Try.prog Q { tmps := #[s0, s1, (Value.slice (some al) nn cl), s3, s4, s5, s6, s7, s8, s9, s10, s11, s12, s13, s14, s15, s16, s17, s18, (Value.slice (some ao) nn co), s20, s21, (Value.int IntKind.i64 (k : Int)), s23, s24, s25, s26, s27, s28, s29, s30, s31, s32, s33, s34, s35, s36, s37, s38, s39, s40, s41, s42, s43, s44, s45, s46, s47, s48, s49, s50, s51, s52, s53, s54, s55, s56, s57, s58, s59, s60, s61, s62, s63, s64, s65, s66, s67, s68, s69, s70, s71, s72, s73, s74, s75, s76, s77, s78, s79, s80, s81, s82, s83, s84, s85, s86, s87, s88, s89, s90, s91, s92, s93, s94, s95, s96, s97, s98, s99, s100, s101, s102, s103, s104, s105, s106, s107, s108, s109, s110, s111, s112, s113, s114, s115, s116, s117, s118, s119, s120, s121, s122, s123, s124, s125, s126, s127, s128, s129, s130, s131, s132, s133, s134, s135, s136, s137], defers := [] } w0 := by
  obtain ⟨a0, ha0⟩ : ∃ a0 : Act, a0 = { tmps := #[s0, s1, (Value.slice (some al) nn cl), s3, s4, s5, s6, s7, s8, s9, s10, s11, s12, s13, s14, s15, s16, s17, s18, (Value.slice (some ao) nn co), s20, s21, (Value.int IntKind.i64 (k : Int)), s23, s24, s25, s26, s27, s28, s29, s30, s31, s32, s33, s34, s35, s36, s37, s38, s39, s40, s41, s42, s43, s44, s45, s46, s47, s48, s49, s50, s51, s52, s53, s54, s55, s56, s57, s58, s59, s60, s61, s62, s63, s64, s65, s66, s67, s68, s69, s70, s71, s72, s73, s74, s75, s76, s77, s78, s79, s80, s81, s82, s83, s84, s85, s86, s87, s88, s89, s90, s91, s92, s93, s94, s95, s96, s97, s98, s99, s100, s101, s102, s103, s104, s105, s106, s107, s108, s109, s110, s111, s112, s113, s114, s115, s116, s117, s118, s119, s120, s121, s122, s123, s124, s125, s126, s127, s128, s129, s130, s131, s132, s133, s134, s135, s136, s137], defers := [] } := ⟨_, rfl⟩
  have hfin : ∀ v : Nat → Value, Reg.gfr (Reg.opsOf Try.f6 12) a0 v (List.range 9) = { tmps := #[s0, s1, (Value.slice (some al) nn cl), s3, s4, s5, s6, s7, s8, s9, s10, s11, s12, s13, s14, s15, s16, s17, s18, (Value.slice (some ao) nn co), s20, s21, (Value.int IntKind.i64 (k : Int)), s23, s24, s25, s26, s27, s28, s29, s30, s31, s32, s33, s34, s35, s36, s37, s38, s39, s40, s41, s42, s43, s44, s45, s46, s47, s48, s49, s50, s51, s52, s53, s54, s55, s56, s57, s58, s59, s60, s61, v 0, v 1, v 2, v 3, v 4, v 5, v 6, v 7, v 8, s71, s72, s73, s74, s75, s76, s77, s78, s79, s80, s81, s82, s83, s84, s85, s86, s87, s88, s89, s90, s91, s92, s93, s94, s95, s96, s97, s98, s99, s100, s101, s102, s103, s104, s105, s106, s107, s108, s109, s110, s111, s112, s113, s114, s115, s116, s117, s118, s119, s120, s121, s122, s123, s124, s125, s126, s127, s128, s129, s130, s131, s132, s133, s134, s135, s136, s137], defers := [] } := fun v => by rw [ha0]; kernel_rfl
  rw [← ha0]
  have i2 : a0.eval (.tmp 2) = (Value.slice (some al) nn cl) := by rw [ha0]; rfl
  have i19 : a0.eval (.tmp 19) = (Value.slice (some ao) nn co) := by rw [ha0]; rfl
  have i22 : a0.eval (.tmp 22) = (Value.int IntKind.i64 (k : Int)) := by rw [ha0]; rfl
  have hsz : a0.tmps.size = 138 := by rw [ha0]; rfl
  clear ha0
  have hn : (Reg.opsOf Try.f6 12).size = 9 := by kernel_rfl
  have h0 := asks12_h0 vv ao al nn co cl k w0 a0 hv k0 k1 LO LL i2 i19 i22 hsz
  have h1 := asks12_h1 vv ao al nn co cl k w0 a0 hv k0 k1 LO LL i2 i19 i22 hsz
  have h2 := asks12_h2 vv ao al nn co cl k w0 a0 hv k0 k1 LO LL i2 i19 i22 hsz
  have h3 := asks12_h3 vv ao al nn co cl k w0 a0 hv k0 k1 LO LL i2 i19 i22 hsz
  have h4 := asks12_h4 vv ao al nn co cl k w0 a0 hv k0 k1 LO LL i2 i19 i22 hsz
  have h5 := asks12_h5 vv ao al nn co cl k w0 a0 hv k0 k1 LO LL i2 i19 i22 hsz
  have h6 := asks12_h6 vv ao al nn co cl k w0 a0 hv k0 k1 LO LL i2 i19 i22 hsz
  have h7 := asks12_h7 vv ao al nn co cl k w0 a0 hv k0 k1 LO LL i2 i19 i22 hsz
  have h8 := asks12_h8 vv ao al nn co cl k w0 a0 hv k0 k1 LO LL i2 i19 i22 hsz
  refine Reg.region_all (by kernel_rfl) (asks12R vv ao al nn co cl k) (by rw [hn, hsz]; kernel_rfl) (asks12_stable vv ao al nn co cl k) (fun i hi => ?_) (fun v w hb hR => ?_)
  · rw [hn] at hi
    match i, List.mem_range.1 hi with
    | 0, _ => exact h0
    | 1, _ => exact h1
    | 2, _ => exact h2
    | 3, _ => exact h3
    | 4, _ => exact h4
    | 5, _ => exact h5
    | 6, _ => exact h6
    | 7, _ => exact h7
    | 8, _ => exact h8
    | (_ + 9), h => omega
  · rw [hn] at hR ⊢
    have v0 : v 0 = (Value.slice (some ao) nn co) := hR 0 (by decide)
    have v1 : v 1 = (Value.int IntKind.i64 (k : Int)) := hR 1 (by decide)
    have v2 : v 2 = (Value.pointer (some (ao.add (k * 16)))) := hR 2 (by decide)
    have v3 : v 3 = (Value.agg (vC vv)) := hR 3 (by decide)
    have v4 : v 4 = (Value.slice (some al) nn cl) := hR 4 (by decide)
    have v5 : v 5 = (Value.int IntKind.i64 (k : Int)) := hR 5 (by decide)
    have v6 : v 6 = (Value.pointer (some (al.add (k * 16)))) := hR 6 (by decide)
    have v7 : v 7 = (Value.agg (vC vv)) := hR 7 (by decide)
    have v8 : v 8 = (Value.bool false) := hR 8 (by decide)
    rw [hfin v, v0, v1, v2, v3, v4, v5, v6, v7, v8]
    exact hend w  hb 
end Go.Proofs.Ytfifbjlmbdgmjaa
