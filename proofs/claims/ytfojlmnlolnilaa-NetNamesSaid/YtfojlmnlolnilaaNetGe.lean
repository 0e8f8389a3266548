/- Regions that draw their order: their obligations (printed by regen2.py). -/
import Derived.Test.YtfojlmnlolnilaaNetV
import Derived.Test.YtfojlmnlolnilaaApp
import Derived.Test.YtfojlmnlolnilaaRegC
import Derived.Test.YtfojlmnlolnilaaNetC
import Derived.Test.YtfojlmnlolnilaaRegT
namespace Go.Proofs.Ytfojlmnlolnilaa
open Go.RowKit
set_option linter.unusedVariables false
set_option linter.unusedSimpArgs false
set_option linter.unusedSectionVars false
def norder16R (nn cc kk fb B0 fn fc : Nat) (aa : Addr) (fA : Option Addr) (xs : List Value) (ff tt : Int) : Nat → Value → World → Prop
  | 0 => (fun u_ w_ => w_.ownsRow B0 38 3 u_ 0 ([] : List Value))
  | 1 => fun x_ _ => x_ = (Value.slice (some aa) nn cc)
  | 2 => fun x_ _ => x_ = (Value.int IntKind.i64 (kk : Int))
  | 3 => fun x_ _ => x_ = (Value.slice (some aa) kk cc)
  | 4 => (fun u_ w_ => w_.ownsRow B0 38 3 u_ (0 + kk) ([] ++ xs.take (kk * 3)))
  | 5 => fun x_ _ => x_ = (Value.slice (some aa) nn cc)
  | 6 => fun x_ _ => x_ = (Value.int IntKind.i64 (kk : Int))
  | 7 => fun x_ _ => x_ = (Value.int IntKind.i64 ((kk : Int) + 1))
  | 8 => fun x_ _ => x_ = (Value.slice (subA (some aa) cc (kk + 1) 3) (nn - (kk + 1)) (cc - (kk + 1)))
  | 9 => (fun u_ w_ => w_.ownsRow B0 38 3 u_ (0 + kk + (nn - (kk + 1))) ([] ++ xs.take (kk * 3) ++ xs.drop ((kk + 1) * 3)))
  | 10 => fun x_ _ => x_ = (Value.agg #[Value.int IntKind.i64 ff, Value.int IntKind.i64 tt, Value.slice fA fn fc])
  | 11 => fun x_ _ => x_ = (Value.agg #[Value.int IntKind.i64 ff, Value.int IntKind.i64 tt, Value.slice fA fn fc])
  | 12 => (fun u_ w_ => ∃ b_, u_ = Value.slice (some ⟨b_, 0, none⟩) 2 2 ∧ w_.heap[b_]? = some (.cells #[Value.int IntKind.i64 ff, Value.int IntKind.i64 tt, Value.slice fA fn fc, Value.int IntKind.i64 ff, Value.int IntKind.i64 tt, Value.slice fA fn fc] 38 (0, 0)))
  | 13 => (fun u_ w_ => w_.ownsRow B0 38 3 u_ (0 + kk + (nn - (kk + 1)) + 2) ([] ++ xs.take (kk * 3) ++ xs.drop ((kk + 1) * 3) ++ [Value.int IntKind.i64 ff, Value.int IntKind.i64 tt, Value.slice fA fn fc, Value.int IntKind.i64 ff, Value.int IntKind.i64 tt, Value.slice fA fn fc]))
  | 14 => (fun u_ w_ => w_.ownsRow B0 38 3 u_ (0 + kk + (nn - (kk + 1)) + 2) ([] ++ xs.take (kk * 3) ++ xs.drop ((kk + 1) * 3) ++ [Value.int IntKind.i64 ff, Value.int IntKind.i64 tt, Value.slice fA fn fc, Value.int IntKind.i64 ff, Value.int IntKind.i64 tt, Value.slice fA fn fc]))
  | _ => fun _ _ => True
theorem norder16_stable (nn cc kk fb B0 fn fc : Nat) (aa : Addr) (fA : Option Addr) (xs : List Value) (ff tt : Int) : ∀ i_ u_ w_ w_', (norder16R nn cc kk fb B0 fn fc aa fA xs ff tt) i_ u_ w_ → Below w_.heap.size w_ w_' → (norder16R nn cc kk fb B0 fn fc aa fA xs ff tt) i_ u_ w_' := fun i_ u_ w_ w_' h_ hb_ => by
  match i_, h_ with
  | 0, h_ => exact (own_below h_ hb_)
  | 1, h_ => exact h_
  | 2, h_ => exact h_
  | 3, h_ => exact h_
  | 4, h_ => exact (own_below h_ hb_)
  | 5, h_ => exact h_
  | 6, h_ => exact h_
  | 7, h_ => exact h_
  | 8, h_ => exact h_
  | 9, h_ => exact (own_below h_ hb_)
  | 10, h_ => exact h_
  | 11, h_ => exact h_
  | 12, h_ => exact ((by obtain ⟨b_, h1_, h2_⟩ := h_; exact ⟨b_, h1_, (hb_.block _ (lt_get h2_)).trans h2_⟩))
  | 13, h_ => exact (own_below h_ hb_)
  | 14, h_ => exact (own_below h_ hb_)
  | (_ + 15), _ => trivial
section
variable (nn cc kk fb B0 fn fc : Nat) (aa : Addr) (fA : Option Addr) (xs : List Value) (ff tt : Int) (w0 : World) (a0 : Act)
variable (hB0 : B0 = w0.heap.size) (hxl : xs.length = nn * 3) (hnn : nn ≤ 1000) (hkk : kk < nn) (hncc : nn ≤ cc) (hccm : cc ≤ maxLen)
variable (hx1 : ∀ u ∈ xs, u.oneCell' = true)
variable (hrow : ∀ W, Below w0.heap.size w0 W → RdC W (some aa) xs)
variable (hwk : IntKind.i64.wrap ((kk : Int) + 1) = (kk : Int) + 1)
variable (hs3 : ∀ W : World, (Instr.slice 35 (.slice (some aa) nn cc) none (some (.int .i64 (kk : Int))) none).run Try.prog W = .ok (.slice (some aa) kk cc) W)
variable (hs8 : ∀ W : World, (Instr.slice 35 (.slice (some aa) nn cc) (some (.int .i64 ((kk : Int) + 1))) none none).run Try.prog W = .ok (.slice (subA (some aa) cc (kk + 1) 3) (nn - (kk + 1)) (cc - (kk + 1))) W)
variable (M_fb : ∀ W, Below w0.heap.size w0 W → W.heap[fb]? = some (.cells #[Value.int IntKind.i64 ff, Value.int IntKind.i64 tt, Value.slice fA fn fc] 38 (0, 0)))
variable (i8 : a0.eval (.tmp 8) = (Value.slice (some aa) nn cc)) (i10 : a0.eval (.tmp 10) = (Value.int IntKind.i64 (kk : Int))) (i11 : a0.eval (.tmp 11) = (Value.pointer (some ⟨fb, 0, none⟩))) (hsz : a0.tmps.size = 142)
include nn cc kk fb B0 fn fc aa fA xs ff tt w0 a0 hB0 hxl hnn hkk hncc hccm hx1 hrow hwk hs3 hs8 M_fb i8 i10 i11 hsz
set_option maxHeartbeats 4000000 in
set_option maxRecDepth 20000 in
theorem norder16_h0 :
    RegC.OpOK Try.prog (Reg.opsOf Try.f4 16) a0 w0 (fun i_ => if i_ = 0 then some 4 else if i_ = 4 then some 9 else if i_ = 9 then some 13 else if i_ = 12 then some 13 else none) (norder16R nn cc kk fb B0 fn fc aa fA xs ff tt) (fun i_ j_ u_ x_ => (i_ = 12 ∧ j_ ∈ [0, 4, 9] ∨ j_ = 12 ∧ i_ ∈ [0, 4, 9]) → u_.ownBlock ≠ x_.ownBlock) 0 := by
    refine RegC.op_ok2 (fun af => { dst := some 74, op := Op.buildSlice 35 0 #[], type := 35, pos := "outright.go:157", after := af, guard := none }) #[] (by kernel_rfl) [] (by kernel_rfl) fun af v W hb hd => ?_
    refine ⟨Reg.wanted_none rfl, ?_⟩
    generalize Reg.gfr (Reg.opsOf Try.f4 16) a0 v [] = G at  ⊢
    generalize hρ : G.eval = ρ
    have hρ' : G.eval = ρ := hρ
    have hbn_ : Below W.heap.size W (W.alloc (.cells #[] 38)) := (Below.refl _ _).alloc (Nat.le_refl _) _
    refine Reg.go_run (Value.slice (some ⟨W.heap.size, 0, none⟩) 0 0) (W.alloc (.cells #[] 38)) (by rw [hρ']; simp [execOp, go_sem]) ⟨below_then hb hbn_ (Nat.le_refl _), own_row rfl (by rw [hB0]; exact hb.size) (heap_alloc_new _ _) (by unfold maxLen; omega), ?_⟩
    refine fun j_ x_ hj_ hg_ hx_ hd_ => ?_
    match j_, hj_, hg_, hx_, hd_ with
    | 0, hj_, _, _, _ => exact absurd rfl hj_
    | 1, _, _, hx_, _ => exact ⟨hx_, fun h => absurd h (by simp), fun h => absurd h (by simp)⟩
    | 2, _, _, hx_, _ => exact ⟨hx_, fun h => absurd h (by simp), fun h => absurd h (by simp)⟩
    | 3, _, _, hx_, _ => exact ⟨hx_, fun h => absurd h (by simp), fun h => absurd h (by simp)⟩
    | 4, _, hg_, _, _ => exact absurd hg_ (by rw [show RegC.gone (Reg.opsOf Try.f4 16) (fun i_ => if i_ = 0 then some 4 else if i_ = 4 then some 9 else if i_ = 9 then some 13 else if i_ = 12 then some 13 else none) 0 4 = true by kernel_rfl]; decide)
    | 5, _, _, hx_, _ => exact ⟨hx_, fun h => absurd h (by simp), fun h => absurd h (by simp)⟩
    | 6, _, _, hx_, _ => exact ⟨hx_, fun h => absurd h (by simp), fun h => absurd h (by simp)⟩
    | 7, _, _, hx_, _ => exact ⟨hx_, fun h => absurd h (by simp), fun h => absurd h (by simp)⟩
    | 8, _, _, hx_, _ => exact ⟨hx_, fun h => absurd h (by simp), fun h => absurd h (by simp)⟩
    | 9, _, hg_, _, _ => exact absurd hg_ (by rw [show RegC.gone (Reg.opsOf Try.f4 16) (fun i_ => if i_ = 0 then some 4 else if i_ = 4 then some 9 else if i_ = 9 then some 13 else if i_ = 12 then some 13 else none) 0 9 = true by kernel_rfl]; decide)
    | 10, _, _, hx_, _ => exact ⟨hx_, fun h => absurd h (by simp), fun h => absurd h (by simp)⟩
    | 11, _, _, hx_, _ => exact ⟨hx_, fun h => absurd h (by simp), fun h => absurd h (by simp)⟩
    | 12, _, _, hx_, hd_ => exact (by
          obtain ⟨b_, rfl, hc_⟩ := hx_
          have hlt_ := lt_get hc_
          have hnn_ : (Value.slice (some ⟨W.heap.size, 0, none⟩) 0 0).ownBlock ≠ (Value.slice (some ⟨b_, 0, none⟩) 2 2).ownBlock := fun e_ => by
            have : W.heap.size = b_ := Option.some.inj e_
            omega
          exact ⟨⟨b_, rfl, (hbn_.block b_ hlt_).trans hc_⟩, fun _ => hnn_, fun _ => Ne.symm hnn_⟩)
    | 13, _, hg_, _, _ => exact absurd hg_ (by rw [show RegC.gone (Reg.opsOf Try.f4 16) (fun i_ => if i_ = 0 then some 4 else if i_ = 4 then some 9 else if i_ = 9 then some 13 else if i_ = 12 then some 13 else none) 0 13 = true by kernel_rfl]; decide)
    | 14, _, hg_, _, _ => exact absurd hg_ (by rw [show RegC.gone (Reg.opsOf Try.f4 16) (fun i_ => if i_ = 0 then some 4 else if i_ = 4 then some 9 else if i_ = 9 then some 13 else if i_ = 12 then some 13 else none) 0 14 = true by kernel_rfl]; decide)
    | (j_ + 15), _, _, _, _ => exact ⟨trivial, fun h => absurd h (by simp), fun h => absurd h (by simp)⟩
set_option maxHeartbeats 4000000 in
set_option maxRecDepth 20000 in
theorem norder16_h1 :
    Reg.OpOK Try.prog (Reg.opsOf Try.f4 16) a0 w0 (norder16R nn cc kk fb B0 fn fc aa fA xs ff tt) (fun _ _ _ _ => True) 1 := by
    refine Reg.op_ok2 (fun af => { dst := some 75, op := Op.move (Operand.tmp 8), type := 35, pos := "outright.go:157", after := af, guard := none }) #[] (by kernel_rfl) [] (by kernel_rfl) fun af v W hb hd => ?_
    have e8 := (Reg.gfr_eval0 (ops := (Reg.opsOf Try.f4 16)) (a0 := a0) (v := v) (L := []) 8 (by kernel_rfl)).trans i8
    refine ⟨Reg.wanted_none rfl, ?_⟩
    generalize Reg.gfr (Reg.opsOf Try.f4 16) a0 v [] = G at e8 ⊢
    generalize hρ : G.eval = ρ at e8
    have hρ' : G.eval = ρ := hρ
    refine Reg.go_run (Value.slice (some aa) nn cc) W ?_ ?_
    · rw [hρ']; simp [execOp, go_sem, e8]
    · exact ⟨Below.refl _ _, rfl⟩
set_option maxHeartbeats 4000000 in
set_option maxRecDepth 20000 in
theorem norder16_h2 :
    Reg.OpOK Try.prog (Reg.opsOf Try.f4 16) a0 w0 (norder16R nn cc kk fb B0 fn fc aa fA xs ff tt) (fun _ _ _ _ => True) 2 := by
    refine Reg.op_ok2 (fun af => { dst := some 76, op := Op.move (Operand.tmp 10), type := 3, pos := "outright.go:157", after := af, guard := none }) #[] (by kernel_rfl) [] (by kernel_rfl) fun af v W hb hd => ?_
    have e10 := (Reg.gfr_eval0 (ops := (Reg.opsOf Try.f4 16)) (a0 := a0) (v := v) (L := []) 10 (by kernel_rfl)).trans i10
    refine ⟨Reg.wanted_none rfl, ?_⟩
    generalize Reg.gfr (Reg.opsOf Try.f4 16) a0 v [] = G at e10 ⊢
    generalize hρ : G.eval = ρ at e10
    have hρ' : G.eval = ρ := hρ
    refine Reg.go_run (Value.int IntKind.i64 (kk : Int)) W ?_ ?_
    · rw [hρ']; simp [execOp, go_sem, e10]
    · exact ⟨Below.refl _ _, rfl⟩
set_option maxHeartbeats 4000000 in
set_option maxRecDepth 20000 in
theorem norder16_h3 :
    Reg.OpOK Try.prog (Reg.opsOf Try.f4 16) a0 w0 (norder16R nn cc kk fb B0 fn fc aa fA xs ff tt) (fun _ _ _ _ => True) 3 := by
    refine Reg.op_ok2 (fun af => { dst := some 77, op := Op.slice 35 (Operand.tmp 75) none (some (Operand.tmp 76)) none, type := 35, pos := "outright.go:157", after := af, guard := none }) #[{ on := 1, ground := Ground.data }, { on := 2, ground := Ground.data }] (by kernel_rfl) [1, 2] (by kernel_rfl) fun af v W hb hd => ?_
    have d1 : v 1 = (Value.slice (some aa) nn cc) := hd 1 (by decide)
    have d2 : v 2 = (Value.int IntKind.i64 (kk : Int)) := hd 2 (by decide)
    have e75 := (Reg.gfr_eval (ops := (Reg.opsOf Try.f4 16)) (a0 := a0) (v := v) (L := [1, 2]) 75 1 (by kernel_rfl) (by rw [hsz]; omega)).trans d1
    have e76 := (Reg.gfr_eval (ops := (Reg.opsOf Try.f4 16)) (a0 := a0) (v := v) (L := [1, 2]) 76 2 (by kernel_rfl) (by rw [hsz]; omega)).trans d2
    refine ⟨Reg.wanted_none rfl, ?_⟩
    generalize Reg.gfr (Reg.opsOf Try.f4 16) a0 v [1, 2] = G at e75 e76 ⊢
    generalize hρ : G.eval = ρ at e75 e76
    have hρ' : G.eval = ρ := hρ
    refine Reg.go_run (Value.slice (some aa) kk cc) W ?_ ?_
    · rw [hρ']; simp [execOp, go_sem, e75, e76, hs3]
    · exact ⟨Below.refl _ _, rfl⟩
set_option maxHeartbeats 4000000 in
set_option maxRecDepth 20000 in
theorem norder16_h4 :
    RegC.OpOK Try.prog (Reg.opsOf Try.f4 16) a0 w0 (fun i_ => if i_ = 0 then some 4 else if i_ = 4 then some 9 else if i_ = 9 then some 13 else if i_ = 12 then some 13 else none) (norder16R nn cc kk fb B0 fn fc aa fA xs ff tt) (fun i_ j_ u_ x_ => (i_ = 12 ∧ j_ ∈ [0, 4, 9] ∨ j_ = 12 ∧ i_ ∈ [0, 4, 9]) → u_.ownBlock ≠ x_.ownBlock) 4 := by
    refine RegC.op_ok2 (fun af => { dst := some 78, op := Op.call { callee := Callee.builtin Builtin.append, args := #[Operand.tmp 74, Operand.tmp 77], argTypes := #[35, 35] }, type := 35, pos := "outright.go:157", after := af, guard := none }) #[{ on := 0, ground := Ground.data }, { on := 3, ground := Ground.data }] (by kernel_rfl) [0, 3] (by kernel_rfl) fun af v W hb hd => ?_
    have d0 : ((fun u_ w_ => w_.ownsRow B0 38 3 u_ 0 ([] : List Value))) (v 0) W := hd 0 (by decide) (by decide)
    have d3 : v 3 = (Value.slice (some aa) kk cc) := hd 3 (by decide) (by decide)
    have e74 := Reg.gfr_eval (ops := (Reg.opsOf Try.f4 16)) (a0 := a0) (v := v) (L := [0, 3]) 74 0 (by kernel_rfl) (by rw [hsz]; omega)
    have e77 := (Reg.gfr_eval (ops := (Reg.opsOf Try.f4 16)) (a0 := a0) (v := v) (L := [0, 3]) 77 3 (by kernel_rfl) (by rw [hsz]; omega)).trans d3
    refine ⟨Reg.wanted_none rfl, ?_⟩
    generalize Reg.gfr (Reg.opsOf Try.f4 16) a0 v [0, 3] = G at e74 e77 ⊢
    generalize hρ : G.eval = ρ at e74 e77
    have hρ' : G.eval = ρ := hρ
    obtain ⟨v_, w_, hrun_, ho2_, hg2_, hk2_⟩ := run_app2 (P := Try.prog) elt38 35 W B0 (v 0) 0 ([] : List Value) d0 (some aa) kk cc (xs.take (kk * 3)) (by first | (simp [hxl]; done) | (simp [hxl]; omega)) ((hrow W hb).take _) (fun u_ hu_ => hx1 u_ (List.mem_of_mem_take hu_)) (by unfold maxLen; omega) (by omega) (by rw [hB0]; exact hb.size)
    rw [appK_hide] at hrun_
    have hbk_ := d0.lt
    have hbb_ := hb.grown hg2_ hb.size (fun k_ hk_ => by have := (hbk_ k_ hk_).1; omega)
    refine Reg.go_run v_ w_ (by rw [hρ']; simp [execOp, go_sem, e74, e77, ↓appK_hide, hrun_]) ⟨hbb_, ho2_, ?_⟩
    refine fun j_ x_ hj_ hg_ hx_ hd_ => ?_
    match j_, hj_, hg_, hx_, hd_ with
    | 0, _, hg_, _, _ => exact absurd hg_ (by rw [show RegC.gone (Reg.opsOf Try.f4 16) (fun i_ => if i_ = 0 then some 4 else if i_ = 4 then some 9 else if i_ = 9 then some 13 else if i_ = 12 then some 13 else none) 4 0 = true by kernel_rfl]; decide)
    | 1, _, _, hx_, _ => exact ⟨hx_, fun h => absurd h (by simp), fun h => absurd h (by simp)⟩
    | 2, _, _, hx_, _ => exact ⟨hx_, fun h => absurd h (by simp), fun h => absurd h (by simp)⟩
    | 3, _, _, hx_, _ => exact ⟨hx_, fun h => absurd h (by simp), fun h => absurd h (by simp)⟩
    | 4, hj_, _, _, _ => exact absurd rfl hj_
    | 5, _, _, hx_, _ => exact ⟨hx_, fun h => absurd h (by simp), fun h => absurd h (by simp)⟩
    | 6, _, _, hx_, _ => exact ⟨hx_, fun h => absurd h (by simp), fun h => absurd h (by simp)⟩
    | 7, _, _, hx_, _ => exact ⟨hx_, fun h => absurd h (by simp), fun h => absurd h (by simp)⟩
    | 8, _, _, hx_, _ => exact ⟨hx_, fun h => absurd h (by simp), fun h => absurd h (by simp)⟩
    | 9, _, hg_, _, _ => exact absurd hg_ (by rw [show RegC.gone (Reg.opsOf Try.f4 16) (fun i_ => if i_ = 0 then some 4 else if i_ = 4 then some 9 else if i_ = 9 then some 13 else if i_ = 12 then some 13 else none) 4 9 = true by kernel_rfl]; decide)
    | 10, _, _, hx_, _ => exact ⟨hx_, fun h => absurd h (by simp), fun h => absurd h (by simp)⟩
    | 11, _, _, hx_, _ => exact ⟨hx_, fun h => absurd h (by simp), fun h => absurd h (by simp)⟩
    | 12, _, _, hx_, hd_ => exact (by
          obtain ⟨b_, rfl, hc_⟩ := hx_
          have hne_ : (v 0).ownBlock ≠ some b_ := hd_ 0 (by decide) (by decide) (by decide) (.inr ⟨rfl, by decide⟩)
          have hlt_ := lt_get hc_
          have hnn_ : v_.ownBlock ≠ some b_ := fun e_ => by
            rcases hk2_ b_ e_ with h_ | h_
            · exact hne_ h_
            · omega
          exact ⟨⟨b_, rfl, (hg2_.block b_ hlt_ (Ne.symm hne_)).trans hc_⟩, fun _ => hnn_, fun _ => Ne.symm hnn_⟩)
    | 13, _, hg_, _, _ => exact absurd hg_ (by rw [show RegC.gone (Reg.opsOf Try.f4 16) (fun i_ => if i_ = 0 then some 4 else if i_ = 4 then some 9 else if i_ = 9 then some 13 else if i_ = 12 then some 13 else none) 4 13 = true by kernel_rfl]; decide)
    | 14, _, hg_, _, _ => exact absurd hg_ (by rw [show RegC.gone (Reg.opsOf Try.f4 16) (fun i_ => if i_ = 0 then some 4 else if i_ = 4 then some 9 else if i_ = 9 then some 13 else if i_ = 12 then some 13 else none) 4 14 = true by kernel_rfl]; decide)
    | (j_ + 15), _, _, _, _ => exact ⟨trivial, fun h => absurd h (by simp), fun h => absurd h (by simp)⟩
set_option maxHeartbeats 4000000 in
set_option maxRecDepth 20000 in
theorem norder16_h5 :
    Reg.OpOK Try.prog (Reg.opsOf Try.f4 16) a0 w0 (norder16R nn cc kk fb B0 fn fc aa fA xs ff tt) (fun _ _ _ _ => True) 5 := by
    refine Reg.op_ok2 (fun af => { dst := some 79, op := Op.move (Operand.tmp 8), type := 35, pos := "outright.go:157", after := af, guard := none }) #[] (by kernel_rfl) [] (by kernel_rfl) fun af v W hb hd => ?_
    have e8 := (Reg.gfr_eval0 (ops := (Reg.opsOf Try.f4 16)) (a0 := a0) (v := v) (L := []) 8 (by kernel_rfl)).trans i8
    refine ⟨Reg.wanted_none rfl, ?_⟩
    generalize Reg.gfr (Reg.opsOf Try.f4 16) a0 v [] = G at e8 ⊢
    generalize hρ : G.eval = ρ at e8
    have hρ' : G.eval = ρ := hρ
    refine Reg.go_run (Value.slice (some aa) nn cc) W ?_ ?_
    · rw [hρ']; simp [execOp, go_sem, e8]
    · exact ⟨Below.refl _ _, rfl⟩
set_option maxHeartbeats 4000000 in
set_option maxRecDepth 20000 in
theorem norder16_h6 :
    Reg.OpOK Try.prog (Reg.opsOf Try.f4 16) a0 w0 (norder16R nn cc kk fb B0 fn fc aa fA xs ff tt) (fun _ _ _ _ => True) 6 := by
    refine Reg.op_ok2 (fun af => { dst := some 80, op := Op.move (Operand.tmp 10), type := 3, pos := "outright.go:157", after := af, guard := none }) #[] (by kernel_rfl) [] (by kernel_rfl) fun af v W hb hd => ?_
    have e10 := (Reg.gfr_eval0 (ops := (Reg.opsOf Try.f4 16)) (a0 := a0) (v := v) (L := []) 10 (by kernel_rfl)).trans i10
    refine ⟨Reg.wanted_none rfl, ?_⟩
    generalize Reg.gfr (Reg.opsOf Try.f4 16) a0 v [] = G at e10 ⊢
    generalize hρ : G.eval = ρ at e10
    have hρ' : G.eval = ρ := hρ
    refine Reg.go_run (Value.int IntKind.i64 (kk : Int)) W ?_ ?_
    · rw [hρ']; simp [execOp, go_sem, e10]
    · exact ⟨Below.refl _ _, rfl⟩
set_option maxHeartbeats 4000000 in
set_option maxRecDepth 20000 in
theorem norder16_h7 :
    Reg.OpOK Try.prog (Reg.opsOf Try.f4 16) a0 w0 (norder16R nn cc kk fb B0 fn fc aa fA xs ff tt) (fun _ _ _ _ => True) 7 := by
    refine Reg.op_ok2 (fun af => { dst := some 81, op := Op.binOp BinOp.add 3 (Operand.tmp 80) (Operand.const (Value.int IntKind.i64 1)) 3, type := 3, pos := "outright.go:157", after := af, guard := none }) #[{ on := 6, ground := Ground.data }] (by kernel_rfl) [6] (by kernel_rfl) fun af v W hb hd => ?_
    have d6 : v 6 = (Value.int IntKind.i64 (kk : Int)) := hd 6 (by decide)
    have e80 := (Reg.gfr_eval (ops := (Reg.opsOf Try.f4 16)) (a0 := a0) (v := v) (L := [6]) 80 6 (by kernel_rfl) (by rw [hsz]; omega)).trans d6
    refine ⟨Reg.wanted_none rfl, ?_⟩
    have eC : ∀ x, (Reg.gfr (Reg.opsOf Try.f4 16) a0 v [6]).eval (.const x) = x := fun _ => rfl
    generalize Reg.gfr (Reg.opsOf Try.f4 16) a0 v [6] = G at e80 eC ⊢
    generalize hρ : G.eval = ρ at e80 eC
    have hρ' : G.eval = ρ := hρ
    refine Reg.go_run (Value.int IntKind.i64 ((kk : Int) + 1)) W ?_ ?_
    · rw [hρ']; simp [execOp, go_sem, e80, eC, hwk]
    · exact ⟨Below.refl _ _, rfl⟩
set_option maxHeartbeats 4000000 in
set_option maxRecDepth 20000 in
theorem norder16_h8 :
    Reg.OpOK Try.prog (Reg.opsOf Try.f4 16) a0 w0 (norder16R nn cc kk fb B0 fn fc aa fA xs ff tt) (fun _ _ _ _ => True) 8 := by
    refine Reg.op_ok2 (fun af => { dst := some 82, op := Op.slice 35 (Operand.tmp 79) (some (Operand.tmp 81)) none none, type := 35, pos := "outright.go:157", after := af, guard := none }) #[{ on := 5, ground := Ground.data }, { on := 7, ground := Ground.data }] (by kernel_rfl) [5, 7] (by kernel_rfl) fun af v W hb hd => ?_
    have d5 : v 5 = (Value.slice (some aa) nn cc) := hd 5 (by decide)
    have d7 : v 7 = (Value.int IntKind.i64 ((kk : Int) + 1)) := hd 7 (by decide)
    have e79 := (Reg.gfr_eval (ops := (Reg.opsOf Try.f4 16)) (a0 := a0) (v := v) (L := [5, 7]) 79 5 (by kernel_rfl) (by rw [hsz]; omega)).trans d5
    have e81 := (Reg.gfr_eval (ops := (Reg.opsOf Try.f4 16)) (a0 := a0) (v := v) (L := [5, 7]) 81 7 (by kernel_rfl) (by rw [hsz]; omega)).trans d7
    refine ⟨Reg.wanted_none rfl, ?_⟩
    generalize Reg.gfr (Reg.opsOf Try.f4 16) a0 v [5, 7] = G at e79 e81 ⊢
    generalize hρ : G.eval = ρ at e79 e81
    have hρ' : G.eval = ρ := hρ
    refine Reg.go_run (Value.slice (subA (some aa) cc (kk + 1) 3) (nn - (kk + 1)) (cc - (kk + 1))) W ?_ ?_
    · rw [hρ']; simp [execOp, go_sem, e79, e81, hs8]
    · exact ⟨Below.refl _ _, rfl⟩
set_option maxHeartbeats 4000000 in
set_option maxRecDepth 20000 in
theorem norder16_h9 :
    RegC.OpOK Try.prog (Reg.opsOf Try.f4 16) a0 w0 (fun i_ => if i_ = 0 then some 4 else if i_ = 4 then some 9 else if i_ = 9 then some 13 else if i_ = 12 then some 13 else none) (norder16R nn cc kk fb B0 fn fc aa fA xs ff tt) (fun i_ j_ u_ x_ => (i_ = 12 ∧ j_ ∈ [0, 4, 9] ∨ j_ = 12 ∧ i_ ∈ [0, 4, 9]) → u_.ownBlock ≠ x_.ownBlock) 9 := by
    refine RegC.op_ok2 (fun af => { dst := some 83, op := Op.call { callee := Callee.builtin Builtin.append, args := #[Operand.tmp 78, Operand.tmp 82], argTypes := #[35, 35] }, type := 35, pos := "outright.go:157", after := af, guard := none }) #[{ on := 4, ground := Ground.data }, { on := 8, ground := Ground.data }, { on := 4, ground := Ground.chain }] (by kernel_rfl) [4, 8, 4] (by kernel_rfl) fun af v W hb hd => ?_
    have d4 : ((fun u_ w_ => w_.ownsRow B0 38 3 u_ (0 + kk) ([] ++ xs.take (kk * 3)))) (v 4) W := hd 4 (by decide) (by decide)
    have d8 : v 8 = (Value.slice (subA (some aa) cc (kk + 1) 3) (nn - (kk + 1)) (cc - (kk + 1))) := hd 8 (by decide) (by decide)
    have e78 := Reg.gfr_eval (ops := (Reg.opsOf Try.f4 16)) (a0 := a0) (v := v) (L := [4, 8, 4]) 78 4 (by kernel_rfl) (by rw [hsz]; omega)
    have e82 := (Reg.gfr_eval (ops := (Reg.opsOf Try.f4 16)) (a0 := a0) (v := v) (L := [4, 8, 4]) 82 8 (by kernel_rfl) (by rw [hsz]; omega)).trans d8
    refine ⟨Reg.wanted_none rfl, ?_⟩
    generalize Reg.gfr (Reg.opsOf Try.f4 16) a0 v [4, 8, 4] = G at e78 e82 ⊢
    generalize hρ : G.eval = ρ at e78 e82
    have hρ' : G.eval = ρ := hρ
    obtain ⟨v_, w_, hrun_, ho2_, hg2_, hk2_⟩ := run_app2 (P := Try.prog) elt38 35 W B0 (v 4) (0 + kk) ([] ++ xs.take (kk * 3)) d4 (subA (some aa) cc (kk + 1) 3) (nn - (kk + 1)) (cc - (kk + 1)) (xs.drop ((kk + 1) * 3)) (by first | (simp [hxl]; done) | (simp [hxl]; omega)) ((hrow W hb).drop cc (kk + 1) 3 (by rw [hxl]; omega)) (fun u_ hu_ => hx1 u_ (List.mem_of_mem_drop hu_)) (by unfold maxLen; omega) (by omega) (by rw [hB0]; exact hb.size)
    rw [appK_hide] at hrun_
    have hbk_ := d4.lt
    have hbb_ := hb.grown hg2_ hb.size (fun k_ hk_ => by have := (hbk_ k_ hk_).1; omega)
    refine Reg.go_run v_ w_ (by rw [hρ']; simp [execOp, go_sem, e78, e82, ↓appK_hide, hrun_]) ⟨hbb_, ho2_, ?_⟩
    refine fun j_ x_ hj_ hg_ hx_ hd_ => ?_
    match j_, hj_, hg_, hx_, hd_ with
    | 0, _, hg_, _, _ => exact absurd hg_ (by rw [show RegC.gone (Reg.opsOf Try.f4 16) (fun i_ => if i_ = 0 then some 4 else if i_ = 4 then some 9 else if i_ = 9 then some 13 else if i_ = 12 then some 13 else none) 9 0 = true by kernel_rfl]; decide)
    | 1, _, _, hx_, _ => exact ⟨hx_, fun h => absurd h (by simp), fun h => absurd h (by simp)⟩
    | 2, _, _, hx_, _ => exact ⟨hx_, fun h => absurd h (by simp), fun h => absurd h (by simp)⟩
    | 3, _, _, hx_, _ => exact ⟨hx_, fun h => absurd h (by simp), fun h => absurd h (by simp)⟩
    | 4, _, hg_, _, _ => exact absurd hg_ (by rw [show RegC.gone (Reg.opsOf Try.f4 16) (fun i_ => if i_ = 0 then some 4 else if i_ = 4 then some 9 else if i_ = 9 then some 13 else if i_ = 12 then some 13 else none) 9 4 = true by kernel_rfl]; decide)
    | 5, _, _, hx_, _ => exact ⟨hx_, fun h => absurd h (by simp), fun h => absurd h (by simp)⟩
    | 6, _, _, hx_, _ => exact ⟨hx_, fun h => absurd h (by simp), fun h => absurd h (by simp)⟩
    | 7, _, _, hx_, _ => exact ⟨hx_, fun h => absurd h (by simp), fun h => absurd h (by simp)⟩
    | 8, _, _, hx_, _ => exact ⟨hx_, fun h => absurd h (by simp), fun h => absurd h (by simp)⟩
    | 9, hj_, _, _, _ => exact absurd rfl hj_
    | 10, _, _, hx_, _ => exact ⟨hx_, fun h => absurd h (by simp), fun h => absurd h (by simp)⟩
    | 11, _, _, hx_, _ => exact ⟨hx_, fun h => absurd h (by simp), fun h => absurd h (by simp)⟩
    | 12, _, _, hx_, hd_ => exact (by
          obtain ⟨b_, rfl, hc_⟩ := hx_
          have hne_ : (v 4).ownBlock ≠ some b_ := hd_ 4 (by decide) (by decide) (by decide) (.inr ⟨rfl, by decide⟩)
          have hlt_ := lt_get hc_
          have hnn_ : v_.ownBlock ≠ some b_ := fun e_ => by
            rcases hk2_ b_ e_ with h_ | h_
            · exact hne_ h_
            · omega
          exact ⟨⟨b_, rfl, (hg2_.block b_ hlt_ (Ne.symm hne_)).trans hc_⟩, fun _ => hnn_, fun _ => Ne.symm hnn_⟩)
    | 13, _, hg_, _, _ => exact absurd hg_ (by rw [show RegC.gone (Reg.opsOf Try.f4 16) (fun i_ => if i_ = 0 then some 4 else if i_ = 4 then some 9 else if i_ = 9 then some 13 else if i_ = 12 then some 13 else none) 9 13 = true by kernel_rfl]; decide)
    | 14, _, hg_, _, _ => exact absurd hg_ (by rw [show RegC.gone (Reg.opsOf Try.f4 16) (fun i_ => if i_ = 0 then some 4 else if i_ = 4 then some 9 else if i_ = 9 then some 13 else if i_ = 12 then some 13 else none) 9 14 = true by kernel_rfl]; decide)
    | (j_ + 15), _, _, _, _ => exact ⟨trivial, fun h => absurd h (by simp), fun h => absurd h (by simp)⟩
set_option maxHeartbeats 4000000 in
set_option maxRecDepth 20000 in
theorem norder16_h10 :
    Reg.OpOK Try.prog (Reg.opsOf Try.f4 16) a0 w0 (norder16R nn cc kk fb B0 fn fc aa fA xs ff tt) (fun _ _ _ _ => True) 10 := by
    refine Reg.op_ok2 (fun af => { dst := some 84, op := Op.load 38 (Operand.tmp 11), type := 38, pos := "outright.go:157", after := af, guard := none }) #[] (by kernel_rfl) [] (by kernel_rfl) fun af v W hb hd => ?_
    have e11 := (Reg.gfr_eval0 (ops := (Reg.opsOf Try.f4 16)) (a0 := a0) (v := v) (L := []) 11 (by kernel_rfl)).trans i11
    refine ⟨Reg.wanted_none rfl, ?_⟩
    generalize Reg.gfr (Reg.opsOf Try.f4 16) a0 v [] = G at e11 ⊢
    generalize hρ : G.eval = ρ at e11
    have hρ' : G.eval = ρ := hρ
    exact fun K hK => wp_load_row 38 (.tmp 11) rfl fb (by rw [hρ']; exact e11) 38 #[Value.int IntKind.i64 ff, Value.int IntKind.i64 tt, Value.slice fA fn fc] (0, 0) _ (M_fb W hb) Try.underlying38 rfl size_fl3 (hK _ _ ⟨Below.refl _ _, rfl⟩)
set_option maxHeartbeats 4000000 in
set_option maxRecDepth 20000 in
theorem norder16_h11 :
    Reg.OpOK Try.prog (Reg.opsOf Try.f4 16) a0 w0 (norder16R nn cc kk fb B0 fn fc aa fA xs ff tt) (fun _ _ _ _ => True) 11 := by
    refine Reg.op_ok2 (fun af => { dst := some 85, op := Op.load 38 (Operand.tmp 11), type := 38, pos := "outright.go:157", after := af, guard := none }) #[] (by kernel_rfl) [] (by kernel_rfl) fun af v W hb hd => ?_
    have e11 := (Reg.gfr_eval0 (ops := (Reg.opsOf Try.f4 16)) (a0 := a0) (v := v) (L := []) 11 (by kernel_rfl)).trans i11
    refine ⟨Reg.wanted_none rfl, ?_⟩
    generalize Reg.gfr (Reg.opsOf Try.f4 16) a0 v [] = G at e11 ⊢
    generalize hρ : G.eval = ρ at e11
    have hρ' : G.eval = ρ := hρ
    exact fun K hK => wp_load_row 38 (.tmp 11) rfl fb (by rw [hρ']; exact e11) 38 #[Value.int IntKind.i64 ff, Value.int IntKind.i64 tt, Value.slice fA fn fc] (0, 0) _ (M_fb W hb) Try.underlying38 rfl size_fl3 (hK _ _ ⟨Below.refl _ _, rfl⟩)
set_option maxHeartbeats 4000000 in
set_option maxRecDepth 20000 in
theorem norder16_h12 :
    RegC.OpOK Try.prog (Reg.opsOf Try.f4 16) a0 w0 (fun i_ => if i_ = 0 then some 4 else if i_ = 4 then some 9 else if i_ = 9 then some 13 else if i_ = 12 then some 13 else none) (norder16R nn cc kk fb B0 fn fc aa fA xs ff tt) (fun i_ j_ u_ x_ => (i_ = 12 ∧ j_ ∈ [0, 4, 9] ∨ j_ = 12 ∧ i_ ∈ [0, 4, 9]) → u_.ownBlock ≠ x_.ownBlock) 12 := by
    refine RegC.op_ok2 (fun af => { dst := some 86, op := Op.buildSlice 35 2 #[(0, Operand.tmp 84), (1, Operand.tmp 85)], type := 35, pos := "outright.go:157", after := af, guard := none }) #[{ on := 10, ground := Ground.data }, { on := 11, ground := Ground.data }] (by kernel_rfl) [10, 11] (by kernel_rfl) fun af v W hb hd => ?_
    have d10 : v 10 = (Value.agg #[Value.int IntKind.i64 ff, Value.int IntKind.i64 tt, Value.slice fA fn fc]) := hd 10 (by decide) (by decide)
    have d11 : v 11 = (Value.agg #[Value.int IntKind.i64 ff, Value.int IntKind.i64 tt, Value.slice fA fn fc]) := hd 11 (by decide) (by decide)
    have e84 := (Reg.gfr_eval (ops := (Reg.opsOf Try.f4 16)) (a0 := a0) (v := v) (L := [10, 11]) 84 10 (by kernel_rfl) (by rw [hsz]; omega)).trans d10
    have e85 := (Reg.gfr_eval (ops := (Reg.opsOf Try.f4 16)) (a0 := a0) (v := v) (L := [10, 11]) 85 11 (by kernel_rfl) (by rw [hsz]; omega)).trans d11
    refine ⟨Reg.wanted_none rfl, ?_⟩
    generalize Reg.gfr (Reg.opsOf Try.f4 16) a0 v [10, 11] = G at e84 e85 ⊢
    generalize hρ : G.eval = ρ at e84 e85
    have hρ' : G.eval = ρ := hρ
    have hbn_ : Below W.heap.size W (W.alloc (.cells #[Value.int IntKind.i64 ff, Value.int IntKind.i64 tt, Value.slice fA fn fc, Value.int IntKind.i64 ff, Value.int IntKind.i64 tt, Value.slice fA fn fc] 38)) := (Below.refl _ _).alloc (Nat.le_refl _) _
    refine Reg.go_run (Value.slice (some ⟨W.heap.size, 0, none⟩) 2 2) (W.alloc (.cells #[Value.int IntKind.i64 ff, Value.int IntKind.i64 tt, Value.slice fA fn fc, Value.int IntKind.i64 ff, Value.int IntKind.i64 tt, Value.slice fA fn fc] 38)) (by rw [hρ']; simp [execOp, go_sem, e84, e85]) ⟨below_then hb hbn_ (Nat.le_refl _), ⟨_, rfl, heap_alloc_new _ _⟩, ?_⟩
    refine fun j_ x_ hj_ hg_ hx_ hd_ => ?_
    match j_, hj_, hg_, hx_, hd_ with
    | 0, _, _, hx_, hd_ => exact (by
          have hnn_ : (Value.slice (some ⟨W.heap.size, 0, none⟩) 2 2).ownBlock ≠ x_.ownBlock := fun e_ => by
            have := ((World.ownsRow.lt hx_) W.heap.size e_.symm).2
            omega
          exact ⟨own_below hx_ hbn_, fun _ => hnn_, fun _ => Ne.symm hnn_⟩)
    | 1, _, _, hx_, _ => exact ⟨hx_, fun h => absurd h (by simp), fun h => absurd h (by simp)⟩
    | 2, _, _, hx_, _ => exact ⟨hx_, fun h => absurd h (by simp), fun h => absurd h (by simp)⟩
    | 3, _, _, hx_, _ => exact ⟨hx_, fun h => absurd h (by simp), fun h => absurd h (by simp)⟩
    | 4, _, _, hx_, hd_ => exact (by
          have hnn_ : (Value.slice (some ⟨W.heap.size, 0, none⟩) 2 2).ownBlock ≠ x_.ownBlock := fun e_ => by
            have := ((World.ownsRow.lt hx_) W.heap.size e_.symm).2
            omega
          exact ⟨own_below hx_ hbn_, fun _ => hnn_, fun _ => Ne.symm hnn_⟩)
    | 5, _, _, hx_, _ => exact ⟨hx_, fun h => absurd h (by simp), fun h => absurd h (by simp)⟩
    | 6, _, _, hx_, _ => exact ⟨hx_, fun h => absurd h (by simp), fun h => absurd h (by simp)⟩
    | 7, _, _, hx_, _ => exact ⟨hx_, fun h => absurd h (by simp), fun h => absurd h (by simp)⟩
    | 8, _, _, hx_, _ => exact ⟨hx_, fun h => absurd h (by simp), fun h => absurd h (by simp)⟩
    | 9, _, _, hx_, hd_ => exact (by
          have hnn_ : (Value.slice (some ⟨W.heap.size, 0, none⟩) 2 2).ownBlock ≠ x_.ownBlock := fun e_ => by
            have := ((World.ownsRow.lt hx_) W.heap.size e_.symm).2
            omega
          exact ⟨own_below hx_ hbn_, fun _ => hnn_, fun _ => Ne.symm hnn_⟩)
    | 10, _, _, hx_, _ => exact ⟨hx_, fun h => absurd h (by simp), fun h => absurd h (by simp)⟩
    | 11, _, _, hx_, _ => exact ⟨hx_, fun h => absurd h (by simp), fun h => absurd h (by simp)⟩
    | 12, hj_, _, _, _ => exact absurd rfl hj_
    | 13, _, hg_, _, _ => exact absurd hg_ (by rw [show RegC.gone (Reg.opsOf Try.f4 16) (fun i_ => if i_ = 0 then some 4 else if i_ = 4 then some 9 else if i_ = 9 then some 13 else if i_ = 12 then some 13 else none) 12 13 = true by kernel_rfl]; decide)
    | 14, _, hg_, _, _ => exact absurd hg_ (by rw [show RegC.gone (Reg.opsOf Try.f4 16) (fun i_ => if i_ = 0 then some 4 else if i_ = 4 then some 9 else if i_ = 9 then some 13 else if i_ = 12 then some 13 else none) 12 14 = true by kernel_rfl]; decide)
    | (j_ + 15), _, _, _, _ => exact ⟨trivial, fun h => absurd h (by simp), fun h => absurd h (by simp)⟩
set_option maxHeartbeats 4000000 in
set_option maxRecDepth 20000 in
theorem norder16_h13 :
    RegC.OpOK Try.prog (Reg.opsOf Try.f4 16) a0 w0 (fun i_ => if i_ = 0 then some 4 else if i_ = 4 then some 9 else if i_ = 9 then some 13 else if i_ = 12 then some 13 else none) (norder16R nn cc kk fb B0 fn fc aa fA xs ff tt) (fun i_ j_ u_ x_ => (i_ = 12 ∧ j_ ∈ [0, 4, 9] ∨ j_ = 12 ∧ i_ ∈ [0, 4, 9]) → u_.ownBlock ≠ x_.ownBlock) 13 := by
    refine RegC.op_ok2 (fun af => { dst := some 87, op := Op.call { callee := Callee.builtin Builtin.append, args := #[Operand.tmp 83, Operand.tmp 86], argTypes := #[35, 35] }, type := 35, pos := "outright.go:157", after := af, guard := none }) #[{ on := 9, ground := Ground.data }, { on := 12, ground := Ground.data }, { on := 9, ground := Ground.chain }] (by kernel_rfl) [9, 12, 9] (by kernel_rfl) fun af v W hb hd => ?_
    have d9 : ((fun u_ w_ => w_.ownsRow B0 38 3 u_ (0 + kk + (nn - (kk + 1))) ([] ++ xs.take (kk * 3) ++ xs.drop ((kk + 1) * 3)))) (v 9) W := hd 9 (by decide) (by decide)
    have d12 : ((fun u_ w_ => ∃ b_, u_ = Value.slice (some ⟨b_, 0, none⟩) 2 2 ∧ w_.heap[b_]? = some (.cells #[Value.int IntKind.i64 ff, Value.int IntKind.i64 tt, Value.slice fA fn fc, Value.int IntKind.i64 ff, Value.int IntKind.i64 tt, Value.slice fA fn fc] 38 (0, 0)))) (v 12) W := hd 12 (by decide) (by decide)
    have e83 := Reg.gfr_eval (ops := (Reg.opsOf Try.f4 16)) (a0 := a0) (v := v) (L := [9, 12, 9]) 83 9 (by kernel_rfl) (by rw [hsz]; omega)
    have e86 := Reg.gfr_eval (ops := (Reg.opsOf Try.f4 16)) (a0 := a0) (v := v) (L := [9, 12, 9]) 86 12 (by kernel_rfl) (by rw [hsz]; omega)
    refine ⟨Reg.wanted_none rfl, ?_⟩
    generalize Reg.gfr (Reg.opsOf Try.f4 16) a0 v [9, 12, 9] = G at e83 e86 ⊢
    generalize hρ : G.eval = ρ at e83 e86
    have hρ' : G.eval = ρ := hρ
    obtain ⟨bn_, hv12_, hc12_⟩ := d12
    rw [hv12_] at e86
    obtain ⟨v_, w_, hrun_, ho2_, hg2_, hk2_⟩ := run_app2 (P := Try.prog) elt38 35 W B0 (v 9) (0 + kk + (nn - (kk + 1))) ([] ++ xs.take (kk * 3) ++ xs.drop ((kk + 1) * 3)) d9 (some ⟨bn_, 0, none⟩) 2 2 [Value.int IntKind.i64 ff, Value.int IntKind.i64 tt, Value.slice fA fn fc, Value.int IntKind.i64 ff, Value.int IntKind.i64 tt, Value.slice fA fn fc] (by first | (simp [hxl]; done) | (simp [hxl]; omega)) (rd_lits hc12_) (by simp [Value.oneCell']) (by unfold maxLen; omega) (by omega) (by rw [hB0]; exact hb.size)
    rw [appK_hide] at hrun_
    have hbk_ := d9.lt
    have hbb_ := hb.grown hg2_ hb.size (fun k_ hk_ => by have := (hbk_ k_ hk_).1; omega)
    refine Reg.go_run v_ w_ (by rw [hρ']; simp [execOp, go_sem, e83, e86, ↓appK_hide, hrun_]) ⟨hbb_, ho2_, ?_⟩
    refine fun j_ x_ hj_ hg_ hx_ hd_ => ?_
    match j_, hj_, hg_, hx_, hd_ with
    | 0, _, hg_, _, _ => exact absurd hg_ (by rw [show RegC.gone (Reg.opsOf Try.f4 16) (fun i_ => if i_ = 0 then some 4 else if i_ = 4 then some 9 else if i_ = 9 then some 13 else if i_ = 12 then some 13 else none) 13 0 = true by kernel_rfl]; decide)
    | 1, _, _, hx_, _ => exact ⟨hx_, fun h => absurd h (by simp), fun h => absurd h (by simp)⟩
    | 2, _, _, hx_, _ => exact ⟨hx_, fun h => absurd h (by simp), fun h => absurd h (by simp)⟩
    | 3, _, _, hx_, _ => exact ⟨hx_, fun h => absurd h (by simp), fun h => absurd h (by simp)⟩
    | 4, _, hg_, _, _ => exact absurd hg_ (by rw [show RegC.gone (Reg.opsOf Try.f4 16) (fun i_ => if i_ = 0 then some 4 else if i_ = 4 then some 9 else if i_ = 9 then some 13 else if i_ = 12 then some 13 else none) 13 4 = true by kernel_rfl]; decide)
    | 5, _, _, hx_, _ => exact ⟨hx_, fun h => absurd h (by simp), fun h => absurd h (by simp)⟩
    | 6, _, _, hx_, _ => exact ⟨hx_, fun h => absurd h (by simp), fun h => absurd h (by simp)⟩
    | 7, _, _, hx_, _ => exact ⟨hx_, fun h => absurd h (by simp), fun h => absurd h (by simp)⟩
    | 8, _, _, hx_, _ => exact ⟨hx_, fun h => absurd h (by simp), fun h => absurd h (by simp)⟩
    | 9, _, hg_, _, _ => exact absurd hg_ (by rw [show RegC.gone (Reg.opsOf Try.f4 16) (fun i_ => if i_ = 0 then some 4 else if i_ = 4 then some 9 else if i_ = 9 then some 13 else if i_ = 12 then some 13 else none) 13 9 = true by kernel_rfl]; decide)
    | 10, _, _, hx_, _ => exact ⟨hx_, fun h => absurd h (by simp), fun h => absurd h (by simp)⟩
    | 11, _, _, hx_, _ => exact ⟨hx_, fun h => absurd h (by simp), fun h => absurd h (by simp)⟩
    | 12, _, hg_, _, _ => exact absurd hg_ (by rw [show RegC.gone (Reg.opsOf Try.f4 16) (fun i_ => if i_ = 0 then some 4 else if i_ = 4 then some 9 else if i_ = 9 then some 13 else if i_ = 12 then some 13 else none) 13 12 = true by kernel_rfl]; decide)
    | 13, hj_, _, _, _ => exact absurd rfl hj_
    | 14, _, hg_, _, _ => exact absurd hg_ (by rw [show RegC.gone (Reg.opsOf Try.f4 16) (fun i_ => if i_ = 0 then some 4 else if i_ = 4 then some 9 else if i_ = 9 then some 13 else if i_ = 12 then some 13 else none) 13 14 = true by kernel_rfl]; decide)
    | (j_ + 15), _, _, _, _ => exact ⟨trivial, fun h => absurd h (by simp), fun h => absurd h (by simp)⟩
set_option maxHeartbeats 4000000 in
set_option maxRecDepth 20000 in
theorem norder16_h14 :
    RegC.OpOK Try.prog (Reg.opsOf Try.f4 16) a0 w0 (fun i_ => if i_ = 0 then some 4 else if i_ = 4 then some 9 else if i_ = 9 then some 13 else if i_ = 12 then some 13 else none) (norder16R nn cc kk fb B0 fn fc aa fA xs ff tt) (fun i_ j_ u_ x_ => (i_ = 12 ∧ j_ ∈ [0, 4, 9] ∨ j_ = 12 ∧ i_ ∈ [0, 4, 9]) → u_.ownBlock ≠ x_.ownBlock) 14 := by
    refine RegC.op_ok2 (fun af => { dst := some 8, op := Op.assign (Operand.tmp 87), type := 35, pos := "outright.go:157", after := af, guard := none }) #[{ on := 13, ground := Ground.data }, { on := 13, ground := Ground.chain }, { on := 0, ground := Ground.phase }, { on := 1, ground := Ground.phase }, { on := 2, ground := Ground.phase }, { on := 3, ground := Ground.phase }, { on := 4, ground := Ground.phase }, { on := 5, ground := Ground.phase }, { on := 6, ground := Ground.phase }, { on := 7, ground := Ground.phase }, { on := 8, ground := Ground.phase }, { on := 9, ground := Ground.phase }, { on := 10, ground := Ground.phase }, { on := 11, ground := Ground.phase }, { on := 12, ground := Ground.phase }, { on := 13, ground := Ground.phase }] (by kernel_rfl) [13, 13, 0, 1, 2, 3, 4, 5, 6, 7, 8, 9, 10, 11, 12, 13] (by kernel_rfl) fun af v W hb hd => ?_
    have d13 : ((fun u_ w_ => w_.ownsRow B0 38 3 u_ (0 + kk + (nn - (kk + 1)) + 2) ([] ++ xs.take (kk * 3) ++ xs.drop ((kk + 1) * 3) ++ [Value.int IntKind.i64 ff, Value.int IntKind.i64 tt, Value.slice fA fn fc, Value.int IntKind.i64 ff, Value.int IntKind.i64 tt, Value.slice fA fn fc]))) (v 13) W := hd 13 (by decide) (by decide)
    have e87 := Reg.gfr_eval (ops := (Reg.opsOf Try.f4 16)) (a0 := a0) (v := v) (L := [13, 13, 0, 1, 2, 3, 4, 5, 6, 7, 8, 9, 10, 11, 12, 13]) 87 13 (by kernel_rfl) (by rw [hsz]; omega)
    refine ⟨Reg.wanted_none rfl, ?_⟩
    generalize Reg.gfr (Reg.opsOf Try.f4 16) a0 v [13, 13, 0, 1, 2, 3, 4, 5, 6, 7, 8, 9, 10, 11, 12, 13] = G at e87 ⊢
    generalize hρ : G.eval = ρ at e87
    have hρ' : G.eval = ρ := hρ
    refine Reg.go_run _ W (by rw [hρ']; simp [execOp, go_sem, e87]) ⟨hb, d13, ?_⟩
    refine fun j_ x_ hj_ hg_ hx_ hd_ => ?_
    match j_, hj_, hg_, hx_, hd_ with
    | 0, _, hg_, _, _ => exact absurd hg_ (by rw [show RegC.gone (Reg.opsOf Try.f4 16) (fun i_ => if i_ = 0 then some 4 else if i_ = 4 then some 9 else if i_ = 9 then some 13 else if i_ = 12 then some 13 else none) 14 0 = true by kernel_rfl]; decide)
    | 1, _, _, hx_, _ => exact ⟨hx_, fun h => absurd h (by simp), fun h => absurd h (by simp)⟩
    | 2, _, _, hx_, _ => exact ⟨hx_, fun h => absurd h (by simp), fun h => absurd h (by simp)⟩
    | 3, _, _, hx_, _ => exact ⟨hx_, fun h => absurd h (by simp), fun h => absurd h (by simp)⟩
    | 4, _, hg_, _, _ => exact absurd hg_ (by rw [show RegC.gone (Reg.opsOf Try.f4 16) (fun i_ => if i_ = 0 then some 4 else if i_ = 4 then some 9 else if i_ = 9 then some 13 else if i_ = 12 then some 13 else none) 14 4 = true by kernel_rfl]; decide)
    | 5, _, _, hx_, _ => exact ⟨hx_, fun h => absurd h (by simp), fun h => absurd h (by simp)⟩
    | 6, _, _, hx_, _ => exact ⟨hx_, fun h => absurd h (by simp), fun h => absurd h (by simp)⟩
    | 7, _, _, hx_, _ => exact ⟨hx_, fun h => absurd h (by simp), fun h => absurd h (by simp)⟩
    | 8, _, _, hx_, _ => exact ⟨hx_, fun h => absurd h (by simp), fun h => absurd h (by simp)⟩
    | 9, _, hg_, _, _ => exact absurd hg_ (by rw [show RegC.gone (Reg.opsOf Try.f4 16) (fun i_ => if i_ = 0 then some 4 else if i_ = 4 then some 9 else if i_ = 9 then some 13 else if i_ = 12 then some 13 else none) 14 9 = true by kernel_rfl]; decide)
    | 10, _, _, hx_, _ => exact ⟨hx_, fun h => absurd h (by simp), fun h => absurd h (by simp)⟩
    | 11, _, _, hx_, _ => exact ⟨hx_, fun h => absurd h (by simp), fun h => absurd h (by simp)⟩
    | 12, _, hg_, _, _ => exact absurd hg_ (by rw [show RegC.gone (Reg.opsOf Try.f4 16) (fun i_ => if i_ = 0 then some 4 else if i_ = 4 then some 9 else if i_ = 9 then some 13 else if i_ = 12 then some 13 else none) 14 12 = true by kernel_rfl]; decide)
    | 13, _, _, hx_, _ => exact ⟨hx_, fun h => absurd h (by simp), fun h => absurd h (by simp)⟩
    | 14, hj_, _, _, _ => exact absurd rfl hj_
    | (j_ + 15), _, _, _, _ => exact ⟨trivial, fun h => absurd h (by simp), fun h => absurd h (by simp)⟩
end
set_option maxHeartbeats 4000000 in
set_option maxRecDepth 20000 in
theorem norder16 (nn cc kk fb B0 fn fc : Nat) (aa : Addr) (fA : Option Addr) (xs : List Value) (ff tt : Int) (w0 : World) {s0 s1 s2 s3 s4 s5 s6 s7 s9 s12 s13 s14 s15 s16 s17 s18 s19 s20 s21 s22 s23 s24 s25 s26 s27 s28 s29 s30 s31 s32 s33 s34 s35 s36 s37 s38 s39 s40 s41 s42 s43 s44 s45 s46 s47 s48 s49 s50 s51 s52 s53 s54 s55 s56 s57 s58 s59 s60 s61 s62 s63 s64 s65 s66 s67 s68 s69 s70 s71 s72 s73 s74 s75 s76 s77 s78 s79 s80 s81 s82 s83 s84 s85 s86 s87 s88 s89 s90 s91 s92 s93 s94 s95 s96 s97 s98 s99 s100 s101 s102 s103 s104 s105 s106 s107 s108 s109 s110 s111 s112 s113 s114 s115 s116 s117 s118 s119 s120 s121 s122 s123 s124 s125 s126 s127 s128 s129 s130 s131 s132 s133 s134 s135 s136 s137 s138 s139 s140 s141 : Value}
    (hB0 : B0 = w0.heap.size) (hxl : xs.length = nn * 3) (hnn : nn ≤ 1000) (hkk : kk < nn) (hncc : nn ≤ cc) (hccm : cc ≤ maxLen)
    (hx1 : ∀ u ∈ xs, u.oneCell' = true)
    (hrow : ∀ W, Below w0.heap.size w0 W → RdC W (some aa) xs)
    (hwk : IntKind.i64.wrap ((kk : Int) + 1) = (kk : Int) + 1)
    (hs3 : ∀ W : World, (Instr.slice 35 (.slice (some aa) nn cc) none (some (.int .i64 (kk : Int))) none).run Try.prog W = .ok (.slice (some aa) kk cc) W)
    (hs8 : ∀ W : World, (Instr.slice 35 (.slice (some aa) nn cc) (some (.int .i64 ((kk : Int) + 1))) none none).run Try.prog W = .ok (.slice (subA (some aa) cc (kk + 1) 3) (nn - (kk + 1)) (cc - (kk + 1))) W)
    (M_fb : ∀ W, Below w0.heap.size w0 W → W.heap[fb]? = some (.cells #[Value.int IntKind.i64 ff, Value.int IntKind.i64 tt, Value.slice fA fn fc] 38 (0, 0)))
    {Q : Exit → Act → World → Prop}
    (hend : ∀ (w : World) (r8 r74 r78 r83 r86 r87 : Value), Below w0.heap.size w0 w → ((fun u_ w_ => w_.ownsRow B0 38 3 u_ (0 + kk + (nn - (kk + 1)) + 2) ([] ++ xs.take (kk * 3) ++ xs.drop ((kk + 1) * 3) ++ [Value.int IntKind.i64 ff, Value.int IntKind.i64 tt, Value.slice fA fn fc, Value.int IntKind.i64 ff, Value.int IntKind.i64 tt, Value.slice fA fn fc]))) r8 w → Q .normal { tmps := #[s0, s1, s2, s3, s4, s5, s6, s7, r8, s9, (Value.int IntKind.i64 (kk : Int)), (Value.pointer (some ⟨fb, 0, none⟩)), s12, s13, s14, s15, s16, s17, s18, s19, s20, s21, s22, s23, s24, s25, s26, s27, s28, s29, s30, s31, s32, s33, s34, s35, s36, s37, s38, s39, s40, s41, s42, s43, s44, s45, s46, s47, s48, s49, s50, s51, s52, s53, s54, s55, s56, s57, s58, s59, s60, s61, s62, s63, s64, s65, s66, s67, s68, s69, s70, s71, s72, s73, r74, (Value.slice (some aa) nn cc), (Value.int IntKind.i64 (kk : Int)), (Value.slice (some aa) kk cc), r78, (Value.slice (some aa) nn cc), (Value.int IntKind.i64 (kk : Int)), (Value.int IntKind.i64 ((kk : Int) + 1)), (Value.slice (subA (some aa) cc (kk + 1) 3) (nn - (kk + 1)) (cc - (kk + 1))), r83, (Value.agg #[Value.int IntKind.i64 ff, Value.int IntKind.i64 tt, Value.slice fA fn fc]), (Value.agg #[Value.int IntKind.i64 ff, Value.int IntKind.i64 tt, Value.slice fA fn fc]), r86, r87, s88, s89, s90, s91, s92, s93, s94, s95, s96, s97, s98, s99, s100, s101, s102, s103, s104, s105, s106, s107, s108, s109, s110, s111, s112, s113, s114, s115, s116, s117, s118, s119, s120, s121, s122, s123, s124, s125, s126, s127, s128, s129, s130, s131, s132, s133, s134, s135, s136, s137, s138, s139, s140, s141], defers := [] } w) :
    (Code.region 16 (Reg.opsOf Try.f4 16) true).wp Try.prog Q { tmps := #[s0, s1, s2, s3, s4, s5, s6, s7, (Value.slice (some aa) nn cc), s9, (Value.int IntKind.i64 (kk : Int)), (Value.pointer (some ⟨fb, 0, none⟩)), s12, s13, s14, s15, s16, s17, s18, s19, s20, s21, s22, s23, s24, s25, s26, s27, s28, s29, s30, s31, s32, s33, s34, s35, s36, s37, s38, s39, s40, s41, s42, s43, s44, s45, s46, s47, s48, s49, s50, s51, s52, s53, s54, s55, s56, s57, s58, s59, s60, s61, s62, s63, s64, s65, s66, s67, s68, s69, s70, s71, s72, s73, s74, s75, s76, s77, s78, s79, s80, s81, s82, s83, s84, s85, s86, s87, s88, s89, s90, s91, s92, s93, s94, s95, s96, s97, s98, s99, s100, s101, s102, s103, s104, s105, s106, s107, s108, s109, s110, s111, s112, s113, s114, s115, s116, s117, s118, s119, s120, s121, s122, s123, s124, s125, s126, s127, s128, s129, s130, s131, s132, s133, s134, s135, s136, s137, s138, s139, s140, s141], defers := [] } w0 := by
  obtain ⟨a0, ha0⟩ : ∃ a0 : Act, a0 = { tmps := #[s0, s1, s2, s3, s4, s5, s6, s7, (Value.slice (some aa) nn cc), s9, (Value.int IntKind.i64 (kk : Int)), (Value.pointer (some ⟨fb, 0, none⟩)), s12, s13, s14, s15, s16, s17, s18, s19, s20, s21, s22, s23, s24, s25, s26, s27, s28, s29, s30, s31, s32, s33, s34, s35, s36, s37, s38, s39, s40, s41, s42, s43, s44, s45, s46, s47, s48, s49, s50, s51, s52, s53, s54, s55, s56, s57, s58, s59, s60, s61, s62, s63, s64, s65, s66, s67, s68, s69, s70, s71, s72, s73, s74, s75, s76, s77, s78, s79, s80, s81, s82, s83, s84, s85, s86, s87, s88, s89, s90, s91, s92, s93, s94, s95, s96, s97, s98, s99, s100, s101, s102, s103, s104, s105, s106, s107, s108, s109, s110, s111, s112, s113, s114, s115, s116, s117, s118, s119, s120, s121, s122, s123, s124, s125, s126, s127, s128, s129, s130, s131, s132, s133, s134, s135, s136, s137, s138, s139, s140, s141], defers := [] } := ⟨_, rfl⟩
  have hfin : ∀ v : Nat → Value, Reg.gfr (Reg.opsOf Try.f4 16) a0 v (List.range 15) = { tmps := #[s0, s1, s2, s3, s4, s5, s6, s7, v 14, s9, (Value.int IntKind.i64 (kk : Int)), (Value.pointer (some ⟨fb, 0, none⟩)), s12, s13, s14, s15, s16, s17, s18, s19, s20, s21, s22, s23, s24, s25, s26, s27, s28, s29, s30, s31, s32, s33, s34, s35, s36, s37, s38, s39, s40, s41, s42, s43, s44, s45, s46, s47, s48, s49, s50, s51, s52, s53, s54, s55, s56, s57, s58, s59, s60, s61, s62, s63, s64, s65, s66, s67, s68, s69, s70, s71, s72, s73, v 0, v 1, v 2, v 3, v 4, v 5, v 6, v 7, v 8, v 9, v 10, v 11, v 12, v 13, s88, s89, s90, s91, s92, s93, s94, s95, s96, s97, s98, s99, s100, s101, s102, s103, s104, s105, s106, s107, s108, s109, s110, s111, s112, s113, s114, s115, s116, s117, s118, s119, s120, s121, s122, s123, s124, s125, s126, s127, s128, s129, s130, s131, s132, s133, s134, s135, s136, s137, s138, s139, s140, s141], defers := [] } := fun v => by rw [ha0]; kernel_rfl
  rw [← ha0]
  have i8 : a0.eval (.tmp 8) = (Value.slice (some aa) nn cc) := by rw [ha0]; rfl
  have i10 : a0.eval (.tmp 10) = (Value.int IntKind.i64 (kk : Int)) := by rw [ha0]; rfl
  have i11 : a0.eval (.tmp 11) = (Value.pointer (some ⟨fb, 0, none⟩)) := by rw [ha0]; rfl
  have hsz : a0.tmps.size = 142 := by rw [ha0]; rfl
  clear ha0
  have hn : (Reg.opsOf Try.f4 16).size = 15 := by kernel_rfl
  have h0 := norder16_h0 nn cc kk fb B0 fn fc aa fA xs ff tt w0 a0 hB0 hxl hnn hkk hncc hccm hx1 hrow hwk hs3 hs8 M_fb i8 i10 i11 hsz
  have h1 := norder16_h1 nn cc kk fb B0 fn fc aa fA xs ff tt w0 a0 hB0 hxl hnn hkk hncc hccm hx1 hrow hwk hs3 hs8 M_fb i8 i10 i11 hsz
  have h2 := norder16_h2 nn cc kk fb B0 fn fc aa fA xs ff tt w0 a0 hB0 hxl hnn hkk hncc hccm hx1 hrow hwk hs3 hs8 M_fb i8 i10 i11 hsz
  have h3 := norder16_h3 nn cc kk fb B0 fn fc aa fA xs ff tt w0 a0 hB0 hxl hnn hkk hncc hccm hx1 hrow hwk hs3 hs8 M_fb i8 i10 i11 hsz
  have h4 := norder16_h4 nn cc kk fb B0 fn fc aa fA xs ff tt w0 a0 hB0 hxl hnn hkk hncc hccm hx1 hrow hwk hs3 hs8 M_fb i8 i10 i11 hsz
  have h5 := norder16_h5 nn cc kk fb B0 fn fc aa fA xs ff tt w0 a0 hB0 hxl hnn hkk hncc hccm hx1 hrow hwk hs3 hs8 M_fb i8 i10 i11 hsz
  have h6 := norder16_h6 nn cc kk fb B0 fn fc aa fA xs ff tt w0 a0 hB0 hxl hnn hkk hncc hccm hx1 hrow hwk hs3 hs8 M_fb i8 i10 i11 hsz
  have h7 := norder16_h7 nn cc kk fb B0 fn fc aa fA xs ff tt w0 a0 hB0 hxl hnn hkk hncc hccm hx1 hrow hwk hs3 hs8 M_fb i8 i10 i11 hsz
  have h8 := norder16_h8 nn cc kk fb B0 fn fc aa fA xs ff tt w0 a0 hB0 hxl hnn hkk hncc hccm hx1 hrow hwk hs3 hs8 M_fb i8 i10 i11 hsz
  have h9 := norder16_h9 nn cc kk fb B0 fn fc aa fA xs ff tt w0 a0 hB0 hxl hnn hkk hncc hccm hx1 hrow hwk hs3 hs8 M_fb i8 i10 i11 hsz
  have h10 := norder16_h10 nn cc kk fb B0 fn fc aa fA xs ff tt w0 a0 hB0 hxl hnn hkk hncc hccm hx1 hrow hwk hs3 hs8 M_fb i8 i10 i11 hsz
  have h11 := norder16_h11 nn cc kk fb B0 fn fc aa fA xs ff tt w0 a0 hB0 hxl hnn hkk hncc hccm hx1 hrow hwk hs3 hs8 M_fb i8 i10 i11 hsz
  have h12 := norder16_h12 nn cc kk fb B0 fn fc aa fA xs ff tt w0 a0 hB0 hxl hnn hkk hncc hccm hx1 hrow hwk hs3 hs8 M_fb i8 i10 i11 hsz
  have h13 := norder16_h13 nn cc kk fb B0 fn fc aa fA xs ff tt w0 a0 hB0 hxl hnn hkk hncc hccm hx1 hrow hwk hs3 hs8 M_fb i8 i10 i11 hsz
  have h14 := norder16_h14 nn cc kk fb B0 fn fc aa fA xs ff tt w0 a0 hB0 hxl hnn hkk hncc hccm hx1 hrow hwk hs3 hs8 M_fb i8 i10 i11 hsz
  refine RegC.region_all (by kernel_rfl) (fun i_ => if i_ = 0 then some 4 else if i_ = 4 then some 9 else if i_ = 9 then some 13 else if i_ = 12 then some 13 else none) (norder16R nn cc kk fb B0 fn fc aa fA xs ff tt) (fun i_ j_ u_ x_ => (i_ = 12 ∧ j_ ∈ [0, 4, 9] ∨ j_ = 12 ∧ i_ ∈ [0, 4, 9]) → u_.ownBlock ≠ x_.ownBlock) (by rw [hn, hsz]; kernel_rfl) (fun i hi => ?_) (fun v w hb hR => ?_)
  · rw [hn] at hi
    match i, List.mem_range.1 hi with
    | 0, _ => exact h0
    | 1, _ => exact RegC.of_old (by kernel_rfl) (norder16_stable nn cc kk fb B0 fn fc aa fA xs ff tt) (fun j u x => ⟨fun h => absurd h (by simp), fun h => absurd h (by simp)⟩) h1
    | 2, _ => exact RegC.of_old (by kernel_rfl) (norder16_stable nn cc kk fb B0 fn fc aa fA xs ff tt) (fun j u x => ⟨fun h => absurd h (by simp), fun h => absurd h (by simp)⟩) h2
    | 3, _ => exact RegC.of_old (by kernel_rfl) (norder16_stable nn cc kk fb B0 fn fc aa fA xs ff tt) (fun j u x => ⟨fun h => absurd h (by simp), fun h => absurd h (by simp)⟩) h3
    | 4, _ => exact h4
    | 5, _ => exact RegC.of_old (by kernel_rfl) (norder16_stable nn cc kk fb B0 fn fc aa fA xs ff tt) (fun j u x => ⟨fun h => absurd h (by simp), fun h => absurd h (by simp)⟩) h5
    | 6, _ => exact RegC.of_old (by kernel_rfl) (norder16_stable nn cc kk fb B0 fn fc aa fA xs ff tt) (fun j u x => ⟨fun h => absurd h (by simp), fun h => absurd h (by simp)⟩) h6
    | 7, _ => exact RegC.of_old (by kernel_rfl) (norder16_stable nn cc kk fb B0 fn fc aa fA xs ff tt) (fun j u x => ⟨fun h => absurd h (by simp), fun h => absurd h (by simp)⟩) h7
    | 8, _ => exact RegC.of_old (by kernel_rfl) (norder16_stable nn cc kk fb B0 fn fc aa fA xs ff tt) (fun j u x => ⟨fun h => absurd h (by simp), fun h => absurd h (by simp)⟩) h8
    | 9, _ => exact h9
    | 10, _ => exact RegC.of_old (by kernel_rfl) (norder16_stable nn cc kk fb B0 fn fc aa fA xs ff tt) (fun j u x => ⟨fun h => absurd h (by simp), fun h => absurd h (by simp)⟩) h10
    | 11, _ => exact RegC.of_old (by kernel_rfl) (norder16_stable nn cc kk fb B0 fn fc aa fA xs ff tt) (fun j u x => ⟨fun h => absurd h (by simp), fun h => absurd h (by simp)⟩) h11
    | 12, _ => exact h12
    | 13, _ => exact h13
    | 14, _ => exact h14
    | (_ + 15), h => omega
  · rw [hn] at hR ⊢
    have v1 : v 1 = (Value.slice (some aa) nn cc) := hR 1 (by decide) rfl
    have v2 : v 2 = (Value.int IntKind.i64 (kk : Int)) := hR 2 (by decide) rfl
    have v3 : v 3 = (Value.slice (some aa) kk cc) := hR 3 (by decide) rfl
    have v5 : v 5 = (Value.slice (some aa) nn cc) := hR 5 (by decide) rfl
    have v6 : v 6 = (Value.int IntKind.i64 (kk : Int)) := hR 6 (by decide) rfl
    have v7 : v 7 = (Value.int IntKind.i64 ((kk : Int) + 1)) := hR 7 (by decide) rfl
    have v8 : v 8 = (Value.slice (subA (some aa) cc (kk + 1) 3) (nn - (kk + 1)) (cc - (kk + 1))) := hR 8 (by decide) rfl
    have v10 : v 10 = (Value.agg #[Value.int IntKind.i64 ff, Value.int IntKind.i64 tt, Value.slice fA fn fc]) := hR 10 (by decide) rfl
    have v11 : v 11 = (Value.agg #[Value.int IntKind.i64 ff, Value.int IntKind.i64 tt, Value.slice fA fn fc]) := hR 11 (by decide) rfl
    have k8 : ((fun u_ w_ => w_.ownsRow B0 38 3 u_ (0 + kk + (nn - (kk + 1)) + 2) ([] ++ xs.take (kk * 3) ++ xs.drop ((kk + 1) * 3) ++ [Value.int IntKind.i64 ff, Value.int IntKind.i64 tt, Value.slice fA fn fc, Value.int IntKind.i64 ff, Value.int IntKind.i64 tt, Value.slice fA fn fc]))) (v 14) w := hR 14 (by decide) rfl
    rw [hfin v, v1, v2, v3, v5, v6, v7, v8, v10, v11]
    exact hend w (v 14) (v 0) (v 4) (v 9) (v 12) (v 13) hb k8
end Go.Proofs.Ytfojlmnlolnilaa
