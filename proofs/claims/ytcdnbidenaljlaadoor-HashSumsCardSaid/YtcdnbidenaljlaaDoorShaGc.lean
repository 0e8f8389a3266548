/- Regions that draw their order: their obligations (printed by regen2.py). -/
import Derived.Test.YtcdnbidenaljlaaDoorShaL
import Derived.Test.YtcdnbidenaljlaaDoorRegG
import Derived.Test.YtcdnbidenaljlaaDoorRegT
namespace Go.Proofs.YtcdnbidenaljlaaDoor
open Go.RowKit
set_option linter.unusedVariables false
set_option linter.unusedSimpArgs false
set_option linter.unusedSectionVars false
def hparts18R (gw gg : Nat) (FF : Nat → Prop) (bb : Bool) (lp lr : List UInt8) (PA RA BA : Option Addr) (pn pc rn rc bn bc : Nat) (DC : Array Value) : Nat → Value → World → Prop
  | 0 => fun x_ _ => x_ = (Value.bool true)
  | 1 => fun x_ _ => x_ = (Value.bool true)
  | 2 => fun x_ _ => x_ = (Value.slice PA pn pc)
  | 3 => fun x_ _ => x_ = (Value.agg DC)
  | 4 => fun x_ _ => x_ = (Value.agg DC)
  | 5 => fun x_ _ => x_ = (Value.bool true)
  | 6 => fun x_ _ => x_ = (Value.bool true)
  | 7 => fun x_ _ => x_ = (Value.bool true)
  | 8 => fun x_ _ => x_ = (Value.slice RA rn rc)
  | 9 => fun x_ w_ => x_ = (Value.pointer (some ⟨gg, 0, none⟩)) ∧ RunAtF FF gg true (lp ++ lr) w_
  | 10 => fun x_ w_ => x_ = (Value.agg DC) ∧ RunAtF FF gg true (lp ++ lr) w_
  | 11 => fun x_ _ => x_ = (Value.agg DC)
  | 12 => fun x_ w_ => x_ = (Value.bool true) ∧ RunAtF FF gg true (lp ++ lr) w_
  | 13 => fun x_ w_ => x_ = (Value.bool true) ∧ RunAtF FF gg true (lp ++ lr) w_
  | 14 => fun x_ w_ => x_ = (Value.bool true) ∧ RunAtF FF gg true (lp ++ lr) w_
  | 15 => fun x_ _ => x_ = (Value.int IntKind.i64 (bn : Int))
  | 16 => fun x_ _ => x_ = (Value.slice BA bn bc)
  | 17 => fun x_ _ => x_ = (Value.int IntKind.i64 (bn : Int))
  | 18 => fun x_ _ => x_ = (Value.bool true)
  | 19 => fun x_ _ => x_ = (Value.bool true)
  | 20 => fun x_ _ => x_ = (Value.bool true)
  | _ => fun _ _ => True
theorem hparts18_stable (gw gg : Nat) (FF : Nat → Prop) (bb : Bool) (lp lr : List UInt8) (PA RA BA : Option Addr) (pn pc rn rc bn bc : Nat) (DC : Array Value) : ∀ i_ u_ w_ w_', (hparts18R gw gg FF bb lp lr PA RA BA pn pc rn rc bn bc DC) i_ u_ w_ → Below w_.heap.size w_ w_' → (hparts18R gw gg FF bb lp lr PA RA BA pn pc rn rc bn bc DC) i_ u_ w_' := fun i_ u_ w_ w_' h_ hb_ => by
  match i_, h_ with
  | 0, h_ => exact h_
  | 1, h_ => exact h_
  | 2, h_ => exact h_
  | 3, h_ => exact h_
  | 4, h_ => exact h_
  | 5, h_ => exact h_
  | 6, h_ => exact h_
  | 7, h_ => exact h_
  | 8, h_ => exact h_
  | 9, h_ => exact ⟨h_.1, h_.2.below hb_⟩
  | 10, h_ => exact ⟨h_.1, h_.2.below hb_⟩
  | 11, h_ => exact h_
  | 12, h_ => exact ⟨h_.1, h_.2.below hb_⟩
  | 13, h_ => exact ⟨h_.1, h_.2.below hb_⟩
  | 14, h_ => exact ⟨h_.1, h_.2.below hb_⟩
  | 15, h_ => exact h_
  | 16, h_ => exact h_
  | 17, h_ => exact h_
  | 18, h_ => exact h_
  | 19, h_ => exact h_
  | 20, h_ => exact h_
  | (_ + 21), _ => trivial
section
variable (gw gg : Nat) (FF : Nat → Prop) (bb : Bool) (lp lr : List UInt8) (PA RA BA : Option Addr) (pn pc rn rc bn bc : Nat) (DC : Array Value) (w0 : World) (a0 : Act) (S : World → Prop) (G : World → Prop)
variable (hSb : ∀ w w', S w → Below w.heap.size w w' → S w')
variable (hGb : ∀ w w', G w → Below w.heap.size w w' → G w')
variable (hDi : (Tryd.prog.info? 25).map (·.size) = some DC.size)
variable (hOf : ∀ W, S W → Calls Tryd.prog 11 #[(Value.slice PA pn pc)] W fun e w' => e = .returned (Value.agg DC) ∧ Below W.heap.size W w')
variable (hAdd : ∀ W, S W → G W → Calls Tryd.prog 9 #[(Value.pointer (some ⟨gg, 0, none⟩)), (Value.slice RA rn rc)] W fun e w' => e = .returned (Value.pointer (some ⟨gg, 0, none⟩)) ∧ RunAtF FF gg true (lp ++ lr) w' ∧ W.grownBy w' (some gg))
variable (hSum : ∀ W, S W → RunAtF FF gg true (lp ++ lr) W → Calls Tryd.prog 10 #[(Value.pointer (some ⟨gg, 0, none⟩))] W fun e w' => e = .returned (Value.agg DC) ∧ Below W.heap.size W w')
variable (hLen : ∀ W, S W → RunAtF FF gg true (lp ++ lr) W → Calls Tryd.prog 12 #[(Value.pointer (some ⟨gg, 0, none⟩))] W fun e w' => e = .returned (.int .i64 (bn : Int)) ∧ W = w')
variable (heq : ∀ W, (Op.equalIn 10000 25 (.agg DC) (.agg DC)).run Tryd.prog W = .ok true W)
variable (hSg : ∀ W W', S W → W.grownBy W' (some gg) → S W')
variable (M_gw : ∀ W, S W → W.heap[gw]? = some (.cells DC 25 (0, 0)))
variable (i0 : a0.eval (.tmp 0) = (Value.slice BA bn bc)) (i5 : a0.eval (.tmp 5) = (Value.bool true)) (i6 : a0.eval (.tmp 6) = (Value.pointer (some ⟨gw, 0, none⟩))) (i7 : a0.eval (.tmp 7) = (Value.pointer (some ⟨gg, 0, none⟩))) (i8 : a0.eval (.tmp 8) = (Value.slice PA pn pc)) (i9 : a0.eval (.tmp 9) = (Value.slice RA rn rc)) (hsz : a0.tmps.size = 82)
include gw gg FF bb lp lr PA RA BA pn pc rn rc bn bc DC w0 a0 S G hSb hGb hDi hOf hAdd hSum hLen heq hSg M_gw i0 i5 i6 i7 i8 i9 hsz
set_option maxHeartbeats 4000000 in
set_option maxRecDepth 20000 in
theorem hparts18_h0 :
    RegG.OpOK Tryd.prog (Reg.opsOf Tryd.f4 18) a0 S 9 G (fun _ => none) (hparts18R gw gg FF bb lp lr PA RA BA pn pc rn rc bn bc DC) (fun _ _ _ _ => True) 0 := by
    refine RegG.op_okS (hparts18_stable gw gg FF bb lp lr PA RA BA pn pc rn rc bn bc DC) hSb hGb (fun _ _ _ => ⟨trivial, trivial⟩) (fun af => { dst := some 62, op := Op.move (Operand.tmp 5), type := 4, pos := "outright.go:58", after := af, guard := none }) #[] (by kernel_rfl) [] (by kernel_rfl) fun af v W hb hd => ?_
    have e5 := (Reg.gfr_eval0 (ops := (Reg.opsOf Tryd.f4 18)) (a0 := a0) (v := v) (L := []) 5 (by kernel_rfl)).trans i5
    refine ⟨Reg.wanted_none rfl, ?_⟩
    generalize Reg.gfr (Reg.opsOf Tryd.f4 18) a0 v [] = G at e5 ⊢
    generalize hρ : G.eval = ρ at e5
    have hρ' : G.eval = ρ := hρ
    refine Reg.go_run (Value.bool true) W ?_ ?_
    · rw [hρ']; simp [execOp, go_sem, e5]
    · exact ⟨Below.refl _ _, rfl⟩
set_option maxHeartbeats 4000000 in
set_option maxRecDepth 20000 in
theorem hparts18_h1 :
    RegG.OpOK Tryd.prog (Reg.opsOf Tryd.f4 18) a0 S 9 G (fun _ => none) (hparts18R gw gg FF bb lp lr PA RA BA pn pc rn rc bn bc DC) (fun _ _ _ _ => True) 1 := by
    refine RegG.op_okS (hparts18_stable gw gg FF bb lp lr PA RA BA pn pc rn rc bn bc DC) hSb hGb (fun _ _ _ => ⟨trivial, trivial⟩) (fun af => { dst := some 63, op := Op.move (Operand.tmp 62), type := 4, pos := "outright.go:58", after := af, guard := none }) #[{ on := 0, ground := Ground.data }] (by kernel_rfl) [0] (by kernel_rfl) fun af v W hb hd => ?_
    have d0 : v 0 = (Value.bool true) := hd 0 (by decide) (by decide)
    have e62 := (Reg.gfr_eval (ops := (Reg.opsOf Tryd.f4 18)) (a0 := a0) (v := v) (L := [0]) 62 0 (by kernel_rfl) (by rw [hsz]; omega)).trans d0
    refine ⟨Reg.wanted_none rfl, ?_⟩
    generalize Reg.gfr (Reg.opsOf Tryd.f4 18) a0 v [0] = G at e62 ⊢
    generalize hρ : G.eval = ρ at e62
    have hρ' : G.eval = ρ := hρ
    refine Reg.go_run (Value.bool true) W ?_ ?_
    · rw [hρ']; simp [execOp, go_sem, e62]
    · exact ⟨Below.refl _ _, rfl⟩
set_option maxHeartbeats 4000000 in
set_option maxRecDepth 20000 in
theorem hparts18_h2 :
    RegG.OpOK Tryd.prog (Reg.opsOf Tryd.f4 18) a0 S 9 G (fun _ => none) (hparts18R gw gg FF bb lp lr PA RA BA pn pc rn rc bn bc DC) (fun _ _ _ _ => True) 2 := by
    refine RegG.op_okS (hparts18_stable gw gg FF bb lp lr PA RA BA pn pc rn rc bn bc DC) hSb hGb (fun _ _ _ => ⟨trivial, trivial⟩) (fun af => { dst := some 64, op := Op.move (Operand.tmp 8), type := 39, pos := "outright.go:58", after := af, guard := some (1, true) }) #[{ on := 1, ground := Ground.guard }] (by kernel_rfl) [1] (by kernel_rfl) fun af v W hb hd => ?_
    have d1 : v 1 = (Value.bool true) := hd 1 (by decide) (by decide)
    have e8 := (Reg.gfr_eval0 (ops := (Reg.opsOf Tryd.f4 18)) (a0 := a0) (v := v) (L := [1]) 8 (by kernel_rfl)).trans i8
    have e63 := (Reg.gfr_eval (ops := (Reg.opsOf Tryd.f4 18)) (a0 := a0) (v := v) (L := [1]) 63 1 (by kernel_rfl) (by rw [hsz]; omega)).trans d1
    refine ⟨Reg.wanted_of rfl (by kernel_rfl) e63, ?_⟩
    generalize Reg.gfr (Reg.opsOf Tryd.f4 18) a0 v [1] = G at e8 ⊢
    generalize hρ : G.eval = ρ at e8
    have hρ' : G.eval = ρ := hρ
    refine Reg.go_run (Value.slice PA pn pc) W ?_ ?_
    · rw [hρ']; simp [execOp, go_sem, e8]
    · exact ⟨Below.refl _ _, rfl⟩
set_option maxHeartbeats 4000000 in
set_option maxRecDepth 20000 in
theorem hparts18_h3 :
    RegG.OpOK Tryd.prog (Reg.opsOf Tryd.f4 18) a0 S 9 G (fun _ => none) (hparts18R gw gg FF bb lp lr PA RA BA pn pc rn rc bn bc DC) (fun _ _ _ _ => True) 3 := by
    refine RegG.op_okS (hparts18_stable gw gg FF bb lp lr PA RA BA pn pc rn rc bn bc DC) hSb hGb (fun _ _ _ => ⟨trivial, trivial⟩) (fun af => { dst := some 65, op := Op.call { callee := Callee.value (Operand.func 11), args := #[Operand.tmp 64], argTypes := #[39] }, type := 25, pos := "outright.go:58", after := af, guard := some (1, true) }) #[{ on := 2, ground := Ground.data }, { on := 1, ground := Ground.chain }, { on := 1, ground := Ground.guard }] (by kernel_rfl) [2, 1, 1] (by kernel_rfl) fun af v W hb hd => ?_
    have d1 : v 1 = (Value.bool true) := hd 1 (by decide) (by decide)
    have d2 : v 2 = (Value.slice PA pn pc) := hd 2 (by decide) (by decide)
    have e64 := (Reg.gfr_eval (ops := (Reg.opsOf Tryd.f4 18)) (a0 := a0) (v := v) (L := [2, 1, 1]) 64 2 (by kernel_rfl) (by rw [hsz]; omega)).trans d2
    have e63 := (Reg.gfr_eval (ops := (Reg.opsOf Tryd.f4 18)) (a0 := a0) (v := v) (L := [2, 1, 1]) 63 1 (by kernel_rfl) (by rw [hsz]; omega)).trans d1
    refine ⟨Reg.wanted_of rfl (by kernel_rfl) e63, ?_⟩
    have eF : ∀ f, (Reg.gfr (Reg.opsOf Tryd.f4 18) a0 v [2, 1, 1]).eval (.func f) = .func (.func f) #[] #[] := fun _ => rfl
    generalize Reg.gfr (Reg.opsOf Tryd.f4 18) a0 v [2, 1, 1] = G at e64 eF ⊢
    generalize hρ : G.eval = ρ at e64 eF
    have hρ' : G.eval = ρ := hρ
    refine Reg.go_call 11 #[(Value.slice PA pn pc)] (by rw [hρ']; simp [execOp, go_sem, e64, eF]) ((hOf W hb).mono fun e w' he => ?_)
    obtain ⟨rfl, hbb⟩ := he
    exact ⟨_, rfl, hbb, rfl⟩
set_option maxHeartbeats 4000000 in
set_option maxRecDepth 20000 in
theorem hparts18_h4 :
    RegG.OpOK Tryd.prog (Reg.opsOf Tryd.f4 18) a0 S 9 G (fun _ => none) (hparts18R gw gg FF bb lp lr PA RA BA pn pc rn rc bn bc DC) (fun _ _ _ _ => True) 4 := by
    refine RegG.op_okS (hparts18_stable gw gg FF bb lp lr PA RA BA pn pc rn rc bn bc DC) hSb hGb (fun _ _ _ => ⟨trivial, trivial⟩) (fun af => { dst := some 66, op := Op.load 25 (Operand.tmp 6), type := 25, pos := "outright.go:58", after := af, guard := some (1, true) }) #[{ on := 1, ground := Ground.guard }] (by kernel_rfl) [1] (by kernel_rfl) fun af v W hb hd => ?_
    have d1 : v 1 = (Value.bool true) := hd 1 (by decide) (by decide)
    have e6 := (Reg.gfr_eval0 (ops := (Reg.opsOf Tryd.f4 18)) (a0 := a0) (v := v) (L := [1]) 6 (by kernel_rfl)).trans i6
    have e63 := (Reg.gfr_eval (ops := (Reg.opsOf Tryd.f4 18)) (a0 := a0) (v := v) (L := [1]) 63 1 (by kernel_rfl) (by rw [hsz]; omega)).trans d1
    refine ⟨Reg.wanted_of rfl (by kernel_rfl) e63, ?_⟩
    generalize Reg.gfr (Reg.opsOf Tryd.f4 18) a0 v [1] = G at e6 ⊢
    generalize hρ : G.eval = ρ at e6
    have hρ' : G.eval = ρ := hρ
    exact fun K hK => wp_load_row 25 (.tmp 6) rfl gw (by rw [hρ']; exact e6) 25 DC (0, 0) _ (M_gw W hb) Tryd.underlying25 rfl hDi (hK _ _ ⟨Below.refl _ _, rfl⟩)
set_option maxHeartbeats 4000000 in
set_option maxRecDepth 20000 in
theorem hparts18_h5 :
    RegG.OpOK Tryd.prog (Reg.opsOf Tryd.f4 18) a0 S 9 G (fun _ => none) (hparts18R gw gg FF bb lp lr PA RA BA pn pc rn rc bn bc DC) (fun _ _ _ _ => True) 5 := by
    refine RegG.op_okS (hparts18_stable gw gg FF bb lp lr PA RA BA pn pc rn rc bn bc DC) hSb hGb (fun _ _ _ => ⟨trivial, trivial⟩) (fun af => { dst := some 67, op := Op.binOp BinOp.eql 25 (Operand.tmp 65) (Operand.tmp 66) 25, type := 4, pos := "outright.go:58", after := af, guard := some (1, true) }) #[{ on := 3, ground := Ground.data }, { on := 4, ground := Ground.data }, { on := 1, ground := Ground.guard }] (by kernel_rfl) [3, 4, 1] (by kernel_rfl) fun af v W hb hd => ?_
    have d1 : v 1 = (Value.bool true) := hd 1 (by decide) (by decide)
    have d3 : v 3 = (Value.agg DC) := hd 3 (by decide) (by decide)
    have d4 : v 4 = (Value.agg DC) := hd 4 (by decide) (by decide)
    have e65 := (Reg.gfr_eval (ops := (Reg.opsOf Tryd.f4 18)) (a0 := a0) (v := v) (L := [3, 4, 1]) 65 3 (by kernel_rfl) (by rw [hsz]; omega)).trans d3
    have e66 := (Reg.gfr_eval (ops := (Reg.opsOf Tryd.f4 18)) (a0 := a0) (v := v) (L := [3, 4, 1]) 66 4 (by kernel_rfl) (by rw [hsz]; omega)).trans d4
    have e63 := (Reg.gfr_eval (ops := (Reg.opsOf Tryd.f4 18)) (a0 := a0) (v := v) (L := [3, 4, 1]) 63 1 (by kernel_rfl) (by rw [hsz]; omega)).trans d1
    refine ⟨Reg.wanted_of rfl (by kernel_rfl) e63, ?_⟩
    generalize Reg.gfr (Reg.opsOf Tryd.f4 18) a0 v [3, 4, 1] = G at e65 e66 ⊢
    generalize hρ : G.eval = ρ at e65 e66
    have hρ' : G.eval = ρ := hρ
    refine Reg.go_run (Value.bool true) W ?_ ?_
    · rw [hρ']; simp [execOp, go_sem, e65, e66, heq]
    · exact ⟨Below.refl _ _, rfl⟩
set_option maxHeartbeats 4000000 in
set_option maxRecDepth 20000 in
theorem hparts18_h6 :
    RegG.OpOK Tryd.prog (Reg.opsOf Tryd.f4 18) a0 S 9 G (fun _ => none) (hparts18R gw gg FF bb lp lr PA RA BA pn pc rn rc bn bc DC) (fun _ _ _ _ => True) 6 := by
    refine RegG.op_okS (hparts18_stable gw gg FF bb lp lr PA RA BA pn pc rn rc bn bc DC) hSb hGb (fun _ _ _ => ⟨trivial, trivial⟩) (fun af => { dst := some 68, op := Op.pick (Operand.tmp 63) (Operand.tmp 67) (Operand.const (Value.bool false)), type := 4, pos := "outright.go:58", after := af, guard := none }) #[{ on := 1, ground := Ground.data }, { on := 5, ground := Ground.data }] (by kernel_rfl) [1, 5] (by kernel_rfl) fun af v W hb hd => ?_
    have d1 : v 1 = (Value.bool true) := hd 1 (by decide) (by decide)
    have d5 : v 5 = (Value.bool true) := hd 5 (by decide) (by decide)
    have e63 := (Reg.gfr_eval (ops := (Reg.opsOf Tryd.f4 18)) (a0 := a0) (v := v) (L := [1, 5]) 63 1 (by kernel_rfl) (by rw [hsz]; omega)).trans d1
    have e67 := (Reg.gfr_eval (ops := (Reg.opsOf Tryd.f4 18)) (a0 := a0) (v := v) (L := [1, 5]) 67 5 (by kernel_rfl) (by rw [hsz]; omega)).trans d5
    refine ⟨Reg.wanted_none rfl, ?_⟩
    have eC : ∀ x, (Reg.gfr (Reg.opsOf Tryd.f4 18) a0 v [1, 5]).eval (.const x) = x := fun _ => rfl
    generalize Reg.gfr (Reg.opsOf Tryd.f4 18) a0 v [1, 5] = G at e63 e67 eC ⊢
    generalize hρ : G.eval = ρ at e63 e67 eC
    have hρ' : G.eval = ρ := hρ
    refine Reg.go_run (Value.bool true) W ?_ ?_
    · rw [hρ']; simp [execOp, go_sem, e63, e67, eC]
    · exact ⟨Below.refl _ _, rfl⟩
set_option maxHeartbeats 4000000 in
set_option maxRecDepth 20000 in
theorem hparts18_h7 :
    RegG.OpOK Tryd.prog (Reg.opsOf Tryd.f4 18) a0 S 9 G (fun _ => none) (hparts18R gw gg FF bb lp lr PA RA BA pn pc rn rc bn bc DC) (fun _ _ _ _ => True) 7 := by
    refine RegG.op_okS (hparts18_stable gw gg FF bb lp lr PA RA BA pn pc rn rc bn bc DC) hSb hGb (fun _ _ _ => ⟨trivial, trivial⟩) (fun af => { dst := some 69, op := Op.move (Operand.tmp 68), type := 4, pos := "outright.go:58", after := af, guard := none }) #[{ on := 6, ground := Ground.data }, { on := 3, ground := Ground.chain }] (by kernel_rfl) [6, 3] (by kernel_rfl) fun af v W hb hd => ?_
    have d6 : v 6 = (Value.bool true) := hd 6 (by decide) (by decide)
    have e68 := (Reg.gfr_eval (ops := (Reg.opsOf Tryd.f4 18)) (a0 := a0) (v := v) (L := [6, 3]) 68 6 (by kernel_rfl) (by rw [hsz]; omega)).trans d6
    refine ⟨Reg.wanted_none rfl, ?_⟩
    generalize Reg.gfr (Reg.opsOf Tryd.f4 18) a0 v [6, 3] = G at e68 ⊢
    generalize hρ : G.eval = ρ at e68
    have hρ' : G.eval = ρ := hρ
    refine Reg.go_run (Value.bool true) W ?_ ?_
    · rw [hρ']; simp [execOp, go_sem, e68]
    · exact ⟨Below.refl _ _, rfl⟩
set_option maxHeartbeats 4000000 in
set_option maxRecDepth 20000 in
theorem hparts18_h8 :
    RegG.OpOK Tryd.prog (Reg.opsOf Tryd.f4 18) a0 S 9 G (fun _ => none) (hparts18R gw gg FF bb lp lr PA RA BA pn pc rn rc bn bc DC) (fun _ _ _ _ => True) 8 := by
    refine RegG.op_okS (hparts18_stable gw gg FF bb lp lr PA RA BA pn pc rn rc bn bc DC) hSb hGb (fun _ _ _ => ⟨trivial, trivial⟩) (fun af => { dst := some 70, op := Op.move (Operand.tmp 9), type := 22, pos := "outright.go:58", after := af, guard := some (7, true) }) #[{ on := 7, ground := Ground.guard }] (by kernel_rfl) [7] (by kernel_rfl) fun af v W hb hd => ?_
    have d7 : v 7 = (Value.bool true) := hd 7 (by decide) (by decide)
    have e9 := (Reg.gfr_eval0 (ops := (Reg.opsOf Tryd.f4 18)) (a0 := a0) (v := v) (L := [7]) 9 (by kernel_rfl)).trans i9
    have e69 := (Reg.gfr_eval (ops := (Reg.opsOf Tryd.f4 18)) (a0 := a0) (v := v) (L := [7]) 69 7 (by kernel_rfl) (by rw [hsz]; omega)).trans d7
    refine ⟨Reg.wanted_of rfl (by kernel_rfl) e69, ?_⟩
    generalize Reg.gfr (Reg.opsOf Tryd.f4 18) a0 v [7] = G at e9 ⊢
    generalize hρ : G.eval = ρ at e9
    have hρ' : G.eval = ρ := hρ
    refine Reg.go_run (Value.slice RA rn rc) W ?_ ?_
    · rw [hρ']; simp [execOp, go_sem, e9]
    · exact ⟨Below.refl _ _, rfl⟩
set_option maxHeartbeats 4000000 in
set_option maxRecDepth 20000 in
theorem hparts18_h9 :
    RegG.OpOK Tryd.prog (Reg.opsOf Tryd.f4 18) a0 S 9 G (fun _ => none) (hparts18R gw gg FF bb lp lr PA RA BA pn pc rn rc bn bc DC) (fun _ _ _ _ => True) 9 := by
    refine RegG.op_ok2 (fun af => { dst := some 71, op := Op.call { callee := Callee.value (Operand.func 9), args := #[Operand.tmp 7, Operand.tmp 70], argTypes := #[30, 22] }, type := 31, pos := "outright.go:58", after := af, guard := some (7, true) }) #[{ on := 8, ground := Ground.data }, { on := 7, ground := Ground.chain }, { on := 7, ground := Ground.guard }] (by kernel_rfl) [8, 7, 7] (by kernel_rfl) fun af v W hb hg hd => ?_
    have d7 : v 7 = (Value.bool true) := hd 7 (by decide) (by decide)
    have d8 : v 8 = (Value.slice RA rn rc) := hd 8 (by decide) (by decide)
    have e7 := (Reg.gfr_eval0 (ops := (Reg.opsOf Tryd.f4 18)) (a0 := a0) (v := v) (L := [8, 7, 7]) 7 (by kernel_rfl)).trans i7
    have e70 := (Reg.gfr_eval (ops := (Reg.opsOf Tryd.f4 18)) (a0 := a0) (v := v) (L := [8, 7, 7]) 70 8 (by kernel_rfl) (by rw [hsz]; omega)).trans d8
    have e69 := (Reg.gfr_eval (ops := (Reg.opsOf Tryd.f4 18)) (a0 := a0) (v := v) (L := [8, 7, 7]) 69 7 (by kernel_rfl) (by rw [hsz]; omega)).trans d7
    refine ⟨Reg.wanted_of rfl (by kernel_rfl) e69, ?_⟩
    have eF : ∀ f, (Reg.gfr (Reg.opsOf Tryd.f4 18) a0 v [8, 7, 7]).eval (.func f) = .func (.func f) #[] #[] := fun _ => rfl
    generalize Reg.gfr (Reg.opsOf Tryd.f4 18) a0 v [8, 7, 7] = G at e7 e70 eF ⊢
    generalize hρ : G.eval = ρ at e7 e70 eF
    have hρ' : G.eval = ρ := hρ
    refine Reg.go_call 9 #[(Value.pointer (some ⟨gg, 0, none⟩)), (Value.slice RA rn rc)] (by rw [hρ']; simp [execOp, go_sem, e7, e70, eF]) ((hAdd W hb (hg rfl)).mono fun e w' he => ?_)
    obtain ⟨rfl, hr_, hgr_⟩ := he
    refine ⟨_, rfl, ⟨hSg W w' hb hgr_, fun h_ => absurd rfl h_⟩, ⟨rfl, hr_⟩, ?_⟩
    refine fun j_ x_ hj_ hg_ hx_ _ => ?_
    match j_, hj_, hg_, hx_ with
    | 0, _, _, hx_ => exact ⟨hx_, trivial, trivial⟩
    | 1, _, _, hx_ => exact ⟨hx_, trivial, trivial⟩
    | 2, _, _, hx_ => exact ⟨hx_, trivial, trivial⟩
    | 3, _, _, hx_ => exact ⟨hx_, trivial, trivial⟩
    | 4, _, _, hx_ => exact ⟨hx_, trivial, trivial⟩
    | 5, _, _, hx_ => exact ⟨hx_, trivial, trivial⟩
    | 6, _, _, hx_ => exact ⟨hx_, trivial, trivial⟩
    | 7, _, _, hx_ => exact ⟨hx_, trivial, trivial⟩
    | 8, _, _, hx_ => exact ⟨hx_, trivial, trivial⟩
    | 9, hj_, _, _ => exact absurd rfl hj_
    | 10, _, hg_, _ => exact absurd hg_ (by rw [show RegC.gone (Reg.opsOf Tryd.f4 18) (fun _ => none) 9 10 = true by kernel_rfl]; decide)
    | 11, _, _, hx_ => exact ⟨hx_, trivial, trivial⟩
    | 12, _, hg_, _ => exact absurd hg_ (by rw [show RegC.gone (Reg.opsOf Tryd.f4 18) (fun _ => none) 9 12 = true by kernel_rfl]; decide)
    | 13, _, hg_, _ => exact absurd hg_ (by rw [show RegC.gone (Reg.opsOf Tryd.f4 18) (fun _ => none) 9 13 = true by kernel_rfl]; decide)
    | 14, _, hg_, _ => exact absurd hg_ (by rw [show RegC.gone (Reg.opsOf Tryd.f4 18) (fun _ => none) 9 14 = true by kernel_rfl]; decide)
    | 15, _, _, hx_ => exact ⟨hx_, trivial, trivial⟩
    | 16, _, _, hx_ => exact ⟨hx_, trivial, trivial⟩
    | 17, _, _, hx_ => exact ⟨hx_, trivial, trivial⟩
    | 18, _, _, hx_ => exact ⟨hx_, trivial, trivial⟩
    | 19, _, _, hx_ => exact ⟨hx_, trivial, trivial⟩
    | 20, _, _, hx_ => exact ⟨hx_, trivial, trivial⟩
    | (j_ + 21), _, _, _ => exact ⟨trivial, trivial, trivial⟩
set_option maxHeartbeats 4000000 in
set_option maxRecDepth 20000 in
theorem hparts18_h10 :
    RegG.OpOK Tryd.prog (Reg.opsOf Tryd.f4 18) a0 S 9 G (fun _ => none) (hparts18R gw gg FF bb lp lr PA RA BA pn pc rn rc bn bc DC) (fun _ _ _ _ => True) 10 := by
    refine RegG.op_okS (hparts18_stable gw gg FF bb lp lr PA RA BA pn pc rn rc bn bc DC) hSb hGb (fun _ _ _ => ⟨trivial, trivial⟩) (fun af => { dst := some 72, op := Op.call { callee := Callee.value (Operand.func 10), args := #[Operand.tmp 71], argTypes := #[31] }, type := 25, pos := "outright.go:58", after := af, guard := some (7, true) }) #[{ on := 9, ground := Ground.data }, { on := 9, ground := Ground.chain }, { on := 7, ground := Ground.guard }] (by kernel_rfl) [9, 9, 7] (by kernel_rfl) fun af v W hb hd => ?_
    have d7 : v 7 = (Value.bool true) := hd 7 (by decide) (by decide)
    have dd9 : v 9 = (Value.pointer (some ⟨gg, 0, none⟩)) ∧ RunAtF FF gg true (lp ++ lr) W := hd 9 (by decide) (by decide)
    have d9 := dd9.1
    have e71 := (Reg.gfr_eval (ops := (Reg.opsOf Tryd.f4 18)) (a0 := a0) (v := v) (L := [9, 9, 7]) 71 9 (by kernel_rfl) (by rw [hsz]; omega)).trans d9
    have e69 := (Reg.gfr_eval (ops := (Reg.opsOf Tryd.f4 18)) (a0 := a0) (v := v) (L := [9, 9, 7]) 69 7 (by kernel_rfl) (by rw [hsz]; omega)).trans d7
    refine ⟨Reg.wanted_of rfl (by kernel_rfl) e69, ?_⟩
    have eF : ∀ f, (Reg.gfr (Reg.opsOf Tryd.f4 18) a0 v [9, 9, 7]).eval (.func f) = .func (.func f) #[] #[] := fun _ => rfl
    generalize Reg.gfr (Reg.opsOf Tryd.f4 18) a0 v [9, 9, 7] = G at e71 eF ⊢
    generalize hρ : G.eval = ρ at e71 eF
    have hρ' : G.eval = ρ := hρ
    refine Reg.go_call 10 #[(Value.pointer (some ⟨gg, 0, none⟩))] (by rw [hρ']; simp [execOp, go_sem, e71, eF]) ((hSum W hb dd9.2).mono fun e w' he => ?_)
    obtain ⟨rfl, hbb⟩ := he
    exact ⟨_, rfl, hbb, ⟨rfl, dd9.2.below hbb⟩⟩
set_option maxHeartbeats 4000000 in
set_option maxRecDepth 20000 in
theorem hparts18_h11 :
    RegG.OpOK Tryd.prog (Reg.opsOf Tryd.f4 18) a0 S 9 G (fun _ => none) (hparts18R gw gg FF bb lp lr PA RA BA pn pc rn rc bn bc DC) (fun _ _ _ _ => True) 11 := by
    refine RegG.op_okS (hparts18_stable gw gg FF bb lp lr PA RA BA pn pc rn rc bn bc DC) hSb hGb (fun _ _ _ => ⟨trivial, trivial⟩) (fun af => { dst := some 73, op := Op.load 25 (Operand.tmp 6), type := 25, pos := "outright.go:58", after := af, guard := some (7, true) }) #[{ on := 7, ground := Ground.guard }] (by kernel_rfl) [7] (by kernel_rfl) fun af v W hb hd => ?_
    have d7 : v 7 = (Value.bool true) := hd 7 (by decide) (by decide)
    have e6 := (Reg.gfr_eval0 (ops := (Reg.opsOf Tryd.f4 18)) (a0 := a0) (v := v) (L := [7]) 6 (by kernel_rfl)).trans i6
    have e69 := (Reg.gfr_eval (ops := (Reg.opsOf Tryd.f4 18)) (a0 := a0) (v := v) (L := [7]) 69 7 (by kernel_rfl) (by rw [hsz]; omega)).trans d7
    refine ⟨Reg.wanted_of rfl (by kernel_rfl) e69, ?_⟩
    generalize Reg.gfr (Reg.opsOf Tryd.f4 18) a0 v [7] = G at e6 ⊢
    generalize hρ : G.eval = ρ at e6
    have hρ' : G.eval = ρ := hρ
    exact fun K hK => wp_load_row 25 (.tmp 6) rfl gw (by rw [hρ']; exact e6) 25 DC (0, 0) _ (M_gw W hb) Tryd.underlying25 rfl hDi (hK _ _ ⟨Below.refl _ _, rfl⟩)
set_option maxHeartbeats 4000000 in
set_option maxRecDepth 20000 in
theorem hparts18_h12 :
    RegG.OpOK Tryd.prog (Reg.opsOf Tryd.f4 18) a0 S 9 G (fun _ => none) (hparts18R gw gg FF bb lp lr PA RA BA pn pc rn rc bn bc DC) (fun _ _ _ _ => True) 12 := by
    refine RegG.op_okS (hparts18_stable gw gg FF bb lp lr PA RA BA pn pc rn rc bn bc DC) hSb hGb (fun _ _ _ => ⟨trivial, trivial⟩) (fun af => { dst := some 74, op := Op.binOp BinOp.eql 25 (Operand.tmp 72) (Operand.tmp 73) 25, type := 4, pos := "outright.go:58", after := af, guard := some (7, true) }) #[{ on := 10, ground := Ground.data }, { on := 11, ground := Ground.data }, { on := 7, ground := Ground.guard }] (by kernel_rfl) [10, 11, 7] (by kernel_rfl) fun af v W hb hd => ?_
    have d7 : v 7 = (Value.bool true) := hd 7 (by decide) (by decide)
    have dd10 : v 10 = (Value.agg DC) ∧ RunAtF FF gg true (lp ++ lr) W := hd 10 (by decide) (by decide)
    have d10 := dd10.1
    have d11 : v 11 = (Value.agg DC) := hd 11 (by decide) (by decide)
    have e72 := (Reg.gfr_eval (ops := (Reg.opsOf Tryd.f4 18)) (a0 := a0) (v := v) (L := [10, 11, 7]) 72 10 (by kernel_rfl) (by rw [hsz]; omega)).trans d10
    have e73 := (Reg.gfr_eval (ops := (Reg.opsOf Tryd.f4 18)) (a0 := a0) (v := v) (L := [10, 11, 7]) 73 11 (by kernel_rfl) (by rw [hsz]; omega)).trans d11
    have e69 := (Reg.gfr_eval (ops := (Reg.opsOf Tryd.f4 18)) (a0 := a0) (v := v) (L := [10, 11, 7]) 69 7 (by kernel_rfl) (by rw [hsz]; omega)).trans d7
    refine ⟨Reg.wanted_of rfl (by kernel_rfl) e69, ?_⟩
    generalize Reg.gfr (Reg.opsOf Tryd.f4 18) a0 v [10, 11, 7] = G at e72 e73 ⊢
    generalize hρ : G.eval = ρ at e72 e73
    have hρ' : G.eval = ρ := hρ
    refine Reg.go_run (Value.bool true) W ?_ ?_
    · rw [hρ']; simp [execOp, go_sem, e72, e73, heq]
    · exact ⟨Below.refl _ _, ⟨rfl, dd10.2⟩⟩
set_option maxHeartbeats 4000000 in
set_option maxRecDepth 20000 in
theorem hparts18_h13 :
    RegG.OpOK Tryd.prog (Reg.opsOf Tryd.f4 18) a0 S 9 G (fun _ => none) (hparts18R gw gg FF bb lp lr PA RA BA pn pc rn rc bn bc DC) (fun _ _ _ _ => True) 13 := by
    refine RegG.op_okS (hparts18_stable gw gg FF bb lp lr PA RA BA pn pc rn rc bn bc DC) hSb hGb (fun _ _ _ => ⟨trivial, trivial⟩) (fun af => { dst := some 75, op := Op.pick (Operand.tmp 69) (Operand.tmp 74) (Operand.const (Value.bool false)), type := 4, pos := "outright.go:58", after := af, guard := none }) #[{ on := 7, ground := Ground.data }, { on := 12, ground := Ground.data }] (by kernel_rfl) [7, 12] (by kernel_rfl) fun af v W hb hd => ?_
    have d7 : v 7 = (Value.bool true) := hd 7 (by decide) (by decide)
    have dd12 : v 12 = (Value.bool true) ∧ RunAtF FF gg true (lp ++ lr) W := hd 12 (by decide) (by decide)
    have d12 := dd12.1
    have e69 := (Reg.gfr_eval (ops := (Reg.opsOf Tryd.f4 18)) (a0 := a0) (v := v) (L := [7, 12]) 69 7 (by kernel_rfl) (by rw [hsz]; omega)).trans d7
    have e74 := (Reg.gfr_eval (ops := (Reg.opsOf Tryd.f4 18)) (a0 := a0) (v := v) (L := [7, 12]) 74 12 (by kernel_rfl) (by rw [hsz]; omega)).trans d12
    refine ⟨Reg.wanted_none rfl, ?_⟩
    have eC : ∀ x, (Reg.gfr (Reg.opsOf Tryd.f4 18) a0 v [7, 12]).eval (.const x) = x := fun _ => rfl
    generalize Reg.gfr (Reg.opsOf Tryd.f4 18) a0 v [7, 12] = G at e69 e74 eC ⊢
    generalize hρ : G.eval = ρ at e69 e74 eC
    have hρ' : G.eval = ρ := hρ
    refine Reg.go_run (Value.bool true) W ?_ ?_
    · rw [hρ']; simp [execOp, go_sem, e69, e74, eC]
    · exact ⟨Below.refl _ _, ⟨rfl, dd12.2⟩⟩
set_option maxHeartbeats 4000000 in
set_option maxRecDepth 20000 in
theorem hparts18_h14 :
    RegG.OpOK Tryd.prog (Reg.opsOf Tryd.f4 18) a0 S 9 G (fun _ => none) (hparts18R gw gg FF bb lp lr PA RA BA pn pc rn rc bn bc DC) (fun _ _ _ _ => True) 14 := by
    refine RegG.op_okS (hparts18_stable gw gg FF bb lp lr PA RA BA pn pc rn rc bn bc DC) hSb hGb (fun _ _ _ => ⟨trivial, trivial⟩) (fun af => { dst := some 76, op := Op.move (Operand.tmp 75), type := 4, pos := "outright.go:58", after := af, guard := none }) #[{ on := 13, ground := Ground.data }, { on := 10, ground := Ground.chain }] (by kernel_rfl) [13, 10] (by kernel_rfl) fun af v W hb hd => ?_
    have dd13 : v 13 = (Value.bool true) ∧ RunAtF FF gg true (lp ++ lr) W := hd 13 (by decide) (by decide)
    have d13 := dd13.1
    have e75 := (Reg.gfr_eval (ops := (Reg.opsOf Tryd.f4 18)) (a0 := a0) (v := v) (L := [13, 10]) 75 13 (by kernel_rfl) (by rw [hsz]; omega)).trans d13
    refine ⟨Reg.wanted_none rfl, ?_⟩
    generalize Reg.gfr (Reg.opsOf Tryd.f4 18) a0 v [13, 10] = G at e75 ⊢
    generalize hρ : G.eval = ρ at e75
    have hρ' : G.eval = ρ := hρ
    refine Reg.go_run (Value.bool true) W ?_ ?_
    · rw [hρ']; simp [execOp, go_sem, e75]
    · exact ⟨Below.refl _ _, ⟨rfl, dd13.2⟩⟩
set_option maxHeartbeats 4000000 in
set_option maxRecDepth 20000 in
theorem hparts18_h15 :
    RegG.OpOK Tryd.prog (Reg.opsOf Tryd.f4 18) a0 S 9 G (fun _ => none) (hparts18R gw gg FF bb lp lr PA RA BA pn pc rn rc bn bc DC) (fun _ _ _ _ => True) 15 := by
    refine RegG.op_okS (hparts18_stable gw gg FF bb lp lr PA RA BA pn pc rn rc bn bc DC) hSb hGb (fun _ _ _ => ⟨trivial, trivial⟩) (fun af => { dst := some 77, op := Op.call { callee := Callee.value (Operand.func 12), args := #[Operand.tmp 7], argTypes := #[30] }, type := 3, pos := "outright.go:58", after := af, guard := some (14, true) }) #[{ on := 14, ground := Ground.chain }, { on := 14, ground := Ground.guard }] (by kernel_rfl) [14, 14] (by kernel_rfl) fun af v W hb hd => ?_
    have dd14 : v 14 = (Value.bool true) ∧ RunAtF FF gg true (lp ++ lr) W := hd 14 (by decide) (by decide)
    have d14 := dd14.1
    have e7 := (Reg.gfr_eval0 (ops := (Reg.opsOf Tryd.f4 18)) (a0 := a0) (v := v) (L := [14, 14]) 7 (by kernel_rfl)).trans i7
    have e76 := (Reg.gfr_eval (ops := (Reg.opsOf Tryd.f4 18)) (a0 := a0) (v := v) (L := [14, 14]) 76 14 (by kernel_rfl) (by rw [hsz]; omega)).trans d14
    refine ⟨Reg.wanted_of rfl (by kernel_rfl) e76, ?_⟩
    have eF : ∀ f, (Reg.gfr (Reg.opsOf Tryd.f4 18) a0 v [14, 14]).eval (.func f) = .func (.func f) #[] #[] := fun _ => rfl
    generalize Reg.gfr (Reg.opsOf Tryd.f4 18) a0 v [14, 14] = G at e7 eF ⊢
    generalize hρ : G.eval = ρ at e7 eF
    have hρ' : G.eval = ρ := hρ
    refine Reg.go_call 12 #[(Value.pointer (some ⟨gg, 0, none⟩))] (by rw [hρ']; simp [execOp, go_sem, e7, eF]) ((hLen W hb dd14.2).mono fun e w' he => ?_)
    obtain ⟨rfl, rfl⟩ := he
    exact ⟨_, rfl, Below.refl _ _, rfl⟩
set_option maxHeartbeats 4000000 in
set_option maxRecDepth 20000 in
theorem hparts18_h16 :
    RegG.OpOK Tryd.prog (Reg.opsOf Tryd.f4 18) a0 S 9 G (fun _ => none) (hparts18R gw gg FF bb lp lr PA RA BA pn pc rn rc bn bc DC) (fun _ _ _ _ => True) 16 := by
    refine RegG.op_okS (hparts18_stable gw gg FF bb lp lr PA RA BA pn pc rn rc bn bc DC) hSb hGb (fun _ _ _ => ⟨trivial, trivial⟩) (fun af => { dst := some 78, op := Op.move (Operand.tmp 0), type := 22, pos := "outright.go:58", after := af, guard := some (14, true) }) #[{ on := 14, ground := Ground.guard }] (by kernel_rfl) [14] (by kernel_rfl) fun af v W hb hd => ?_
    have dd14 : v 14 = (Value.bool true) ∧ RunAtF FF gg true (lp ++ lr) W := hd 14 (by decide) (by decide)
    have d14 := dd14.1
    have e0 := (Reg.gfr_eval0 (ops := (Reg.opsOf Tryd.f4 18)) (a0 := a0) (v := v) (L := [14]) 0 (by kernel_rfl)).trans i0
    have e76 := (Reg.gfr_eval (ops := (Reg.opsOf Tryd.f4 18)) (a0 := a0) (v := v) (L := [14]) 76 14 (by kernel_rfl) (by rw [hsz]; omega)).trans d14
    refine ⟨Reg.wanted_of rfl (by kernel_rfl) e76, ?_⟩
    generalize Reg.gfr (Reg.opsOf Tryd.f4 18) a0 v [14] = G at e0 ⊢
    generalize hρ : G.eval = ρ at e0
    have hρ' : G.eval = ρ := hρ
    refine Reg.go_run (Value.slice BA bn bc) W ?_ ?_
    · rw [hρ']; simp [execOp, go_sem, e0]
    · exact ⟨Below.refl _ _, rfl⟩
set_option maxHeartbeats 4000000 in
set_option maxRecDepth 20000 in
theorem hparts18_h17 :
    RegG.OpOK Tryd.prog (Reg.opsOf Tryd.f4 18) a0 S 9 G (fun _ => none) (hparts18R gw gg FF bb lp lr PA RA BA pn pc rn rc bn bc DC) (fun _ _ _ _ => True) 17 := by
    refine RegG.op_okS (hparts18_stable gw gg FF bb lp lr PA RA BA pn pc rn rc bn bc DC) hSb hGb (fun _ _ _ => ⟨trivial, trivial⟩) (fun af => { dst := some 79, op := Op.call { callee := Callee.builtin Builtin.len, args := #[Operand.tmp 78], argTypes := #[22] }, type := 3, pos := "outright.go:58", after := af, guard := some (14, true) }) #[{ on := 16, ground := Ground.data }, { on := 14, ground := Ground.guard }] (by kernel_rfl) [16, 14] (by kernel_rfl) fun af v W hb hd => ?_
    have dd14 : v 14 = (Value.bool true) ∧ RunAtF FF gg true (lp ++ lr) W := hd 14 (by decide) (by decide)
    have d14 := dd14.1
    have d16 : v 16 = (Value.slice BA bn bc) := hd 16 (by decide) (by decide)
    have e78 := (Reg.gfr_eval (ops := (Reg.opsOf Tryd.f4 18)) (a0 := a0) (v := v) (L := [16, 14]) 78 16 (by kernel_rfl) (by rw [hsz]; omega)).trans d16
    have e76 := (Reg.gfr_eval (ops := (Reg.opsOf Tryd.f4 18)) (a0 := a0) (v := v) (L := [16, 14]) 76 14 (by kernel_rfl) (by rw [hsz]; omega)).trans d14
    refine ⟨Reg.wanted_of rfl (by kernel_rfl) e76, ?_⟩
    generalize Reg.gfr (Reg.opsOf Tryd.f4 18) a0 v [16, 14] = G at e78 ⊢
    generalize hρ : G.eval = ρ at e78
    have hρ' : G.eval = ρ := hρ
    refine Reg.go_run (Value.int IntKind.i64 (bn : Int)) W ?_ ?_
    · rw [hρ']; simp [execOp, go_sem, e78]
    · exact ⟨Below.refl _ _, rfl⟩
set_option maxHeartbeats 4000000 in
set_option maxRecDepth 20000 in
theorem hparts18_h18 :
    RegG.OpOK Tryd.prog (Reg.opsOf Tryd.f4 18) a0 S 9 G (fun _ => none) (hparts18R gw gg FF bb lp lr PA RA BA pn pc rn rc bn bc DC) (fun _ _ _ _ => True) 18 := by
    refine RegG.op_okS (hparts18_stable gw gg FF bb lp lr PA RA BA pn pc rn rc bn bc DC) hSb hGb (fun _ _ _ => ⟨trivial, trivial⟩) (fun af => { dst := some 80, op := Op.binOp BinOp.eql 3 (Operand.tmp 77) (Operand.tmp 79) 3, type := 4, pos := "outright.go:58", after := af, guard := some (14, true) }) #[{ on := 15, ground := Ground.data }, { on := 17, ground := Ground.data }, { on := 14, ground := Ground.guard }] (by kernel_rfl) [15, 17, 14] (by kernel_rfl) fun af v W hb hd => ?_
    have dd14 : v 14 = (Value.bool true) ∧ RunAtF FF gg true (lp ++ lr) W := hd 14 (by decide) (by decide)
    have d14 := dd14.1
    have d15 : v 15 = (Value.int IntKind.i64 (bn : Int)) := hd 15 (by decide) (by decide)
    have d17 : v 17 = (Value.int IntKind.i64 (bn : Int)) := hd 17 (by decide) (by decide)
    have e77 := (Reg.gfr_eval (ops := (Reg.opsOf Tryd.f4 18)) (a0 := a0) (v := v) (L := [15, 17, 14]) 77 15 (by kernel_rfl) (by rw [hsz]; omega)).trans d15
    have e79 := (Reg.gfr_eval (ops := (Reg.opsOf Tryd.f4 18)) (a0 := a0) (v := v) (L := [15, 17, 14]) 79 17 (by kernel_rfl) (by rw [hsz]; omega)).trans d17
    have e76 := (Reg.gfr_eval (ops := (Reg.opsOf Tryd.f4 18)) (a0 := a0) (v := v) (L := [15, 17, 14]) 76 14 (by kernel_rfl) (by rw [hsz]; omega)).trans d14
    refine ⟨Reg.wanted_of rfl (by kernel_rfl) e76, ?_⟩
    generalize Reg.gfr (Reg.opsOf Tryd.f4 18) a0 v [15, 17, 14] = G at e77 e79 ⊢
    generalize hρ : G.eval = ρ at e77 e79
    have hρ' : G.eval = ρ := hρ
    refine Reg.go_run (Value.bool true) W ?_ ?_
    · rw [hρ']; simp [execOp, go_sem, e77, e79]
    · exact ⟨Below.refl _ _, rfl⟩
set_option maxHeartbeats 4000000 in
set_option maxRecDepth 20000 in
theorem hparts18_h19 :
    RegG.OpOK Tryd.prog (Reg.opsOf Tryd.f4 18) a0 S 9 G (fun _ => none) (hparts18R gw gg FF bb lp lr PA RA BA pn pc rn rc bn bc DC) (fun _ _ _ _ => True) 19 := by
    refine RegG.op_okS (hparts18_stable gw gg FF bb lp lr PA RA BA pn pc rn rc bn bc DC) hSb hGb (fun _ _ _ => ⟨trivial, trivial⟩) (fun af => { dst := some 81, op := Op.pick (Operand.tmp 76) (Operand.tmp 80) (Operand.const (Value.bool false)), type := 4, pos := "outright.go:58", after := af, guard := none }) #[{ on := 14, ground := Ground.data }, { on := 18, ground := Ground.data }] (by kernel_rfl) [14, 18] (by kernel_rfl) fun af v W hb hd => ?_
    have dd14 : v 14 = (Value.bool true) ∧ RunAtF FF gg true (lp ++ lr) W := hd 14 (by decide) (by decide)
    have d14 := dd14.1
    have d18 : v 18 = (Value.bool true) := hd 18 (by decide) (by decide)
    have e76 := (Reg.gfr_eval (ops := (Reg.opsOf Tryd.f4 18)) (a0 := a0) (v := v) (L := [14, 18]) 76 14 (by kernel_rfl) (by rw [hsz]; omega)).trans d14
    have e80 := (Reg.gfr_eval (ops := (Reg.opsOf Tryd.f4 18)) (a0 := a0) (v := v) (L := [14, 18]) 80 18 (by kernel_rfl) (by rw [hsz]; omega)).trans d18
    refine ⟨Reg.wanted_none rfl, ?_⟩
    have eC : ∀ x, (Reg.gfr (Reg.opsOf Tryd.f4 18) a0 v [14, 18]).eval (.const x) = x := fun _ => rfl
    generalize Reg.gfr (Reg.opsOf Tryd.f4 18) a0 v [14, 18] = G at e76 e80 eC ⊢
    generalize hρ : G.eval = ρ at e76 e80 eC
    have hρ' : G.eval = ρ := hρ
    refine Reg.go_run (Value.bool true) W ?_ ?_
    · rw [hρ']; simp [execOp, go_sem, e76, e80, eC]
    · exact ⟨Below.refl _ _, rfl⟩
set_option maxHeartbeats 4000000 in
set_option maxRecDepth 20000 in
theorem hparts18_h20 :
    RegG.OpOK Tryd.prog (Reg.opsOf Tryd.f4 18) a0 S 9 G (fun _ => none) (hparts18R gw gg FF bb lp lr PA RA BA pn pc rn rc bn bc DC) (fun _ _ _ _ => True) 20 := by
    refine RegG.op_okS (hparts18_stable gw gg FF bb lp lr PA RA BA pn pc rn rc bn bc DC) hSb hGb (fun _ _ _ => ⟨trivial, trivial⟩) (fun af => { dst := some 4, op := Op.assign (Operand.tmp 81), type := 4, pos := "outright.go:58", after := af, guard := none }) #[{ on := 19, ground := Ground.data }, { on := 15, ground := Ground.chain }, { on := 0, ground := Ground.phase }, { on := 1, ground := Ground.phase }, { on := 2, ground := Ground.phase }, { on := 3, ground := Ground.phase }, { on := 4, ground := Ground.phase }, { on := 5, ground := Ground.phase }, { on := 6, ground := Ground.phase }, { on := 7, ground := Ground.phase }, { on := 8, ground := Ground.phase }, { on := 9, ground := Ground.phase }, { on := 10, ground := Ground.phase }, { on := 11, ground := Ground.phase }, { on := 12, ground := Ground.phase }, { on := 13, ground := Ground.phase }, { on := 14, ground := Ground.phase }, { on := 15, ground := Ground.phase }, { on := 16, ground := Ground.phase }, { on := 17, ground := Ground.phase }, { on := 18, ground := Ground.phase }, { on := 19, ground := Ground.phase }] (by kernel_rfl) [19, 15, 0, 1, 2, 3, 4, 5, 6, 7, 8, 9, 10, 11, 12, 13, 14, 15, 16, 17, 18, 19] (by kernel_rfl) fun af v W hb hd => ?_
    have d19 : v 19 = (Value.bool true) := hd 19 (by decide) (by decide)
    have e81 := (Reg.gfr_eval (ops := (Reg.opsOf Tryd.f4 18)) (a0 := a0) (v := v) (L := [19, 15, 0, 1, 2, 3, 4, 5, 6, 7, 8, 9, 10, 11, 12, 13, 14, 15, 16, 17, 18, 19]) 81 19 (by kernel_rfl) (by rw [hsz]; omega)).trans d19
    refine ⟨Reg.wanted_none rfl, ?_⟩
    generalize Reg.gfr (Reg.opsOf Tryd.f4 18) a0 v [19, 15, 0, 1, 2, 3, 4, 5, 6, 7, 8, 9, 10, 11, 12, 13, 14, 15, 16, 17, 18, 19] = G at e81 ⊢
    generalize hρ : G.eval = ρ at e81
    have hρ' : G.eval = ρ := hρ
    refine Reg.go_run (Value.bool true) W ?_ ?_
    · rw [hρ']; simp [execOp, go_sem, e81]
    · exact ⟨Below.refl _ _, rfl⟩
end
set_option maxHeartbeats 4000000 in
set_option maxRecDepth 20000 in
theorem hparts18 (gw gg : Nat) (FF : Nat → Prop) (bb : Bool) (lp lr : List UInt8) (PA RA BA : Option Addr) (pn pc rn rc bn bc : Nat) (DC : Array Value) (w0 : World) {s1 s2 s3 s4 s10 s11 s12 s13 s14 s15 s16 s17 s18 s19 s20 s21 s22 s23 s24 s25 s26 s27 s28 s29 s30 s31 s32 s33 s34 s35 s36 s37 s38 s39 s40 s41 s42 s43 s44 s45 s46 s47 s48 s49 s50 s51 s52 s53 s54 s55 s56 s57 s58 s59 s60 s61 s62 s63 s64 s65 s66 s67 s68 s69 s70 s71 s72 s73 s74 s75 s76 s77 s78 s79 s80 s81 : Value}
    (S : World → Prop) (hS0 : S w0.drew) (hSb : ∀ w w', S w → Below w.heap.size w w' → S w')
    (G : World → Prop) (hG0 : G w0.drew) (hGb : ∀ w w', G w → Below w.heap.size w w' → G w')
    (hDi : (Tryd.prog.info? 25).map (·.size) = some DC.size)
    (hOf : ∀ W, S W → Calls Tryd.prog 11 #[(Value.slice PA pn pc)] W fun e w' => e = .returned (Value.agg DC) ∧ Below W.heap.size W w')
    (hAdd : ∀ W, S W → G W → Calls Tryd.prog 9 #[(Value.pointer (some ⟨gg, 0, none⟩)), (Value.slice RA rn rc)] W fun e w' => e = .returned (Value.pointer (some ⟨gg, 0, none⟩)) ∧ RunAtF FF gg true (lp ++ lr) w' ∧ W.grownBy w' (some gg))
    (hSum : ∀ W, S W → RunAtF FF gg true (lp ++ lr) W → Calls Tryd.prog 10 #[(Value.pointer (some ⟨gg, 0, none⟩))] W fun e w' => e = .returned (Value.agg DC) ∧ Below W.heap.size W w')
    (hLen : ∀ W, S W → RunAtF FF gg true (lp ++ lr) W → Calls Tryd.prog 12 #[(Value.pointer (some ⟨gg, 0, none⟩))] W fun e w' => e = .returned (.int .i64 (bn : Int)) ∧ W = w')
    (heq : ∀ W, (Op.equalIn 10000 25 (.agg DC) (.agg DC)).run Tryd.prog W = .ok true W)
    (hSg : ∀ W W', S W → W.grownBy W' (some gg) → S W')
    (M_gw : ∀ W, S W → W.heap[gw]? = some (.cells DC 25 (0, 0)))
    {Q : Exit → Act → World → Prop}
    (hend : ∀ (w : World), S w → Q .normal { tmps := #[(Value.slice BA bn bc), s1, s2, s3, (Value.bool true), (Value.bool true), (Value.pointer (some ⟨gw, 0, none⟩)), (Value.pointer (some ⟨gg, 0, none⟩)), (Value.slice PA pn pc), (Value.slice RA rn rc), s10, s11, s12, s13, s14, s15, s16, s17, s18, s19, s20, s21, s22, s23, s24, s25, s26, s27, s28, s29, s30, s31, s32, s33, s34, s35, s36, s37, s38, s39, s40, s41, s42, s43, s44, s45, s46, s47, s48, s49, s50, s51, s52, s53, s54, s55, s56, s57, s58, s59, s60, s61, (Value.bool true), (Value.bool true), (Value.slice PA pn pc), (Value.agg DC), (Value.agg DC), (Value.bool true), (Value.bool true), (Value.bool true), (Value.slice RA rn rc), (Value.pointer (some ⟨gg, 0, none⟩)), (Value.agg DC), (Value.agg DC), (Value.bool true), (Value.bool true), (Value.bool true), (Value.int IntKind.i64 (bn : Int)), (Value.slice BA bn bc), (Value.int IntKind.i64 (bn : Int)), (Value.bool true), (Value.bool true)], defers := [] } w) :
    (Code.region 18 (Reg.opsOf Tryd.f4 18) true).wp Tryd.prog Q { tmps := #[(Value.slice BA bn bc), s1, s2, s3, s4, (Value.bool true), (Value.pointer (some ⟨gw, 0, none⟩)), (Value.pointer (some ⟨gg, 0, none⟩)), (Value.slice PA pn pc), (Value.slice RA rn rc), s10, s11, s12, s13, s14, s15, s16, s17, s18, s19, s20, s21, s22, s23, s24, s25, s26, s27, s28, s29, s30, s31, s32, s33, s34, s35, s36, s37, s38, s39, s40, s41, s42, s43, s44, s45, s46, s47, s48, s49, s50, s51, s52, s53, s54, s55, s56, s57, s58, s59, s60, s61, s62, s63, s64, s65, s66, s67, s68, s69, s70, s71, s72, s73, s74, s75, s76, s77, s78, s79, s80, s81], defers := [] } w0 := by
  obtain ⟨a0, ha0⟩ : ∃ a0 : Act, a0 = { tmps := #[(Value.slice BA bn bc), s1, s2, s3, s4, (Value.bool true), (Value.pointer (some ⟨gw, 0, none⟩)), (Value.pointer (some ⟨gg, 0, none⟩)), (Value.slice PA pn pc), (Value.slice RA rn rc), s10, s11, s12, s13, s14, s15, s16, s17, s18, s19, s20, s21, s22, s23, s24, s25, s26, s27, s28, s29, s30, s31, s32, s33, s34, s35, s36, s37, s38, s39, s40, s41, s42, s43, s44, s45, s46, s47, s48, s49, s50, s51, s52, s53, s54, s55, s56, s57, s58, s59, s60, s61, s62, s63, s64, s65, s66, s67, s68, s69, s70, s71, s72, s73, s74, s75, s76, s77, s78, s79, s80, s81], defers := [] } := ⟨_, rfl⟩
  have hfin : ∀ v : Nat → Value, Reg.gfr (Reg.opsOf Tryd.f4 18) a0 v (List.range 21) = { tmps := #[(Value.slice BA bn bc), s1, s2, s3, v 20, (Value.bool true), (Value.pointer (some ⟨gw, 0, none⟩)), (Value.pointer (some ⟨gg, 0, none⟩)), (Value.slice PA pn pc), (Value.slice RA rn rc), s10, s11, s12, s13, s14, s15, s16, s17, s18, s19, s20, s21, s22, s23, s24, s25, s26, s27, s28, s29, s30, s31, s32, s33, s34, s35, s36, s37, s38, s39, s40, s41, s42, s43, s44, s45, s46, s47, s48, s49, s50, s51, s52, s53, s54, s55, s56, s57, s58, s59, s60, s61, v 0, v 1, v 2, v 3, v 4, v 5, v 6, v 7, v 8, v 9, v 10, v 11, v 12, v 13, v 14, v 15, v 16, v 17, v 18, v 19], defers := [] } := fun v => by rw [ha0]; kernel_rfl
  rw [← ha0]
  have i0 : a0.eval (.tmp 0) = (Value.slice BA bn bc) := by rw [ha0]; rfl
  have i5 : a0.eval (.tmp 5) = (Value.bool true) := by rw [ha0]; rfl
  have i6 : a0.eval (.tmp 6) = (Value.pointer (some ⟨gw, 0, none⟩)) := by rw [ha0]; rfl
  have i7 : a0.eval (.tmp 7) = (Value.pointer (some ⟨gg, 0, none⟩)) := by rw [ha0]; rfl
  have i8 : a0.eval (.tmp 8) = (Value.slice PA pn pc) := by rw [ha0]; rfl
  have i9 : a0.eval (.tmp 9) = (Value.slice RA rn rc) := by rw [ha0]; rfl
  have hsz : a0.tmps.size = 82 := by rw [ha0]; rfl
  clear ha0
  have hn : (Reg.opsOf Tryd.f4 18).size = 21 := by kernel_rfl
  have h0 := hparts18_h0 gw gg FF bb lp lr PA RA BA pn pc rn rc bn bc DC w0 a0 S G hSb hGb hDi hOf hAdd hSum hLen heq hSg M_gw i0 i5 i6 i7 i8 i9 hsz
  have h1 := hparts18_h1 gw gg FF bb lp lr PA RA BA pn pc rn rc bn bc DC w0 a0 S G hSb hGb hDi hOf hAdd hSum hLen heq hSg M_gw i0 i5 i6 i7 i8 i9 hsz
  have h2 := hparts18_h2 gw gg FF bb lp lr PA RA BA pn pc rn rc bn bc DC w0 a0 S G hSb hGb hDi hOf hAdd hSum hLen heq hSg M_gw i0 i5 i6 i7 i8 i9 hsz
  have h3 := hparts18_h3 gw gg FF bb lp lr PA RA BA pn pc rn rc bn bc DC w0 a0 S G hSb hGb hDi hOf hAdd hSum hLen heq hSg M_gw i0 i5 i6 i7 i8 i9 hsz
  have h4 := hparts18_h4 gw gg FF bb lp lr PA RA BA pn pc rn rc bn bc DC w0 a0 S G hSb hGb hDi hOf hAdd hSum hLen heq hSg M_gw i0 i5 i6 i7 i8 i9 hsz
  have h5 := hparts18_h5 gw gg FF bb lp lr PA RA BA pn pc rn rc bn bc DC w0 a0 S G hSb hGb hDi hOf hAdd hSum hLen heq hSg M_gw i0 i5 i6 i7 i8 i9 hsz
  have h6 := hparts18_h6 gw gg FF bb lp lr PA RA BA pn pc rn rc bn bc DC w0 a0 S G hSb hGb hDi hOf hAdd hSum hLen heq hSg M_gw i0 i5 i6 i7 i8 i9 hsz
  have h7 := hparts18_h7 gw gg FF bb lp lr PA RA BA pn pc rn rc bn bc DC w0 a0 S G hSb hGb hDi hOf hAdd hSum hLen heq hSg M_gw i0 i5 i6 i7 i8 i9 hsz
  have h8 := hparts18_h8 gw gg FF bb lp lr PA RA BA pn pc rn rc bn bc DC w0 a0 S G hSb hGb hDi hOf hAdd hSum hLen heq hSg M_gw i0 i5 i6 i7 i8 i9 hsz
  have h9 := hparts18_h9 gw gg FF bb lp lr PA RA BA pn pc rn rc bn bc DC w0 a0 S G hSb hGb hDi hOf hAdd hSum hLen heq hSg M_gw i0 i5 i6 i7 i8 i9 hsz
  have h10 := hparts18_h10 gw gg FF bb lp lr PA RA BA pn pc rn rc bn bc DC w0 a0 S G hSb hGb hDi hOf hAdd hSum hLen heq hSg M_gw i0 i5 i6 i7 i8 i9 hsz
  have h11 := hparts18_h11 gw gg FF bb lp lr PA RA BA pn pc rn rc bn bc DC w0 a0 S G hSb hGb hDi hOf hAdd hSum hLen heq hSg M_gw i0 i5 i6 i7 i8 i9 hsz
  have h12 := hparts18_h12 gw gg FF bb lp lr PA RA BA pn pc rn rc bn bc DC w0 a0 S G hSb hGb hDi hOf hAdd hSum hLen heq hSg M_gw i0 i5 i6 i7 i8 i9 hsz
  have h13 := hparts18_h13 gw gg FF bb lp lr PA RA BA pn pc rn rc bn bc DC w0 a0 S G hSb hGb hDi hOf hAdd hSum hLen heq hSg M_gw i0 i5 i6 i7 i8 i9 hsz
  have h14 := hparts18_h14 gw gg FF bb lp lr PA RA BA pn pc rn rc bn bc DC w0 a0 S G hSb hGb hDi hOf hAdd hSum hLen heq hSg M_gw i0 i5 i6 i7 i8 i9 hsz
  have h15 := hparts18_h15 gw gg FF bb lp lr PA RA BA pn pc rn rc bn bc DC w0 a0 S G hSb hGb hDi hOf hAdd hSum hLen heq hSg M_gw i0 i5 i6 i7 i8 i9 hsz
  have h16 := hparts18_h16 gw gg FF bb lp lr PA RA BA pn pc rn rc bn bc DC w0 a0 S G hSb hGb hDi hOf hAdd hSum hLen heq hSg M_gw i0 i5 i6 i7 i8 i9 hsz
  have h17 := hparts18_h17 gw gg FF bb lp lr PA RA BA pn pc rn rc bn bc DC w0 a0 S G hSb hGb hDi hOf hAdd hSum hLen heq hSg M_gw i0 i5 i6 i7 i8 i9 hsz
  have h18 := hparts18_h18 gw gg FF bb lp lr PA RA BA pn pc rn rc bn bc DC w0 a0 S G hSb hGb hDi hOf hAdd hSum hLen heq hSg M_gw i0 i5 i6 i7 i8 i9 hsz
  have h19 := hparts18_h19 gw gg FF bb lp lr PA RA BA pn pc rn rc bn bc DC w0 a0 S G hSb hGb hDi hOf hAdd hSum hLen heq hSg M_gw i0 i5 i6 i7 i8 i9 hsz
  have h20 := hparts18_h20 gw gg FF bb lp lr PA RA BA pn pc rn rc bn bc DC w0 a0 S G hSb hGb hDi hOf hAdd hSum hLen heq hSg M_gw i0 i5 i6 i7 i8 i9 hsz
  refine RegG.region_all (kill := 9) hS0 hG0 (by kernel_rfl) (fun _ => none) (hparts18R gw gg FF bb lp lr PA RA BA pn pc rn rc bn bc DC) (fun _ _ _ _ => True) (by rw [hn, hsz]; kernel_rfl) (fun i hi => ?_) (fun v w hb hR => ?_)
  · rw [hn] at hi
    match i, List.mem_range.1 hi with
    | 0, _ => exact h0
    | 1, _ => exact h1
    | 2, _ => exact h2
    | 3, _ => exact h3
    | 4, _ => exact h4
    | 5, _ => exact h5
    | 6, _ => exact h6
    | 7, _ => exact h7
    | 8, _ => exact h8
    | 9, _ => exact h9
    | 10, _ => exact h10
    | 11, _ => exact h11
    | 12, _ => exact h12
    | 13, _ => exact h13
    | 14, _ => exact h14
    | 15, _ => exact h15
    | 16, _ => exact h16
    | 17, _ => exact h17
    | 18, _ => exact h18
    | 19, _ => exact h19
    | 20, _ => exact h20
    | (_ + 21), h => omega
  · rw [hn] at hR ⊢
    have v0 : v 0 = (Value.bool true) := hR 0 (by decide) rfl
    have v1 : v 1 = (Value.bool true) := hR 1 (by decide) rfl
    have v2 : v 2 = (Value.slice PA pn pc) := hR 2 (by decide) rfl
    have v3 : v 3 = (Value.agg DC) := hR 3 (by decide) rfl
    have v4 : v 4 = (Value.agg DC) := hR 4 (by decide) rfl
    have v5 : v 5 = (Value.bool true) := hR 5 (by decide) rfl
    have v6 : v 6 = (Value.bool true) := hR 6 (by decide) rfl
    have v7 : v 7 = (Value.bool true) := hR 7 (by decide) rfl
    have v8 : v 8 = (Value.slice RA rn rc) := hR 8 (by decide) rfl
    have v9 : v 9 = (Value.pointer (some ⟨gg, 0, none⟩)) := (hR 9 (by decide) rfl).1
    have v10 : v 10 = (Value.agg DC) := (hR 10 (by decide) rfl).1
    have v11 : v 11 = (Value.agg DC) := hR 11 (by decide) rfl
    have v12 : v 12 = (Value.bool true) := (hR 12 (by decide) rfl).1
    have v13 : v 13 = (Value.bool true) := (hR 13 (by decide) rfl).1
    have v14 : v 14 = (Value.bool true) := (hR 14 (by decide) rfl).1
    have v15 : v 15 = (Value.int IntKind.i64 (bn : Int)) := hR 15 (by decide) rfl
    have v16 : v 16 = (Value.slice BA bn bc) := hR 16 (by decide) rfl
    have v17 : v 17 = (Value.int IntKind.i64 (bn : Int)) := hR 17 (by decide) rfl
    have v18 : v 18 = (Value.bool true) := hR 18 (by decide) rfl
    have v19 : v 19 = (Value.bool true) := hR 19 (by decide) rfl
    have v20 : v 20 = (Value.bool true) := hR 20 (by decide) rfl
    rw [hfin v, v0, v1, v2, v3, v4, v5, v6, v7, v8, v9, v10, v11, v12, v13, v14, v15, v16, v17, v18, v19, v20]
    exact hend w  hb 
end Go.Proofs.YtcdnbidenaljlaaDoor
