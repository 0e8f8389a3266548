/- Regions that draw their order: their obligations (printed by regen2.py). -/
import Derived.Test.YtcdnbidenaljlaaDoorShaA
import Derived.Test.YtcdnbidenaljlaaDoorStoAt
import Derived.Test.YtcdnbidenaljlaaDoorRegT
namespace Go.Proofs.YtcdnbidenaljlaaDoor
open Go.RowKit
set_option linter.unusedVariables false
set_option linter.unusedSimpArgs false
set_option linter.unusedSectionVars false
def sadd10R (gg bx : Nat) (S : List Value) (X M cur : Array Value) : Nat → Value → World → Prop
  | 0 => fun x_ _ => x_ = (Value.pointer (some ⟨gg, 0, none⟩))
  | 1 => fun x_ _ => x_ = (Value.pointer (some ⟨gg, 0, none⟩))
  | 2 => fun x_ _ => x_ = (Value.pointer (some ⟨gg, 0, none⟩))
  | 3 => fun x_ _ => x_ = (Value.pointer (some ⟨gg, 1, none⟩))
  | 4 => fun x_ _ => x_ = (Value.agg S.toArray)
  | 5 => fun x_ _ => x_ = (Value.agg X)
  | 6 => fun x_ _ => x_ = (Value.agg M)
  | 7 => fun x_ _ => x_ = (Value.pointer (some ⟨gg, 0, none⟩))
  | 8 => fun x_ _ => x_ = (Value.pointer (some ⟨gg, 1, none⟩))
  | _ => fun _ _ => True
theorem sadd10_stable (gg bx : Nat) (S : List Value) (X M cur : Array Value) : ∀ i_ u_ w_ w_', (sadd10R gg bx S X M cur) i_ u_ w_ → Below w_.heap.size w_ w_' → (sadd10R gg bx S X M cur) i_ u_ w_' := fun i_ u_ w_ w_' h_ hb_ => by
  match i_, h_ with
  | 0, h_ => exact h_
  | 1, h_ => exact h_
  | 2, h_ => exact h_
  | 3, h_ => exact h_
  | 4, h_ => exact h_
  | 5, h_ => exact h_
  | 6, h_ => exact h_
  | 7, h_ => exact h_
  | 8, h_ => exact h_
  | 9, h_ => exact h_
  | (_ + 10), _ => trivial
section
variable (gg bx : Nat) (S : List Value) (X M cur : Array Value) (w0 : World) (a0 : Act)
variable (hld : ∀ W, Below w0.heap.size w0 W → W.rangeAt gg 1 S)
variable (hSi : (Tryd.prog.info? 28).map (·.size) = some S.length)
variable (hXi : (Tryd.prog.info? 58).map (·.size) = some X.size)
variable (hmx : ∀ W, Below w0.heap.size w0 W → Calls Tryd.prog 27 #[.agg S.toArray, .agg X] W fun e w' => e = .returned (.agg M) ∧ Below W.heap.size W w')
variable (hMi : (Tryd.prog.info? 28).map (·.size) = some M.size)
variable (hM1 : ∀ u ∈ M.toList, u.oneCell' = true)
variable (hfit : 1 + M.size ≤ cur.size)
variable (M_gg : ∀ W, Below w0.heap.size w0 W → W.heap[gg]? = some (.cells cur 30 (0, 0)))
variable (M_bx : ∀ W, Below w0.heap.size w0 W → W.heap[bx]? = some (.cells X 58 (0, 0)))
variable (i0 : a0.eval (.tmp 0) = (Value.pointer (some ⟨gg, 0, none⟩))) (i5 : a0.eval (.tmp 5) = (Value.pointer (some ⟨bx, 0, none⟩))) (hsz : a0.tmps.size = 69)
include gg bx S X M cur w0 a0 hld hSi hXi hmx hMi hM1 hfit M_gg M_bx i0 i5 hsz
set_option maxHeartbeats 4000000 in
set_option maxRecDepth 20000 in
theorem sadd10_h0 :
    Reg.OpOK Tryd.prog (Reg.opsOf Tryd.f9 10) a0 w0 (sadd10R gg bx S X M cur) (fun _ _ _ _ => True) 0 := by
    refine Reg.op_ok2 (fun af => { dst := some 51, op := Op.move (Operand.tmp 0), type := 31, pos := "hash.go:56", after := af, guard := none }) #[] (by kernel_rfl) [] (by kernel_rfl) fun af v W hb hd => ?_
    have e0 := (Reg.gfr_eval0 (ops := (Reg.opsOf Tryd.f9 10)) (a0 := a0) (v := v) (L := []) 0 (by kernel_rfl)).trans i0
    refine ⟨Reg.wanted_none rfl, ?_⟩
    generalize Reg.gfr (Reg.opsOf Tryd.f9 10) a0 v [] = G at e0 ⊢
    generalize hρ : G.eval = ρ at e0
    have hρ' : G.eval = ρ := hρ
    refine Reg.go_run (Value.pointer (some ⟨gg, 0, none⟩)) W ?_ ?_
    · rw [hρ']; simp [execOp, go_sem, e0]
    · exact ⟨Below.refl _ _, rfl⟩
set_option maxHeartbeats 4000000 in
set_option maxRecDepth 20000 in
theorem sadd10_h1 :
    Reg.OpOK Tryd.prog (Reg.opsOf Tryd.f9 10) a0 w0 (sadd10R gg bx S X M cur) (fun _ _ _ _ => True) 1 := by
    refine Reg.op_ok2 (fun af => { dst := some 52, op := Op.move (Operand.tmp 0), type := 31, pos := "hash.go:56", after := af, guard := none }) #[] (by kernel_rfl) [] (by kernel_rfl) fun af v W hb hd => ?_
    have e0 := (Reg.gfr_eval0 (ops := (Reg.opsOf Tryd.f9 10)) (a0 := a0) (v := v) (L := []) 0 (by kernel_rfl)).trans i0
    refine ⟨Reg.wanted_none rfl, ?_⟩
    generalize Reg.gfr (Reg.opsOf Tryd.f9 10) a0 v [] = G at e0 ⊢
    generalize hρ : G.eval = ρ at e0
    have hρ' : G.eval = ρ := hρ
    refine Reg.go_run (Value.pointer (some ⟨gg, 0, none⟩)) W ?_ ?_
    · rw [hρ']; simp [execOp, go_sem, e0]
    · exact ⟨Below.refl _ _, rfl⟩
set_option maxHeartbeats 4000000 in
set_option maxRecDepth 20000 in
theorem sadd10_h2 :
    Reg.OpOK Tryd.prog (Reg.opsOf Tryd.f9 10) a0 w0 (sadd10R gg bx S X M cur) (fun _ _ _ _ => True) 2 := by
    refine Reg.op_ok2 (fun af => { dst := some 53, op := Op.nilCheck (Operand.tmp 52), type := 0, pos := "hash.go:56", after := af, guard := none }) #[{ on := 1, ground := Ground.data }] (by kernel_rfl) [1] (by kernel_rfl) fun af v W hb hd => ?_
    have d1 : v 1 = (Value.pointer (some ⟨gg, 0, none⟩)) := hd 1 (by decide)
    have e52 := (Reg.gfr_eval (ops := (Reg.opsOf Tryd.f9 10)) (a0 := a0) (v := v) (L := [1]) 52 1 (by kernel_rfl) (by rw [hsz]; omega)).trans d1
    refine ⟨Reg.wanted_none rfl, ?_⟩
    generalize Reg.gfr (Reg.opsOf Tryd.f9 10) a0 v [1] = G at e52 ⊢
    generalize hρ : G.eval = ρ at e52
    have hρ' : G.eval = ρ := hρ
    refine Reg.go_run (Value.pointer (some ⟨gg, 0, none⟩)) W ?_ ?_
    · rw [hρ']; simp [execOp, go_sem, e52]
    · exact ⟨Below.refl _ _, rfl⟩
set_option maxHeartbeats 4000000 in
set_option maxRecDepth 20000 in
theorem sadd10_h3 :
    Reg.OpOK Tryd.prog (Reg.opsOf Tryd.f9 10) a0 w0 (sadd10R gg bx S X M cur) (fun _ _ _ _ => True) 3 := by
    refine Reg.op_ok2 (fun af => { dst := some 54, op := Op.fieldAddr 30 (Operand.tmp 53) 1, type := 0, pos := "hash.go:56", after := af, guard := none }) #[{ on := 2, ground := Ground.data }] (by kernel_rfl) [2] (by kernel_rfl) fun af v W hb hd => ?_
    have d2 : v 2 = (Value.pointer (some ⟨gg, 0, none⟩)) := hd 2 (by decide)
    have e53 := (Reg.gfr_eval (ops := (Reg.opsOf Tryd.f9 10)) (a0 := a0) (v := v) (L := [2]) 53 2 (by kernel_rfl) (by rw [hsz]; omega)).trans d2
    refine ⟨Reg.wanted_none rfl, ?_⟩
    generalize Reg.gfr (Reg.opsOf Tryd.f9 10) a0 v [2] = G at e53 ⊢
    generalize hρ : G.eval = ρ at e53
    have hρ' : G.eval = ρ := hρ
    refine Reg.go_run (Value.pointer (some ⟨gg, 1, none⟩)) W ?_ ?_
    · rw [hρ']; simp [execOp, go_sem, e53]
    · exact ⟨Below.refl _ _, rfl⟩
set_option maxHeartbeats 4000000 in
set_option maxRecDepth 20000 in
theorem sadd10_h4 :
    Reg.OpOK Tryd.prog (Reg.opsOf Tryd.f9 10) a0 w0 (sadd10R gg bx S X M cur) (fun _ _ _ _ => True) 4 := by
    refine Reg.op_ok2 (fun af => { dst := some 55, op := Op.load 28 (Operand.tmp 54), type := 28, pos := "hash.go:56", after := af, guard := none }) #[{ on := 3, ground := Ground.data }] (by kernel_rfl) [3] (by kernel_rfl) fun af v W hb hd => ?_
    have d3 : v 3 = (Value.pointer (some ⟨gg, 1, none⟩)) := hd 3 (by decide)
    have e54 := (Reg.gfr_eval (ops := (Reg.opsOf Tryd.f9 10)) (a0 := a0) (v := v) (L := [3]) 54 3 (by kernel_rfl) (by rw [hsz]; omega)).trans d3
    refine ⟨Reg.wanted_none rfl, ?_⟩
    generalize Reg.gfr (Reg.opsOf Tryd.f9 10) a0 v [3] = G at e54 ⊢
    generalize hρ : G.eval = ρ at e54
    have hρ' : G.eval = ρ := hρ
    exact fun K hK => wp_load_mid 28 (.tmp 54) rfl gg 1 (by rw [hρ']; exact e54) S _ (hld W hb) Tryd.underlying28 rfl hSi (hK _ _ ⟨Below.refl _ _, rfl⟩)
set_option maxHeartbeats 4000000 in
set_option maxRecDepth 20000 in
theorem sadd10_h5 :
    Reg.OpOK Tryd.prog (Reg.opsOf Tryd.f9 10) a0 w0 (sadd10R gg bx S X M cur) (fun _ _ _ _ => True) 5 := by
    refine Reg.op_ok2 (fun af => { dst := some 56, op := Op.load 58 (Operand.tmp 5), type := 58, pos := "hash.go:56", after := af, guard := none }) #[] (by kernel_rfl) [] (by kernel_rfl) fun af v W hb hd => ?_
    have e5 := (Reg.gfr_eval0 (ops := (Reg.opsOf Tryd.f9 10)) (a0 := a0) (v := v) (L := []) 5 (by kernel_rfl)).trans i5
    refine ⟨Reg.wanted_none rfl, ?_⟩
    generalize Reg.gfr (Reg.opsOf Tryd.f9 10) a0 v [] = G at e5 ⊢
    generalize hρ : G.eval = ρ at e5
    have hρ' : G.eval = ρ := hρ
    exact fun K hK => wp_load_row 58 (.tmp 5) rfl bx (by rw [hρ']; exact e5) 58 X (0, 0) _ (M_bx W hb) Tryd.underlying58 rfl hXi (hK _ _ ⟨Below.refl _ _, rfl⟩)
set_option maxHeartbeats 4000000 in
set_option maxRecDepth 20000 in
theorem sadd10_h6 :
    Reg.OpOK Tryd.prog (Reg.opsOf Tryd.f9 10) a0 w0 (sadd10R gg bx S X M cur) (fun _ _ _ _ => True) 6 := by
    refine Reg.op_ok2 (fun af => { dst := some 57, op := Op.call { callee := Callee.value (Operand.func 27), args := #[Operand.tmp 55, Operand.tmp 56], argTypes := #[28, 58] }, type := 28, pos := "hash.go:56", after := af, guard := none }) #[{ on := 4, ground := Ground.data }, { on := 5, ground := Ground.data }] (by kernel_rfl) [4, 5] (by kernel_rfl) fun af v W hb hd => ?_
    have d4 : v 4 = (Value.agg S.toArray) := hd 4 (by decide)
    have d5 : v 5 = (Value.agg X) := hd 5 (by decide)
    have e55 := (Reg.gfr_eval (ops := (Reg.opsOf Tryd.f9 10)) (a0 := a0) (v := v) (L := [4, 5]) 55 4 (by kernel_rfl) (by rw [hsz]; omega)).trans d4
    have e56 := (Reg.gfr_eval (ops := (Reg.opsOf Tryd.f9 10)) (a0 := a0) (v := v) (L := [4, 5]) 56 5 (by kernel_rfl) (by rw [hsz]; omega)).trans d5
    refine ⟨Reg.wanted_none rfl, ?_⟩
    have eF : ∀ f, (Reg.gfr (Reg.opsOf Tryd.f9 10) a0 v [4, 5]).eval (.func f) = .func (.func f) #[] #[] := fun _ => rfl
    generalize Reg.gfr (Reg.opsOf Tryd.f9 10) a0 v [4, 5] = G at e55 e56 eF ⊢
    generalize hρ : G.eval = ρ at e55 e56 eF
    have hρ' : G.eval = ρ := hρ
    refine Reg.go_call 27 #[(Value.agg S.toArray), (Value.agg X)] (by rw [hρ']; simp [execOp, go_sem, e55, e56, eF]) ((hmx W hb).mono fun e w' he => ?_)
    obtain ⟨rfl, hbb⟩ := he
    exact ⟨_, rfl, hbb, rfl⟩
set_option maxHeartbeats 4000000 in
set_option maxRecDepth 20000 in
theorem sadd10_h7 :
    Reg.OpOK Tryd.prog (Reg.opsOf Tryd.f9 10) a0 w0 (sadd10R gg bx S X M cur) (fun _ _ _ _ => True) 7 := by
    refine Reg.op_ok2 (fun af => { dst := some 58, op := Op.nilCheck (Operand.tmp 51), type := 0, pos := "hash.go:56", after := af, guard := none }) #[{ on := 0, ground := Ground.data }, { on := 0, ground := Ground.phase }, { on := 1, ground := Ground.phase }, { on := 2, ground := Ground.phase }, { on := 3, ground := Ground.phase }, { on := 4, ground := Ground.phase }, { on := 5, ground := Ground.phase }, { on := 6, ground := Ground.phase }] (by kernel_rfl) [0, 0, 1, 2, 3, 4, 5, 6] (by kernel_rfl) fun af v W hb hd => ?_
    have d0 : v 0 = (Value.pointer (some ⟨gg, 0, none⟩)) := hd 0 (by decide)
    have e51 := (Reg.gfr_eval (ops := (Reg.opsOf Tryd.f9 10)) (a0 := a0) (v := v) (L := [0, 0, 1, 2, 3, 4, 5, 6]) 51 0 (by kernel_rfl) (by rw [hsz]; omega)).trans d0
    refine ⟨Reg.wanted_none rfl, ?_⟩
    generalize Reg.gfr (Reg.opsOf Tryd.f9 10) a0 v [0, 0, 1, 2, 3, 4, 5, 6] = G at e51 ⊢
    generalize hρ : G.eval = ρ at e51
    have hρ' : G.eval = ρ := hρ
    refine Reg.go_run (Value.pointer (some ⟨gg, 0, none⟩)) W ?_ ?_
    · rw [hρ']; simp [execOp, go_sem, e51]
    · exact ⟨Below.refl _ _, rfl⟩
set_option maxHeartbeats 4000000 in
set_option maxRecDepth 20000 in
theorem sadd10_h8 :
    Reg.OpOK Tryd.prog (Reg.opsOf Tryd.f9 10) a0 w0 (sadd10R gg bx S X M cur) (fun _ _ _ _ => True) 8 := by
    refine Reg.op_ok2 (fun af => { dst := some 59, op := Op.fieldAddr 30 (Operand.tmp 58) 1, type := 0, pos := "hash.go:56", after := af, guard := none }) #[{ on := 7, ground := Ground.data }, { on := 0, ground := Ground.phase }, { on := 1, ground := Ground.phase }, { on := 2, ground := Ground.phase }, { on := 3, ground := Ground.phase }, { on := 4, ground := Ground.phase }, { on := 5, ground := Ground.phase }, { on := 6, ground := Ground.phase }] (by kernel_rfl) [7, 0, 1, 2, 3, 4, 5, 6] (by kernel_rfl) fun af v W hb hd => ?_
    have d7 : v 7 = (Value.pointer (some ⟨gg, 0, none⟩)) := hd 7 (by decide)
    have e58 := (Reg.gfr_eval (ops := (Reg.opsOf Tryd.f9 10)) (a0 := a0) (v := v) (L := [7, 0, 1, 2, 3, 4, 5, 6]) 58 7 (by kernel_rfl) (by rw [hsz]; omega)).trans d7
    refine ⟨Reg.wanted_none rfl, ?_⟩
    generalize Reg.gfr (Reg.opsOf Tryd.f9 10) a0 v [7, 0, 1, 2, 3, 4, 5, 6] = G at e58 ⊢
    generalize hρ : G.eval = ρ at e58
    have hρ' : G.eval = ρ := hρ
    refine Reg.go_run (Value.pointer (some ⟨gg, 1, none⟩)) W ?_ ?_
    · rw [hρ']; simp [execOp, go_sem, e58]
    · exact ⟨Below.refl _ _, rfl⟩
end
set_option maxHeartbeats 4000000 in
set_option maxRecDepth 20000 in
theorem sadd10 (gg bx : Nat) (S : List Value) (X M cur : Array Value) (w0 : World) {s1 s2 s3 s4 s6 s7 s8 s9 s10 s11 s12 s13 s14 s15 s16 s17 s18 s19 s20 s21 s22 s23 s24 s25 s26 s27 s28 s29 s30 s31 s32 s33 s34 s35 s36 s37 s38 s39 s40 s41 s42 s43 s44 s45 s46 s47 s48 s49 s50 s51 s52 s53 s54 s55 s56 s57 s58 s59 s60 s61 s62 s63 s64 s65 s66 s67 s68 : Value}
    (hld : ∀ W, Below w0.heap.size w0 W → W.rangeAt gg 1 S)
    (hSi : (Tryd.prog.info? 28).map (·.size) = some S.length)
    (hXi : (Tryd.prog.info? 58).map (·.size) = some X.size)
    (hmx : ∀ W, Below w0.heap.size w0 W → Calls Tryd.prog 27 #[.agg S.toArray, .agg X] W fun e w' => e = .returned (.agg M) ∧ Below W.heap.size W w')
    (hMi : (Tryd.prog.info? 28).map (·.size) = some M.size)
    (hM1 : ∀ u ∈ M.toList, u.oneCell' = true)
    (hfit : 1 + M.size ≤ cur.size)
    (M_gg : ∀ W, Below w0.heap.size w0 W → W.heap[gg]? = some (.cells cur 30 (0, 0)))
    (M_bx : ∀ W, Below w0.heap.size w0 W → W.heap[bx]? = some (.cells X 58 (0, 0)))
    {Q : Exit → Act → World → Prop}
    (hend : ∀ (w : World), Below w0.heap.size w0 w → Q .normal { tmps := #[(Value.pointer (some ⟨gg, 0, none⟩)), s1, s2, s3, s4, (Value.pointer (some ⟨bx, 0, none⟩)), s6, s7, s8, s9, s10, s11, s12, s13, s14, s15, s16, s17, s18, s19, s20, s21, s22, s23, s24, s25, s26, s27, s28, s29, s30, s31, s32, s33, s34, s35, s36, s37, s38, s39, s40, s41, s42, s43, s44, s45, s46, s47, s48, s49, s50, (Value.pointer (some ⟨gg, 0, none⟩)), (Value.pointer (some ⟨gg, 0, none⟩)), (Value.pointer (some ⟨gg, 0, none⟩)), (Value.pointer (some ⟨gg, 1, none⟩)), (Value.agg S.toArray), (Value.agg X), (Value.agg M), (Value.pointer (some ⟨gg, 0, none⟩)), (Value.pointer (some ⟨gg, 1, none⟩)), s60, s61, s62, s63, s64, s65, s66, s67, s68], defers := [] } (w.setRow gg (cur.toList.take 1 ++ M.toList ++ cur.toList.drop (1 + M.size)).toArray)) :
    (Code.region 10 (Reg.opsOf Tryd.f9 10) true).wp Tryd.prog Q { tmps := #[(Value.pointer (some ⟨gg, 0, none⟩)), s1, s2, s3, s4, (Value.pointer (some ⟨bx, 0, none⟩)), s6, s7, s8, s9, s10, s11, s12, s13, s14, s15, s16, s17, s18, s19, s20, s21, s22, s23, s24, s25, s26, s27, s28, s29, s30, s31, s32, s33, s34, s35, s36, s37, s38, s39, s40, s41, s42, s43, s44, s45, s46, s47, s48, s49, s50, s51, s52, s53, s54, s55, s56, s57, s58, s59, s60, s61, s62, s63, s64, s65, s66, s67, s68], defers := [] } w0 := by
  obtain ⟨a0, ha0⟩ : ∃ a0 : Act, a0 = { tmps := #[(Value.pointer (some ⟨gg, 0, none⟩)), s1, s2, s3, s4, (Value.pointer (some ⟨bx, 0, none⟩)), s6, s7, s8, s9, s10, s11, s12, s13, s14, s15, s16, s17, s18, s19, s20, s21, s22, s23, s24, s25, s26, s27, s28, s29, s30, s31, s32, s33, s34, s35, s36, s37, s38, s39, s40, s41, s42, s43, s44, s45, s46, s47, s48, s49, s50, s51, s52, s53, s54, s55, s56, s57, s58, s59, s60, s61, s62, s63, s64, s65, s66, s67, s68], defers := [] } := ⟨_, rfl⟩
  have hfin : ∀ v : Nat → Value, Reg.gfr (Reg.opsOf Tryd.f9 10) a0 v [0, 1, 2, 3, 4, 5, 6, 7, 8] = { tmps := #[(Value.pointer (some ⟨gg, 0, none⟩)), s1, s2, s3, s4, (Value.pointer (some ⟨bx, 0, none⟩)), s6, s7, s8, s9, s10, s11, s12, s13, s14, s15, s16, s17, s18, s19, s20, s21, s22, s23, s24, s25, s26, s27, s28, s29, s30, s31, s32, s33, s34, s35, s36, s37, s38, s39, s40, s41, s42, s43, s44, s45, s46, s47, s48, s49, s50, v 0, v 1, v 2, v 3, v 4, v 5, v 6, v 7, v 8, s60, s61, s62, s63, s64, s65, s66, s67, s68], defers := [] } := fun v => by rw [ha0]; kernel_rfl
  rw [← ha0]
  have i0 : a0.eval (.tmp 0) = (Value.pointer (some ⟨gg, 0, none⟩)) := by rw [ha0]; rfl
  have i5 : a0.eval (.tmp 5) = (Value.pointer (some ⟨bx, 0, none⟩)) := by rw [ha0]; rfl
  have hsz : a0.tmps.size = 69 := by rw [ha0]; rfl
  clear ha0
  have hn : (Reg.opsOf Tryd.f9 10).size = 10 := by kernel_rfl
  have h0 := sadd10_h0 gg bx S X M cur w0 a0 hld hSi hXi hmx hMi hM1 hfit M_gg M_bx i0 i5 hsz
  have h1 := sadd10_h1 gg bx S X M cur w0 a0 hld hSi hXi hmx hMi hM1 hfit M_gg M_bx i0 i5 hsz
  have h2 := sadd10_h2 gg bx S X M cur w0 a0 hld hSi hXi hmx hMi hM1 hfit M_gg M_bx i0 i5 hsz
  have h3 := sadd10_h3 gg bx S X M cur w0 a0 hld hSi hXi hmx hMi hM1 hfit M_gg M_bx i0 i5 hsz
  have h4 := sadd10_h4 gg bx S X M cur w0 a0 hld hSi hXi hmx hMi hM1 hfit M_gg M_bx i0 i5 hsz
  have h5 := sadd10_h5 gg bx S X M cur w0 a0 hld hSi hXi hmx hMi hM1 hfit M_gg M_bx i0 i5 hsz
  have h6 := sadd10_h6 gg bx S X M cur w0 a0 hld hSi hXi hmx hMi hM1 hfit M_gg M_bx i0 i5 hsz
  have h7 := sadd10_h7 gg bx S X M cur w0 a0 hld hSi hXi hmx hMi hM1 hfit M_gg M_bx i0 i5 hsz
  have h8 := sadd10_h8 gg bx S X M cur w0 a0 hld hSi hXi hmx hMi hM1 hfit M_gg M_bx i0 i5 hsz
  refine Reg.region_rel (by kernel_rfl) [0, 1, 2, 3, 4, 5, 6, 7, 8] (sadd10R gg bx S X M cur) (fun _ _ _ _ => True) (by rw [hsz]; kernel_rfl) (sadd10_stable gg bx S X M cur) (fun i hi => ?_) (fun v w hb hR hD fuel hf => ?_)
  · simp only [List.mem_cons, List.not_mem_nil, or_false] at hi
    rcases hi with rfl | rfl | rfl | rfl | rfl | rfl | rfl | rfl | rfl
    · exact h0
    · exact h1
    · exact h2
    · exact h3
    · exact h4
    · exact h5
    · exact h6
    · exact h7
    · exact h8
  · refine Reg.tail_one 9 (fun af => { dst := none, op := Op.store 28 (Operand.tmp 59) (Operand.tmp 57), type := 0, pos := "hash.go:56", after := af, guard := none }) #[{ on := 8, ground := Ground.data }, { on := 6, ground := Ground.data }, { on := 6, ground := Ground.chain }, { on := 0, ground := Ground.phase }, { on := 1, ground := Ground.phase }, { on := 2, ground := Ground.phase }, { on := 3, ground := Ground.phase }, { on := 4, ground := Ground.phase }, { on := 5, ground := Ground.phase }, { on := 6, ground := Ground.phase }] (by kernel_rfl) (fun _ => rfl) (by decide) (by rw [hn]; decide) (by rw [hn]; decide) (by decide) (fun a' w' => a' = Reg.gfr (Reg.opsOf Tryd.f9 10) a0 v [0, 1, 2, 3, 4, 5, 6, 7, 8] ∧ w' = (w.setRow gg (cur.toList.take 1 ++ M.toList ++ cur.toList.drop (1 + M.size)).toArray)) (fun af K hK => ?_) ?_ fuel hf
    · have v8 : v 8 = (Value.pointer (some ⟨gg, 1, none⟩)) := hR 8 (by decide)
      have e59 := (Reg.gfr_eval (ops := (Reg.opsOf Tryd.f9 10)) (a0 := a0) (v := v) (L := [0, 1, 2, 3, 4, 5, 6, 7, 8]) 59 8 (by kernel_rfl) (by rw [hsz]; omega)).trans v8
      have v6 : v 6 = (Value.agg M) := hR 6 (by decide)
      have e57 := (Reg.gfr_eval (ops := (Reg.opsOf Tryd.f9 10)) (a0 := a0) (v := v) (L := [0, 1, 2, 3, 4, 5, 6, 7, 8]) 57 6 (by kernel_rfl) (by rw [hsz]; omega)).trans v6
      have hp := hK _ _ ⟨rfl, rfl⟩
      generalize Reg.gfr (Reg.opsOf Tryd.f9 10) a0 v [0, 1, 2, 3, 4, 5, 6, 7, 8] = G at hp e59 e57 ⊢
      exact wp_store_at 28 (Operand.tmp 59) (Operand.tmp 57) rfl gg 1 e59 _ e57 cur 30 (M_gg w hb) hfit hM1 hMi rfl hp
    · rintro a' w' ⟨rfl, rfl⟩
      have v0 : v 0 = (Value.pointer (some ⟨gg, 0, none⟩)) := hR 0 (by decide)
      have v1 : v 1 = (Value.pointer (some ⟨gg, 0, none⟩)) := hR 1 (by decide)
      have v2 : v 2 = (Value.pointer (some ⟨gg, 0, none⟩)) := hR 2 (by decide)
      have v3 : v 3 = (Value.pointer (some ⟨gg, 1, none⟩)) := hR 3 (by decide)
      have v4 : v 4 = (Value.agg S.toArray) := hR 4 (by decide)
      have v5 : v 5 = (Value.agg X) := hR 5 (by decide)
      have v6 : v 6 = (Value.agg M) := hR 6 (by decide)
      have v7 : v 7 = (Value.pointer (some ⟨gg, 0, none⟩)) := hR 7 (by decide)
      have v8 : v 8 = (Value.pointer (some ⟨gg, 1, none⟩)) := hR 8 (by decide)
      rw [hfin v, v0, v1, v2, v3, v4, v5, v6, v7, v8]
      exact hend w   hb 
end Go.Proofs.YtcdnbidenaljlaaDoor
