/- Regions that draw their order: their obligations (printed by regen2.py). -/
import Derived.Test.YtmfncojkpkoijaaDoorNmM
import Derived.Test.YtmfncojkpkoijaaDoorRegT
namespace Go.Proofs.YtmfncojkpkoijaaDoor
open Go.RowKit
set_option linter.unusedVariables false
set_option linter.unusedSimpArgs false
set_option linter.unusedSectionVars false
def nn11R (lC idl : List UInt8) (gt : Nat) : Nat → Value → World → Prop
  | 0 => fun x_ _ => x_ = (Value.string (bstr lC))
  | 1 => fun x_ _ => x_ = (Value.string (bstr (lC ++ [48])))
  | 2 => fun x_ _ => x_ = (Value.string (bstr lC))
  | 3 => fun x_ _ => x_ = (Value.string (bstr lC))
  | 4 => fun x_ _ => x_ = (Value.int IntKind.i64 69)
  | 5 => fun x_ _ => x_ = (Value.int IntKind.i64 68)
  | 6 => fun x_ _ => x_ = (Value.string (bstr (lC.take 68)))
  | 7 => fun x_ _ => x_ = (Value.agg (idC idl))
  | 8 => fun x_ _ => x_ = (Value.string (bstr (textB idl)))
  | 9 => fun x_ _ => x_ = (Value.string (bstr (126 :: (textB idl))))
  | 10 => fun x_ _ => x_ = (Value.agg (idC idl))
  | 11 => fun x_ _ => x_ = (Value.string (bstr (textB idl)))
  | 12 => fun x_ _ => x_ = (Value.string (bstr ([97, 32, 98, 126] ++ (textB idl))))
  | 13 => fun x_ _ => x_ = (Value.string (bstr lC))
  | 14 => fun x_ _ => x_ = (Value.string (bstr (Lib.toUpperA lC)))
  | 15 => fun x_ _ => x_ = (Value.agg (idC idl))
  | 16 => fun x_ _ => x_ = (Value.string (bstr (textB idl)))
  | 17 => fun x_ _ => x_ = (Value.string (bstr ([109, 97, 105, 110, 126, 126] ++ (textB idl))))
  | 18 => fun x_ _ => x_ = (Value.agg (idC idl))
  | 19 => fun x_ _ => x_ = (Value.string (bstr (textB idl)))
  | 20 => fun x_ _ => x_ = (Value.string (bstr (109 :: 97 :: 105 :: 110 :: 126 :: (textB idl))))
  | 21 => fun x_ _ => x_ = (Value.string (bstr (([109, 97, 105, 110, 126] ++ (textB idl)) ++ [126])))
  | 22 => Reg.IsRow 9 #[(Value.string { data := #[] }), (Value.string { data := #[126] }), (Value.string { data := #[109, 97, 105, 110, 126] }), (Value.string (bstr (lC ++ [48]))), (Value.string (bstr (lC.take 68))), (Value.string (bstr (126 :: (textB idl)))), (Value.string (bstr ([97, 32, 98, 126] ++ (textB idl)))), (Value.string (bstr (Lib.toUpperA lC))), (Value.string (bstr ([109, 97, 105, 110, 126, 126] ++ (textB idl)))), (Value.string (bstr (([109, 97, 105, 110, 126] ++ (textB idl)) ++ [126])))] 10
  | 23 => fun x_ _ => x_ = (Value.int IntKind.i64 10)
  | 24 => fun x_ _ => x_ = (Value.int IntKind.i64 0)
  | _ => fun _ _ => True
theorem nn11_stable (lC idl : List UInt8) (gt : Nat) : ∀ i_ u_ w_ w_', (nn11R lC idl gt) i_ u_ w_ → Below w_.heap.size w_ w_' → (nn11R lC idl gt) i_ u_ w_' := fun i_ u_ w_ w_' h_ hb_ => by
  match i_, h_ with
  | 0, h_ => exact h_
  | 1, h_ => exact h_
  | 2, h_ => exact h_
  | 3, h_ => exact h_
  | 4, h_ => exact h_
  | 5, h_ => exact h_
  | 6, h_ => exact h_
  | 7, h_ => exact h_
  | 8, h_ => exact h_
  | 9, h_ => exact h_
  | 10, h_ => exact h_
  | 11, h_ => exact h_
  | 12, h_ => exact h_
  | 13, h_ => exact h_
  | 14, h_ => exact h_
  | 15, h_ => exact h_
  | 16, h_ => exact h_
  | 17, h_ => exact h_
  | 18, h_ => exact h_
  | 19, h_ => exact h_
  | 20, h_ => exact h_
  | 21, h_ => exact h_
  | 22, h_ => exact (Reg.IsRow.below h_ hb_)
  | 23, h_ => exact h_
  | 24, h_ => exact h_
  | (_ + 25), _ => trivial
section
variable (lC idl : List UInt8) (gt : Nat) (w0 : World) (a0 : Act)
variable (hid : idl.length = 32) (hV : (Tryd.prog.info? 30).map (·.size) = some (idC idl).size) (hC : lC.length ≤ 1000) (hCa : ∀ b ∈ lC, b.toNat < 128)
variable (hszC : ((bstr lC).size : Int) = 69) (hsl : ∀ W, (Instr.slice 9 (.string (bstr lC)) none (some (.int .i64 68)) none).run Tryd.prog W = .ok (.string (bstr (lC.take 68))) W)
variable (k1 : bstr lC ++ (⟨#[48]⟩ : ByteArray) = bstr (lC ++ [48])) (b1 : ¬ 9223372036854775807 < (bstr lC).size + 1)
variable (k9 : (⟨#[126]⟩ : ByteArray) ++ bstr (textB idl) = bstr (126 :: (textB idl))) (b9 : ¬ 9223372036854775807 < 1 + (bstr (textB idl)).size)
variable (k12 : (⟨#[97, 32, 98, 126]⟩ : ByteArray) ++ bstr (textB idl) = bstr ([97, 32, 98, 126] ++ (textB idl))) (b12 : ¬ 9223372036854775807 < 4 + (bstr (textB idl)).size)
variable (k17 : (⟨#[109, 97, 105, 110, 126, 126]⟩ : ByteArray) ++ bstr (textB idl) = bstr ([109, 97, 105, 110, 126, 126] ++ (textB idl))) (b17 : ¬ 9223372036854775807 < 6 + (bstr (textB idl)).size)
variable (k20 : (⟨#[109, 97, 105, 110, 126]⟩ : ByteArray) ++ bstr (textB idl) = bstr (109 :: 97 :: 105 :: 110 :: 126 :: (textB idl))) (b20 : ¬ 9223372036854775807 < 5 + (bstr (textB idl)).size)
variable (k21 : bstr (109 :: 97 :: 105 :: 110 :: 126 :: (textB idl)) ++ (⟨#[126]⟩ : ByteArray) = bstr (([109, 97, 105, 110, 126] ++ (textB idl)) ++ [126])) (b21 : ¬ 9223372036854775807 < (bstr (109 :: 97 :: 105 :: 110 :: 126 :: (textB idl))).size + 1)
variable (M_gt : ∀ W, Below w0.heap.size w0 W → W.heap[gt]? = some (.cells (idC idl) 30 (0, 0)))
variable (i3 : a0.eval (.tmp 3) = (Value.pointer (some ⟨gt, 0, none⟩))) (i4 : a0.eval (.tmp 4) = (Value.string (bstr lC))) (hsz : a0.tmps.size = 233)
include lC idl gt w0 a0 hid hV hC hCa hszC hsl k1 b1 k9 b9 k12 b12 k17 b17 k20 b20 k21 b21 M_gt i3 i4 hsz
set_option maxHeartbeats 4000000 in
set_option maxRecDepth 20000 in
theorem nn11_h0 :
    Reg.OpOK Tryd.prog (Reg.opsOf Tryd.f8 11) a0 w0 (nn11R lC idl gt) (fun _ _ _ _ => True) 0 := by
    refine Reg.op_ok2 (fun af => { dst := some 91, op := Op.move (Operand.tmp 4), type := 9, pos := "outright.go:42", after := af, guard := none }) #[] (by kernel_rfl) [] (by kernel_rfl) fun af v W hb hd => ?_
    have e4 := (Reg.gfr_eval0 (ops := (Reg.opsOf Tryd.f8 11)) (a0 := a0) (v := v) (L := []) 4 (by kernel_rfl)).trans i4
    refine ⟨Reg.wanted_none rfl, ?_⟩
    generalize Reg.gfr (Reg.opsOf Tryd.f8 11) a0 v [] = G at e4 ⊢
    generalize hρ : G.eval = ρ at e4
    have hρ' : G.eval = ρ := hρ
    refine Reg.go_run (Value.string (bstr lC)) W ?_ ?_
    · rw [hρ']; simp [execOp, go_sem, e4]
    · exact ⟨Below.refl _ _, rfl⟩
set_option maxHeartbeats 4000000 in
set_option maxRecDepth 20000 in
theorem nn11_h1 :
    Reg.OpOK Tryd.prog (Reg.opsOf Tryd.f8 11) a0 w0 (nn11R lC idl gt) (fun _ _ _ _ => True) 1 := by
    refine Reg.op_ok2 (fun af => { dst := some 92, op := Op.binOp BinOp.add 9 (Operand.tmp 91) (Operand.const (Value.string { data := #[48] })) 9, type := 9, pos := "outright.go:42", after := af, guard := none }) #[{ on := 0, ground := Ground.data }] (by kernel_rfl) [0] (by kernel_rfl) fun af v W hb hd => ?_
    have d0 : v 0 = (Value.string (bstr lC)) := hd 0 (by decide)
    have e91 := (Reg.gfr_eval (ops := (Reg.opsOf Tryd.f8 11)) (a0 := a0) (v := v) (L := [0]) 91 0 (by kernel_rfl) (by rw [hsz]; omega)).trans d0
    refine ⟨Reg.wanted_none rfl, ?_⟩
    have eC : ∀ x, (Reg.gfr (Reg.opsOf Tryd.f8 11) a0 v [0]).eval (.const x) = x := fun _ => rfl
    generalize Reg.gfr (Reg.opsOf Tryd.f8 11) a0 v [0] = G at e91 eC ⊢
    generalize hρ : G.eval = ρ at e91 eC
    have hρ' : G.eval = ρ := hρ
    refine Reg.go_run (Value.string (bstr (lC ++ [48]))) W ?_ ?_
    · rw [hρ']; simp [execOp, go_sem, e91, eC, k1, b1]
    · exact ⟨Below.refl _ _, rfl⟩
set_option maxHeartbeats 4000000 in
set_option maxRecDepth 20000 in
theorem nn11_h2 :
    Reg.OpOK Tryd.prog (Reg.opsOf Tryd.f8 11) a0 w0 (nn11R lC idl gt) (fun _ _ _ _ => True) 2 := by
    refine Reg.op_ok2 (fun af => { dst := some 93, op := Op.move (Operand.tmp 4), type := 9, pos := "outright.go:42", after := af, guard := none }) #[] (by kernel_rfl) [] (by kernel_rfl) fun af v W hb hd => ?_
    have e4 := (Reg.gfr_eval0 (ops := (Reg.opsOf Tryd.f8 11)) (a0 := a0) (v := v) (L := []) 4 (by kernel_rfl)).trans i4
    refine ⟨Reg.wanted_none rfl, ?_⟩
    generalize Reg.gfr (Reg.opsOf Tryd.f8 11) a0 v [] = G at e4 ⊢
    generalize hρ : G.eval = ρ at e4
    have hρ' : G.eval = ρ := hρ
    refine Reg.go_run (Value.string (bstr lC)) W ?_ ?_
    · rw [hρ']; simp [execOp, go_sem, e4]
    · exact ⟨Below.refl _ _, rfl⟩
set_option maxHeartbeats 4000000 in
set_option maxRecDepth 20000 in
theorem nn11_h3 :
    Reg.OpOK Tryd.prog (Reg.opsOf Tryd.f8 11) a0 w0 (nn11R lC idl gt) (fun _ _ _ _ => True) 3 := by
    refine Reg.op_ok2 (fun af => { dst := some 94, op := Op.move (Operand.tmp 4), type := 9, pos := "outright.go:42", after := af, guard := none }) #[] (by kernel_rfl) [] (by kernel_rfl) fun af v W hb hd => ?_
    have e4 := (Reg.gfr_eval0 (ops := (Reg.opsOf Tryd.f8 11)) (a0 := a0) (v := v) (L := []) 4 (by kernel_rfl)).trans i4
    refine ⟨Reg.wanted_none rfl, ?_⟩
    generalize Reg.gfr (Reg.opsOf Tryd.f8 11) a0 v [] = G at e4 ⊢
    generalize hρ : G.eval = ρ at e4
    have hρ' : G.eval = ρ := hρ
    refine Reg.go_run (Value.string (bstr lC)) W ?_ ?_
    · rw [hρ']; simp [execOp, go_sem, e4]
    · exact ⟨Below.refl _ _, rfl⟩
set_option maxHeartbeats 4000000 in
set_option maxRecDepth 20000 in
theorem nn11_h4 :
    Reg.OpOK Tryd.prog (Reg.opsOf Tryd.f8 11) a0 w0 (nn11R lC idl gt) (fun _ _ _ _ => True) 4 := by
    refine Reg.op_ok2 (fun af => { dst := some 95, op := Op.call { callee := Callee.builtin Builtin.len, args := #[Operand.tmp 94], argTypes := #[9] }, type := 3, pos := "outright.go:42", after := af, guard := none }) #[{ on := 3, ground := Ground.data }] (by kernel_rfl) [3] (by kernel_rfl) fun af v W hb hd => ?_
    have d3 : v 3 = (Value.string (bstr lC)) := hd 3 (by decide)
    have e94 := (Reg.gfr_eval (ops := (Reg.opsOf Tryd.f8 11)) (a0 := a0) (v := v) (L := [3]) 94 3 (by kernel_rfl) (by rw [hsz]; omega)).trans d3
    refine ⟨Reg.wanted_none rfl, ?_⟩
    generalize Reg.gfr (Reg.opsOf Tryd.f8 11) a0 v [3] = G at e94 ⊢
    generalize hρ : G.eval = ρ at e94
    have hρ' : G.eval = ρ := hρ
    refine Reg.go_run (Value.int IntKind.i64 69) W ?_ ?_
    · rw [hρ']; simp [execOp, go_sem, e94, hszC]
    · exact ⟨Below.refl _ _, rfl⟩
set_option maxHeartbeats 4000000 in
set_option maxRecDepth 20000 in
theorem nn11_h5 :
    Reg.OpOK Tryd.prog (Reg.opsOf Tryd.f8 11) a0 w0 (nn11R lC idl gt) (fun _ _ _ _ => True) 5 := by
    refine Reg.op_ok2 (fun af => { dst := some 96, op := Op.binOp BinOp.sub 3 (Operand.tmp 95) (Operand.const (Value.int IntKind.i64 1)) 3, type := 3, pos := "outright.go:42", after := af, guard := none }) #[{ on := 4, ground := Ground.data }] (by kernel_rfl) [4] (by kernel_rfl) fun af v W hb hd => ?_
    have d4 : v 4 = (Value.int IntKind.i64 69) := hd 4 (by decide)
    have e95 := (Reg.gfr_eval (ops := (Reg.opsOf Tryd.f8 11)) (a0 := a0) (v := v) (L := [4]) 95 4 (by kernel_rfl) (by rw [hsz]; omega)).trans d4
    refine ⟨Reg.wanted_none rfl, ?_⟩
    have eC : ∀ x, (Reg.gfr (Reg.opsOf Tryd.f8 11) a0 v [4]).eval (.const x) = x := fun _ => rfl
    generalize Reg.gfr (Reg.opsOf Tryd.f8 11) a0 v [4] = G at e95 eC ⊢
    generalize hρ : G.eval = ρ at e95 eC
    have hρ' : G.eval = ρ := hρ
    refine Reg.go_run (Value.int IntKind.i64 68) W ?_ ?_
    · rw [hρ']; simp [execOp, go_sem, e95, eC, (by decide : IntKind.i64.wrap 68 = 68)]
    · exact ⟨Below.refl _ _, rfl⟩
set_option maxHeartbeats 4000000 in
set_option maxRecDepth 20000 in
theorem nn11_h6 :
    Reg.OpOK Tryd.prog (Reg.opsOf Tryd.f8 11) a0 w0 (nn11R lC idl gt) (fun _ _ _ _ => True) 6 := by
    refine Reg.op_ok2 (fun af => { dst := some 97, op := Op.slice 9 (Operand.tmp 93) none (some (Operand.tmp 96)) none, type := 9, pos := "outright.go:42", after := af, guard := none }) #[{ on := 2, ground := Ground.data }, { on := 5, ground := Ground.data }] (by kernel_rfl) [2, 5] (by kernel_rfl) fun af v W hb hd => ?_
    have d2 : v 2 = (Value.string (bstr lC)) := hd 2 (by decide)
    have d5 : v 5 = (Value.int IntKind.i64 68) := hd 5 (by decide)
    have e93 := (Reg.gfr_eval (ops := (Reg.opsOf Tryd.f8 11)) (a0 := a0) (v := v) (L := [2, 5]) 93 2 (by kernel_rfl) (by rw [hsz]; omega)).trans d2
    have e96 := (Reg.gfr_eval (ops := (Reg.opsOf Tryd.f8 11)) (a0 := a0) (v := v) (L := [2, 5]) 96 5 (by kernel_rfl) (by rw [hsz]; omega)).trans d5
    refine ⟨Reg.wanted_none rfl, ?_⟩
    generalize Reg.gfr (Reg.opsOf Tryd.f8 11) a0 v [2, 5] = G at e93 e96 ⊢
    generalize hρ : G.eval = ρ at e93 e96
    have hρ' : G.eval = ρ := hρ
    refine Reg.go_run (Value.string (bstr (lC.take 68))) W ?_ ?_
    · rw [hρ']; simp [execOp, go_sem, e93, e96, hsl]
    · exact ⟨Below.refl _ _, rfl⟩
set_option maxHeartbeats 4000000 in
set_option maxRecDepth 20000 in
theorem nn11_h7 :
    Reg.OpOK Tryd.prog (Reg.opsOf Tryd.f8 11) a0 w0 (nn11R lC idl gt) (fun _ _ _ _ => True) 7 := by
    refine Reg.op_ok2 (fun af => { dst := some 98, op := Op.load 30 (Operand.tmp 3), type := 30, pos := "outright.go:42", after := af, guard := none }) #[] (by kernel_rfl) [] (by kernel_rfl) fun af v W hb hd => ?_
    have e3 := (Reg.gfr_eval0 (ops := (Reg.opsOf Tryd.f8 11)) (a0 := a0) (v := v) (L := []) 3 (by kernel_rfl)).trans i3
    refine ⟨Reg.wanted_none rfl, ?_⟩
    generalize Reg.gfr (Reg.opsOf Tryd.f8 11) a0 v [] = G at e3 ⊢
    generalize hρ : G.eval = ρ at e3
    have hρ' : G.eval = ρ := hρ
    exact fun K hK => wp_load_row 30 (.tmp 3) rfl gt (by rw [hρ']; exact e3) 30 (idC idl) (0, 0) _ (M_gt W hb) Tryd.underlying30 rfl hV (hK _ _ ⟨Below.refl _ _, rfl⟩)
set_option maxHeartbeats 4000000 in
set_option maxRecDepth 20000 in
theorem nn11_h8 :
    Reg.OpOK Tryd.prog (Reg.opsOf Tryd.f8 11) a0 w0 (nn11R lC idl gt) (fun _ _ _ _ => True) 8 := by
    refine Reg.op_ok2 (fun af => { dst := some 99, op := Op.call { callee := Callee.value (Operand.func 27), args := #[Operand.tmp 98], argTypes := #[30] }, type := 9, pos := "outright.go:42", after := af, guard := none }) #[{ on := 7, ground := Ground.data }] (by kernel_rfl) [7] (by kernel_rfl) fun af v W hb hd => ?_
    have d7 : v 7 = (Value.agg (idC idl)) := hd 7 (by decide)
    have e98 := (Reg.gfr_eval (ops := (Reg.opsOf Tryd.f8 11)) (a0 := a0) (v := v) (L := [7]) 98 7 (by kernel_rfl) (by rw [hsz]; omega)).trans d7
    refine ⟨Reg.wanted_none rfl, ?_⟩
    have eF : ∀ f, (Reg.gfr (Reg.opsOf Tryd.f8 11) a0 v [7]).eval (.func f) = .func (.func f) #[] #[] := fun _ => rfl
    generalize Reg.gfr (Reg.opsOf Tryd.f8 11) a0 v [7] = G at e98 eF ⊢
    generalize hρ : G.eval = ρ at e98 eF
    have hρ' : G.eval = ρ := hρ
    refine Reg.go_call 27 #[(Value.agg (idC idl))] (by rw [hρ']; simp [execOp, go_sem, e98, eF]) ((text_any idl hid W).mono fun e w' he => ?_)
    obtain ⟨rfl, hbb⟩ := he
    exact ⟨_, rfl, hbb, rfl⟩
set_option maxHeartbeats 4000000 in
set_option maxRecDepth 20000 in
theorem nn11_h9 :
    Reg.OpOK Tryd.prog (Reg.opsOf Tryd.f8 11) a0 w0 (nn11R lC idl gt) (fun _ _ _ _ => True) 9 := by
    refine Reg.op_ok2 (fun af => { dst := some 100, op := Op.binOp BinOp.add 9 (Operand.const (Value.string { data := #[126] })) (Operand.tmp 99) 9, type := 9, pos := "outright.go:42", after := af, guard := none }) #[{ on := 8, ground := Ground.data }] (by kernel_rfl) [8] (by kernel_rfl) fun af v W hb hd => ?_
    have d8 : v 8 = (Value.string (bstr (textB idl))) := hd 8 (by decide)
    have e99 := (Reg.gfr_eval (ops := (Reg.opsOf Tryd.f8 11)) (a0 := a0) (v := v) (L := [8]) 99 8 (by kernel_rfl) (by rw [hsz]; omega)).trans d8
    refine ⟨Reg.wanted_none rfl, ?_⟩
    have eC : ∀ x, (Reg.gfr (Reg.opsOf Tryd.f8 11) a0 v [8]).eval (.const x) = x := fun _ => rfl
    generalize Reg.gfr (Reg.opsOf Tryd.f8 11) a0 v [8] = G at e99 eC ⊢
    generalize hρ : G.eval = ρ at e99 eC
    have hρ' : G.eval = ρ := hρ
    refine Reg.go_run (Value.string (bstr (126 :: (textB idl)))) W ?_ ?_
    · rw [hρ']; simp [execOp, go_sem, e99, eC, k9, b9]
    · exact ⟨Below.refl _ _, rfl⟩
set_option maxHeartbeats 4000000 in
set_option maxRecDepth 20000 in
theorem nn11_h10 :
    Reg.OpOK Tryd.prog (Reg.opsOf Tryd.f8 11) a0 w0 (nn11R lC idl gt) (fun _ _ _ _ => True) 10 := by
    refine Reg.op_ok2 (fun af => { dst := some 101, op := Op.load 30 (Operand.tmp 3), type := 30, pos := "outright.go:42", after := af, guard := none }) #[] (by kernel_rfl) [] (by kernel_rfl) fun af v W hb hd => ?_
    have e3 := (Reg.gfr_eval0 (ops := (Reg.opsOf Tryd.f8 11)) (a0 := a0) (v := v) (L := []) 3 (by kernel_rfl)).trans i3
    refine ⟨Reg.wanted_none rfl, ?_⟩
    generalize Reg.gfr (Reg.opsOf Tryd.f8 11) a0 v [] = G at e3 ⊢
    generalize hρ : G.eval = ρ at e3
    have hρ' : G.eval = ρ := hρ
    exact fun K hK => wp_load_row 30 (.tmp 3) rfl gt (by rw [hρ']; exact e3) 30 (idC idl) (0, 0) _ (M_gt W hb) Tryd.underlying30 rfl hV (hK _ _ ⟨Below.refl _ _, rfl⟩)
set_option maxHeartbeats 4000000 in
set_option maxRecDepth 20000 in
theorem nn11_h11 :
    Reg.OpOK Tryd.prog (Reg.opsOf Tryd.f8 11) a0 w0 (nn11R lC idl gt) (fun _ _ _ _ => True) 11 := by
    refine Reg.op_ok2 (fun af => { dst := some 102, op := Op.call { callee := Callee.value (Operand.func 27), args := #[Operand.tmp 101], argTypes := #[30] }, type := 9, pos := "outright.go:42", after := af, guard := none }) #[{ on := 10, ground := Ground.data }, { on := 8, ground := Ground.chain }] (by kernel_rfl) [10, 8] (by kernel_rfl) fun af v W hb hd => ?_
    have d10 : v 10 = (Value.agg (idC idl)) := hd 10 (by decide)
    have e101 := (Reg.gfr_eval (ops := (Reg.opsOf Tryd.f8 11)) (a0 := a0) (v := v) (L := [10, 8]) 101 10 (by kernel_rfl) (by rw [hsz]; omega)).trans d10
    refine ⟨Reg.wanted_none rfl, ?_⟩
    have eF : ∀ f, (Reg.gfr (Reg.opsOf Tryd.f8 11) a0 v [10, 8]).eval (.func f) = .func (.func f) #[] #[] := fun _ => rfl
    generalize Reg.gfr (Reg.opsOf Tryd.f8 11) a0 v [10, 8] = G at e101 eF ⊢
    generalize hρ : G.eval = ρ at e101 eF
    have hρ' : G.eval = ρ := hρ
    refine Reg.go_call 27 #[(Value.agg (idC idl))] (by rw [hρ']; simp [execOp, go_sem, e101, eF]) ((text_any idl hid W).mono fun e w' he => ?_)
    obtain ⟨rfl, hbb⟩ := he
    exact ⟨_, rfl, hbb, rfl⟩
set_option maxHeartbeats 4000000 in
set_option maxRecDepth 20000 in
theorem nn11_h12 :
    Reg.OpOK Tryd.prog (Reg.opsOf Tryd.f8 11) a0 w0 (nn11R lC idl gt) (fun _ _ _ _ => True) 12 := by
    refine Reg.op_ok2 (fun af => { dst := some 103, op := Op.binOp BinOp.add 9 (Operand.const (Value.string { data := #[97, 32, 98, 126] })) (Operand.tmp 102) 9, type := 9, pos := "outright.go:42", after := af, guard := none }) #[{ on := 11, ground := Ground.data }] (by kernel_rfl) [11] (by kernel_rfl) fun af v W hb hd => ?_
    have d11 : v 11 = (Value.string (bstr (textB idl))) := hd 11 (by decide)
    have e102 := (Reg.gfr_eval (ops := (Reg.opsOf Tryd.f8 11)) (a0 := a0) (v := v) (L := [11]) 102 11 (by kernel_rfl) (by rw [hsz]; omega)).trans d11
    refine ⟨Reg.wanted_none rfl, ?_⟩
    have eC : ∀ x, (Reg.gfr (Reg.opsOf Tryd.f8 11) a0 v [11]).eval (.const x) = x := fun _ => rfl
    generalize Reg.gfr (Reg.opsOf Tryd.f8 11) a0 v [11] = G at e102 eC ⊢
    generalize hρ : G.eval = ρ at e102 eC
    have hρ' : G.eval = ρ := hρ
    refine Reg.go_run (Value.string (bstr ([97, 32, 98, 126] ++ (textB idl)))) W ?_ ?_
    · rw [hρ']; simp [execOp, go_sem, e102, eC, k12, b12]
    · exact ⟨Below.refl _ _, rfl⟩
set_option maxHeartbeats 4000000 in
set_option maxRecDepth 20000 in
theorem nn11_h13 :
    Reg.OpOK Tryd.prog (Reg.opsOf Tryd.f8 11) a0 w0 (nn11R lC idl gt) (fun _ _ _ _ => True) 13 := by
    refine Reg.op_ok2 (fun af => { dst := some 104, op := Op.move (Operand.tmp 4), type := 9, pos := "outright.go:42", after := af, guard := none }) #[] (by kernel_rfl) [] (by kernel_rfl) fun af v W hb hd => ?_
    have e4 := (Reg.gfr_eval0 (ops := (Reg.opsOf Tryd.f8 11)) (a0 := a0) (v := v) (L := []) 4 (by kernel_rfl)).trans i4
    refine ⟨Reg.wanted_none rfl, ?_⟩
    generalize Reg.gfr (Reg.opsOf Tryd.f8 11) a0 v [] = G at e4 ⊢
    generalize hρ : G.eval = ρ at e4
    have hρ' : G.eval = ρ := hρ
    refine Reg.go_run (Value.string (bstr lC)) W ?_ ?_
    · rw [hρ']; simp [execOp, go_sem, e4]
    · exact ⟨Below.refl _ _, rfl⟩
set_option maxHeartbeats 4000000 in
set_option maxRecDepth 20000 in
theorem nn11_h14 :
    Reg.OpOK Tryd.prog (Reg.opsOf Tryd.f8 11) a0 w0 (nn11R lC idl gt) (fun _ _ _ _ => True) 14 := by
    refine Reg.op_ok2 (fun af => { dst := some 105, op := Op.call { callee := Callee.value (Operand.func 28), args := #[Operand.tmp 104], argTypes := #[9] }, type := 9, pos := "outright.go:42", after := af, guard := none }) #[{ on := 13, ground := Ground.data }, { on := 11, ground := Ground.chain }] (by kernel_rfl) [13, 11] (by kernel_rfl) fun af v W hb hd => ?_
    have d13 : v 13 = (Value.string (bstr lC)) := hd 13 (by decide)
    have e104 := (Reg.gfr_eval (ops := (Reg.opsOf Tryd.f8 11)) (a0 := a0) (v := v) (L := [13, 11]) 104 13 (by kernel_rfl) (by rw [hsz]; omega)).trans d13
    refine ⟨Reg.wanted_none rfl, ?_⟩
    have eF : ∀ f, (Reg.gfr (Reg.opsOf Tryd.f8 11) a0 v [13, 11]).eval (.func f) = .func (.func f) #[] #[] := fun _ => rfl
    generalize Reg.gfr (Reg.opsOf Tryd.f8 11) a0 v [13, 11] = G at e104 eF ⊢
    generalize hρ : G.eval = ρ at e104 eF
    have hρ' : G.eval = ρ := hρ
    refine Reg.go_call 28 #[(Value.string (bstr lC))] (by rw [hρ']; simp [execOp, go_sem, e104, eF]) ((upper_any lC hC hCa W).mono fun e w' he => ?_)
    obtain ⟨rfl, hbb⟩ := he
    exact ⟨_, rfl, hbb, rfl⟩
set_option maxHeartbeats 4000000 in
set_option maxRecDepth 20000 in
theorem nn11_h15 :
    Reg.OpOK Tryd.prog (Reg.opsOf Tryd.f8 11) a0 w0 (nn11R lC idl gt) (fun _ _ _ _ => True) 15 := by
    refine Reg.op_ok2 (fun af => { dst := some 106, op := Op.load 30 (Operand.tmp 3), type := 30, pos := "outright.go:42", after := af, guard := none }) #[] (by kernel_rfl) [] (by kernel_rfl) fun af v W hb hd => ?_
    have e3 := (Reg.gfr_eval0 (ops := (Reg.opsOf Tryd.f8 11)) (a0 := a0) (v := v) (L := []) 3 (by kernel_rfl)).trans i3
    refine ⟨Reg.wanted_none rfl, ?_⟩
    generalize Reg.gfr (Reg.opsOf Tryd.f8 11) a0 v [] = G at e3 ⊢
    generalize hρ : G.eval = ρ at e3
    have hρ' : G.eval = ρ := hρ
    exact fun K hK => wp_load_row 30 (.tmp 3) rfl gt (by rw [hρ']; exact e3) 30 (idC idl) (0, 0) _ (M_gt W hb) Tryd.underlying30 rfl hV (hK _ _ ⟨Below.refl _ _, rfl⟩)
set_option maxHeartbeats 4000000 in
set_option maxRecDepth 20000 in
theorem nn11_h16 :
    Reg.OpOK Tryd.prog (Reg.opsOf Tryd.f8 11) a0 w0 (nn11R lC idl gt) (fun _ _ _ _ => True) 16 := by
    refine Reg.op_ok2 (fun af => { dst := some 107, op := Op.call { callee := Callee.value (Operand.func 27), args := #[Operand.tmp 106], argTypes := #[30] }, type := 9, pos := "outright.go:42", after := af, guard := none }) #[{ on := 15, ground := Ground.data }, { on := 14, ground := Ground.chain }] (by kernel_rfl) [15, 14] (by kernel_rfl) fun af v W hb hd => ?_
    have d15 : v 15 = (Value.agg (idC idl)) := hd 15 (by decide)
    have e106 := (Reg.gfr_eval (ops := (Reg.opsOf Tryd.f8 11)) (a0 := a0) (v := v) (L := [15, 14]) 106 15 (by kernel_rfl) (by rw [hsz]; omega)).trans d15
    refine ⟨Reg.wanted_none rfl, ?_⟩
    have eF : ∀ f, (Reg.gfr (Reg.opsOf Tryd.f8 11) a0 v [15, 14]).eval (.func f) = .func (.func f) #[] #[] := fun _ => rfl
    generalize Reg.gfr (Reg.opsOf Tryd.f8 11) a0 v [15, 14] = G at e106 eF ⊢
    generalize hρ : G.eval = ρ at e106 eF
    have hρ' : G.eval = ρ := hρ
    refine Reg.go_call 27 #[(Value.agg (idC idl))] (by rw [hρ']; simp [execOp, go_sem, e106, eF]) ((text_any idl hid W).mono fun e w' he => ?_)
    obtain ⟨rfl, hbb⟩ := he
    exact ⟨_, rfl, hbb, rfl⟩
set_option maxHeartbeats 4000000 in
set_option maxRecDepth 20000 in
theorem nn11_h17 :
    Reg.OpOK Tryd.prog (Reg.opsOf Tryd.f8 11) a0 w0 (nn11R lC idl gt) (fun _ _ _ _ => True) 17 := by
    refine Reg.op_ok2 (fun af => { dst := some 108, op := Op.binOp BinOp.add 9 (Operand.const (Value.string { data := #[109, 97, 105, 110, 126, 126] })) (Operand.tmp 107) 9, type := 9, pos := "outright.go:42", after := af, guard := none }) #[{ on := 16, ground := Ground.data }] (by kernel_rfl) [16] (by kernel_rfl) fun af v W hb hd => ?_
    have d16 : v 16 = (Value.string (bstr (textB idl))) := hd 16 (by decide)
    have e107 := (Reg.gfr_eval (ops := (Reg.opsOf Tryd.f8 11)) (a0 := a0) (v := v) (L := [16]) 107 16 (by kernel_rfl) (by rw [hsz]; omega)).trans d16
    refine ⟨Reg.wanted_none rfl, ?_⟩
    have eC : ∀ x, (Reg.gfr (Reg.opsOf Tryd.f8 11) a0 v [16]).eval (.const x) = x := fun _ => rfl
    generalize Reg.gfr (Reg.opsOf Tryd.f8 11) a0 v [16] = G at e107 eC ⊢
    generalize hρ : G.eval = ρ at e107 eC
    have hρ' : G.eval = ρ := hρ
    refine Reg.go_run (Value.string (bstr ([109, 97, 105, 110, 126, 126] ++ (textB idl)))) W ?_ ?_
    · rw [hρ']; simp [execOp, go_sem, e107, eC, k17, b17]
    · exact ⟨Below.refl _ _, rfl⟩
set_option maxHeartbeats 4000000 in
set_option maxRecDepth 20000 in
theorem nn11_h18 :
    Reg.OpOK Tryd.prog (Reg.opsOf Tryd.f8 11) a0 w0 (nn11R lC idl gt) (fun _ _ _ _ => True) 18 := by
    refine Reg.op_ok2 (fun af => { dst := some 109, op := Op.load 30 (Operand.tmp 3), type := 30, pos := "outright.go:42", after := af, guard := none }) #[] (by kernel_rfl) [] (by kernel_rfl) fun af v W hb hd => ?_
    have e3 := (Reg.gfr_eval0 (ops := (Reg.opsOf Tryd.f8 11)) (a0 := a0) (v := v) (L := []) 3 (by kernel_rfl)).trans i3
    refine ⟨Reg.wanted_none rfl, ?_⟩
    generalize Reg.gfr (Reg.opsOf Tryd.f8 11) a0 v [] = G at e3 ⊢
    generalize hρ : G.eval = ρ at e3
    have hρ' : G.eval = ρ := hρ
    exact fun K hK => wp_load_row 30 (.tmp 3) rfl gt (by rw [hρ']; exact e3) 30 (idC idl) (0, 0) _ (M_gt W hb) Tryd.underlying30 rfl hV (hK _ _ ⟨Below.refl _ _, rfl⟩)
set_option maxHeartbeats 4000000 in
set_option maxRecDepth 20000 in
theorem nn11_h19 :
    Reg.OpOK Tryd.prog (Reg.opsOf Tryd.f8 11) a0 w0 (nn11R lC idl gt) (fun _ _ _ _ => True) 19 := by
    refine Reg.op_ok2 (fun af => { dst := some 110, op := Op.call { callee := Callee.value (Operand.func 27), args := #[Operand.tmp 109], argTypes := #[30] }, type := 9, pos := "outright.go:42", after := af, guard := none }) #[{ on := 18, ground := Ground.data }, { on := 16, ground := Ground.chain }] (by kernel_rfl) [18, 16] (by kernel_rfl) fun af v W hb hd => ?_
    have d18 : v 18 = (Value.agg (idC idl)) := hd 18 (by decide)
    have e109 := (Reg.gfr_eval (ops := (Reg.opsOf Tryd.f8 11)) (a0 := a0) (v := v) (L := [18, 16]) 109 18 (by kernel_rfl) (by rw [hsz]; omega)).trans d18
    refine ⟨Reg.wanted_none rfl, ?_⟩
    have eF : ∀ f, (Reg.gfr (Reg.opsOf Tryd.f8 11) a0 v [18, 16]).eval (.func f) = .func (.func f) #[] #[] := fun _ => rfl
    generalize Reg.gfr (Reg.opsOf Tryd.f8 11) a0 v [18, 16] = G at e109 eF ⊢
    generalize hρ : G.eval = ρ at e109 eF
    have hρ' : G.eval = ρ := hρ
    refine Reg.go_call 27 #[(Value.agg (idC idl))] (by rw [hρ']; simp [execOp, go_sem, e109, eF]) ((text_any idl hid W).mono fun e w' he => ?_)
    obtain ⟨rfl, hbb⟩ := he
    exact ⟨_, rfl, hbb, rfl⟩
set_option maxHeartbeats 4000000 in
set_option maxRecDepth 20000 in
theorem nn11_h20 :
    Reg.OpOK Tryd.prog (Reg.opsOf Tryd.f8 11) a0 w0 (nn11R lC idl gt) (fun _ _ _ _ => True) 20 := by
    refine Reg.op_ok2 (fun af => { dst := some 111, op := Op.binOp BinOp.add 9 (Operand.const (Value.string { data := #[109, 97, 105, 110, 126] })) (Operand.tmp 110) 9, type := 9, pos := "outright.go:42", after := af, guard := none }) #[{ on := 19, ground := Ground.data }] (by kernel_rfl) [19] (by kernel_rfl) fun af v W hb hd => ?_
    have d19 : v 19 = (Value.string (bstr (textB idl))) := hd 19 (by decide)
    have e110 := (Reg.gfr_eval (ops := (Reg.opsOf Tryd.f8 11)) (a0 := a0) (v := v) (L := [19]) 110 19 (by kernel_rfl) (by rw [hsz]; omega)).trans d19
    refine ⟨Reg.wanted_none rfl, ?_⟩
    have eC : ∀ x, (Reg.gfr (Reg.opsOf Tryd.f8 11) a0 v [19]).eval (.const x) = x := fun _ => rfl
    generalize Reg.gfr (Reg.opsOf Tryd.f8 11) a0 v [19] = G at e110 eC ⊢
    generalize hρ : G.eval = ρ at e110 eC
    have hρ' : G.eval = ρ := hρ
    refine Reg.go_run (Value.string (bstr (109 :: 97 :: 105 :: 110 :: 126 :: (textB idl)))) W ?_ ?_
    · rw [hρ']; simp [execOp, go_sem, e110, eC, k20, b20]
    · exact ⟨Below.refl _ _, rfl⟩
set_option maxHeartbeats 4000000 in
set_option maxRecDepth 20000 in
theorem nn11_h21 :
    Reg.OpOK Tryd.prog (Reg.opsOf Tryd.f8 11) a0 w0 (nn11R lC idl gt) (fun _ _ _ _ => True) 21 := by
    refine Reg.op_ok2 (fun af => { dst := some 112, op := Op.binOp BinOp.add 9 (Operand.tmp 111) (Operand.const (Value.string { data := #[126] })) 9, type := 9, pos := "outright.go:42", after := af, guard := none }) #[{ on := 20, ground := Ground.data }] (by kernel_rfl) [20] (by kernel_rfl) fun af v W hb hd => ?_
    have d20 : v 20 = (Value.string (bstr (109 :: 97 :: 105 :: 110 :: 126 :: (textB idl)))) := hd 20 (by decide)
    have e111 := (Reg.gfr_eval (ops := (Reg.opsOf Tryd.f8 11)) (a0 := a0) (v := v) (L := [20]) 111 20 (by kernel_rfl) (by rw [hsz]; omega)).trans d20
    refine ⟨Reg.wanted_none rfl, ?_⟩
    have eC : ∀ x, (Reg.gfr (Reg.opsOf Tryd.f8 11) a0 v [20]).eval (.const x) = x := fun _ => rfl
    generalize Reg.gfr (Reg.opsOf Tryd.f8 11) a0 v [20] = G at e111 eC ⊢
    generalize hρ : G.eval = ρ at e111 eC
    have hρ' : G.eval = ρ := hρ
    refine Reg.go_run (Value.string (bstr (([109, 97, 105, 110, 126] ++ (textB idl)) ++ [126]))) W ?_ ?_
    · rw [hρ']; simp [execOp, go_sem, e111, eC, k21, b21]
    · exact ⟨Below.refl _ _, rfl⟩
set_option maxHeartbeats 4000000 in
set_option maxRecDepth 20000 in
theorem nn11_h22 :
    Reg.OpOK Tryd.prog (Reg.opsOf Tryd.f8 11) a0 w0 (nn11R lC idl gt) (fun _ _ _ _ => True) 22 := by
    refine Reg.op_ok2 (fun af => { dst := some 113, op := Op.buildSlice 26 10 #[(0, Operand.const (Value.string { data := #[] })), (1, Operand.const (Value.string { data := #[126] })), (2, Operand.const (Value.string { data := #[109, 97, 105, 110, 126] })), (3, Operand.tmp 92), (4, Operand.tmp 97), (5, Operand.tmp 100), (6, Operand.tmp 103), (7, Operand.tmp 105), (8, Operand.tmp 108), (9, Operand.tmp 112)], type := 26, pos := "outright.go:42", after := af, guard := none }) #[{ on := 1, ground := Ground.data }, { on := 6, ground := Ground.data }, { on := 9, ground := Ground.data }, { on := 12, ground := Ground.data }, { on := 14, ground := Ground.data }, { on := 17, ground := Ground.data }, { on := 21, ground := Ground.data }] (by kernel_rfl) [1, 6, 9, 12, 14, 17, 21] (by kernel_rfl) fun af v W hb hd => ?_
    have d1 : v 1 = (Value.string (bstr (lC ++ [48]))) := hd 1 (by decide)
    have d6 : v 6 = (Value.string (bstr (lC.take 68))) := hd 6 (by decide)
    have d9 : v 9 = (Value.string (bstr (126 :: (textB idl)))) := hd 9 (by decide)
    have d12 : v 12 = (Value.string (bstr ([97, 32, 98, 126] ++ (textB idl)))) := hd 12 (by decide)
    have d14 : v 14 = (Value.string (bstr (Lib.toUpperA lC))) := hd 14 (by decide)
    have d17 : v 17 = (Value.string (bstr ([109, 97, 105, 110, 126, 126] ++ (textB idl)))) := hd 17 (by decide)
    have d21 : v 21 = (Value.string (bstr (([109, 97, 105, 110, 126] ++ (textB idl)) ++ [126]))) := hd 21 (by decide)
    have e92 := (Reg.gfr_eval (ops := (Reg.opsOf Tryd.f8 11)) (a0 := a0) (v := v) (L := [1, 6, 9, 12, 14, 17, 21]) 92 1 (by kernel_rfl) (by rw [hsz]; omega)).trans d1
    have e97 := (Reg.gfr_eval (ops := (Reg.opsOf Tryd.f8 11)) (a0 := a0) (v := v) (L := [1, 6, 9, 12, 14, 17, 21]) 97 6 (by kernel_rfl) (by rw [hsz]; omega)).trans d6
    have e100 := (Reg.gfr_eval (ops := (Reg.opsOf Tryd.f8 11)) (a0 := a0) (v := v) (L := [1, 6, 9, 12, 14, 17, 21]) 100 9 (by kernel_rfl) (by rw [hsz]; omega)).trans d9
    have e103 := (Reg.gfr_eval (ops := (Reg.opsOf Tryd.f8 11)) (a0 := a0) (v := v) (L := [1, 6, 9, 12, 14, 17, 21]) 103 12 (by kernel_rfl) (by rw [hsz]; omega)).trans d12
    have e105 := (Reg.gfr_eval (ops := (Reg.opsOf Tryd.f8 11)) (a0 := a0) (v := v) (L := [1, 6, 9, 12, 14, 17, 21]) 105 14 (by kernel_rfl) (by rw [hsz]; omega)).trans d14
    have e108 := (Reg.gfr_eval (ops := (Reg.opsOf Tryd.f8 11)) (a0 := a0) (v := v) (L := [1, 6, 9, 12, 14, 17, 21]) 108 17 (by kernel_rfl) (by rw [hsz]; omega)).trans d17
    have e112 := (Reg.gfr_eval (ops := (Reg.opsOf Tryd.f8 11)) (a0 := a0) (v := v) (L := [1, 6, 9, 12, 14, 17, 21]) 112 21 (by kernel_rfl) (by rw [hsz]; omega)).trans d21
    refine ⟨Reg.wanted_none rfl, ?_⟩
    have eC : ∀ x, (Reg.gfr (Reg.opsOf Tryd.f8 11) a0 v [1, 6, 9, 12, 14, 17, 21]).eval (.const x) = x := fun _ => rfl
    generalize Reg.gfr (Reg.opsOf Tryd.f8 11) a0 v [1, 6, 9, 12, 14, 17, 21] = G at e92 e97 e100 e103 e105 e108 e112 eC ⊢
    generalize hρ : G.eval = ρ at e92 e97 e100 e103 e105 e108 e112 eC
    have hρ' : G.eval = ρ := hρ
    refine Reg.go_run _ (W.alloc (.cells #[(Value.string { data := #[] }), (Value.string { data := #[126] }), (Value.string { data := #[109, 97, 105, 110, 126] }), (Value.string (bstr (lC ++ [48]))), (Value.string (bstr (lC.take 68))), (Value.string (bstr (126 :: (textB idl)))), (Value.string (bstr ([97, 32, 98, 126] ++ (textB idl)))), (Value.string (bstr (Lib.toUpperA lC))), (Value.string (bstr ([109, 97, 105, 110, 126, 126] ++ (textB idl)))), (Value.string (bstr (([109, 97, 105, 110, 126] ++ (textB idl)) ++ [126])))] 9)) (by rw [hρ']; simp [execOp, go_sem, e92, e97, e100, e103, e105, e108, e112, eC]) ⟨(Below.refl _ W).alloc (Nat.le_refl _) _, ⟨_, rfl, heap_alloc_new _ _⟩⟩
set_option maxHeartbeats 4000000 in
set_option maxRecDepth 20000 in
theorem nn11_h23 :
    Reg.OpOK Tryd.prog (Reg.opsOf Tryd.f8 11) a0 w0 (nn11R lC idl gt) (fun _ _ _ _ => True) 23 := by
    refine Reg.op_ok2 (fun af => { dst := some 114, op := Op.call { callee := Callee.builtin Builtin.len, args := #[Operand.tmp 113], argTypes := #[26] }, type := 3, pos := "outright.go:42", after := af, guard := none }) #[{ on := 22, ground := Ground.data }] (by kernel_rfl) [22] (by kernel_rfl) fun af v W hb hd => ?_
    have d22 : (Reg.IsRow 9 #[(Value.string { data := #[] }), (Value.string { data := #[126] }), (Value.string { data := #[109, 97, 105, 110, 126] }), (Value.string (bstr (lC ++ [48]))), (Value.string (bstr (lC.take 68))), (Value.string (bstr (126 :: (textB idl)))), (Value.string (bstr ([97, 32, 98, 126] ++ (textB idl)))), (Value.string (bstr (Lib.toUpperA lC))), (Value.string (bstr ([109, 97, 105, 110, 126, 126] ++ (textB idl)))), (Value.string (bstr (([109, 97, 105, 110, 126] ++ (textB idl)) ++ [126])))] 10) (v 22) W := hd 22 (by decide)
    have e113 := Reg.gfr_eval (ops := (Reg.opsOf Tryd.f8 11)) (a0 := a0) (v := v) (L := [22]) 113 22 (by kernel_rfl) (by rw [hsz]; omega)
    obtain ⟨gr, hg1, hg2⟩ := d22
    rw [hg1] at e113
    refine ⟨Reg.wanted_none rfl, ?_⟩
    generalize Reg.gfr (Reg.opsOf Tryd.f8 11) a0 v [22] = G at e113 ⊢
    generalize hρ : G.eval = ρ at e113
    have hρ' : G.eval = ρ := hρ
    refine Reg.go_run _ W (by rw [hρ']; simp [execOp, go_sem, e113]) ⟨Below.refl _ _, rfl⟩
set_option maxHeartbeats 4000000 in
set_option maxRecDepth 20000 in
theorem nn11_h24 :
    Reg.OpOK Tryd.prog (Reg.opsOf Tryd.f8 11) a0 w0 (nn11R lC idl gt) (fun _ _ _ _ => True) 24 := by
    refine Reg.op_ok2 (fun af => { dst := some 115, op := Op.move (Operand.const (Value.int IntKind.i64 0)), type := 3, pos := "outright.go:42", after := af, guard := none }) #[] (by kernel_rfl) [] (by kernel_rfl) fun af v W hb hd => ?_
    refine ⟨Reg.wanted_none rfl, ?_⟩
    have eC : ∀ x, (Reg.gfr (Reg.opsOf Tryd.f8 11) a0 v []).eval (.const x) = x := fun _ => rfl
    generalize Reg.gfr (Reg.opsOf Tryd.f8 11) a0 v [] = G at eC ⊢
    generalize hρ : G.eval = ρ at eC
    have hρ' : G.eval = ρ := hρ
    refine Reg.go_run (Value.int IntKind.i64 0) W ?_ ?_
    · rw [hρ']; simp [execOp, go_sem, eC]
    · exact ⟨Below.refl _ _, rfl⟩
end
set_option maxHeartbeats 4000000 in
set_option maxRecDepth 20000 in
theorem nn11 (lC idl : List UInt8) (gt : Nat) (w0 : World) {s0 s1 s2 s5 s6 s7 s8 s9 s10 s11 s12 s13 s14 s15 s16 s17 s18 s19 s20 s21 s22 s23 s24 s25 s26 s27 s28 s29 s30 s31 s32 s33 s34 s35 s36 s37 s38 s39 s40 s41 s42 s43 s44 s45 s46 s47 s48 s49 s50 s51 s52 s53 s54 s55 s56 s57 s58 s59 s60 s61 s62 s63 s64 s65 s66 s67 s68 s69 s70 s71 s72 s73 s74 s75 s76 s77 s78 s79 s80 s81 s82 s83 s84 s85 s86 s87 s88 s89 s90 s91 s92 s93 s94 s95 s96 s97 s98 s99 s100 s101 s102 s103 s104 s105 s106 s107 s108 s109 s110 s111 s112 s113 s114 s115 s116 s117 s118 s119 s120 s121 s122 s123 s124 s125 s126 s127 s128 s129 s130 s131 s132 s133 s134 s135 s136 s137 s138 s139 s140 s141 s142 s143 s144 s145 s146 s147 s148 s149 s150 s151 s152 s153 s154 s155 s156 s157 s158 s159 s160 s161 s162 s163 s164 s165 s166 s167 s168 s169 s170 s171 s172 s173 s174 s175 s176 s177 s178 s179 s180 s181 s182 s183 s184 s185 s186 s187 s188 s189 s190 s191 s192 s193 s194 s195 s196 s197 s198 s199 s200 s201 s202 s203 s204 s205 s206 s207 s208 s209 s210 s211 s212 s213 s214 s215 s216 s217 s218 s219 s220 s221 s222 s223 s224 s225 s226 s227 s228 s229 s230 s231 s232 : Value}
    (hid : idl.length = 32) (hV : (Tryd.prog.info? 30).map (·.size) = some (idC idl).size) (hC : lC.length ≤ 1000) (hCa : ∀ b ∈ lC, b.toNat < 128)
    (hszC : ((bstr lC).size : Int) = 69) (hsl : ∀ W, (Instr.slice 9 (.string (bstr lC)) none (some (.int .i64 68)) none).run Tryd.prog W = .ok (.string (bstr (lC.take 68))) W)
    (k1 : bstr lC ++ (⟨#[48]⟩ : ByteArray) = bstr (lC ++ [48])) (b1 : ¬ 9223372036854775807 < (bstr lC).size + 1)
    (k9 : (⟨#[126]⟩ : ByteArray) ++ bstr (textB idl) = bstr (126 :: (textB idl))) (b9 : ¬ 9223372036854775807 < 1 + (bstr (textB idl)).size)
    (k12 : (⟨#[97, 32, 98, 126]⟩ : ByteArray) ++ bstr (textB idl) = bstr ([97, 32, 98, 126] ++ (textB idl))) (b12 : ¬ 9223372036854775807 < 4 + (bstr (textB idl)).size)
    (k17 : (⟨#[109, 97, 105, 110, 126, 126]⟩ : ByteArray) ++ bstr (textB idl) = bstr ([109, 97, 105, 110, 126, 126] ++ (textB idl))) (b17 : ¬ 9223372036854775807 < 6 + (bstr (textB idl)).size)
    (k20 : (⟨#[109, 97, 105, 110, 126]⟩ : ByteArray) ++ bstr (textB idl) = bstr (109 :: 97 :: 105 :: 110 :: 126 :: (textB idl))) (b20 : ¬ 9223372036854775807 < 5 + (bstr (textB idl)).size)
    (k21 : bstr (109 :: 97 :: 105 :: 110 :: 126 :: (textB idl)) ++ (⟨#[126]⟩ : ByteArray) = bstr (([109, 97, 105, 110, 126] ++ (textB idl)) ++ [126])) (b21 : ¬ 9223372036854775807 < (bstr (109 :: 97 :: 105 :: 110 :: 126 :: (textB idl))).size + 1)
    (M_gt : ∀ W, Below w0.heap.size w0 W → W.heap[gt]? = some (.cells (idC idl) 30 (0, 0)))
    {Q : Exit → Act → World → Prop}
    (hend : ∀ (w : World) (r113 : Value), Below w0.heap.size w0 w → (Reg.IsRow 9 #[(Value.string { data := #[] }), (Value.string { data := #[126] }), (Value.string { data := #[109, 97, 105, 110, 126] }), (Value.string (bstr (lC ++ [48]))), (Value.string (bstr (lC.take 68))), (Value.string (bstr (126 :: (textB idl)))), (Value.string (bstr ([97, 32, 98, 126] ++ (textB idl)))), (Value.string (bstr (Lib.toUpperA lC))), (Value.string (bstr ([109, 97, 105, 110, 126, 126] ++ (textB idl)))), (Value.string (bstr (([109, 97, 105, 110, 126] ++ (textB idl)) ++ [126])))] 10) r113 w → Q .normal { tmps := #[s0, s1, s2, (Value.pointer (some ⟨gt, 0, none⟩)), (Value.string (bstr lC)), s5, s6, s7, s8, s9, s10, s11, s12, s13, s14, s15, s16, s17, s18, s19, s20, s21, s22, s23, s24, s25, s26, s27, s28, s29, s30, s31, s32, s33, s34, s35, s36, s37, s38, s39, s40, s41, s42, s43, s44, s45, s46, s47, s48, s49, s50, s51, s52, s53, s54, s55, s56, s57, s58, s59, s60, s61, s62, s63, s64, s65, s66, s67, s68, s69, s70, s71, s72, s73, s74, s75, s76, s77, s78, s79, s80, s81, s82, s83, s84, s85, s86, s87, s88, s89, s90, (Value.string (bstr lC)), (Value.string (bstr (lC ++ [48]))), (Value.string (bstr lC)), (Value.string (bstr lC)), (Value.int IntKind.i64 69), (Value.int IntKind.i64 68), (Value.string (bstr (lC.take 68))), (Value.agg (idC idl)), (Value.string (bstr (textB idl))), (Value.string (bstr (126 :: (textB idl)))), (Value.agg (idC idl)), (Value.string (bstr (textB idl))), (Value.string (bstr ([97, 32, 98, 126] ++ (textB idl)))), (Value.string (bstr lC)), (Value.string (bstr (Lib.toUpperA lC))), (Value.agg (idC idl)), (Value.string (bstr (textB idl))), (Value.string (bstr ([109, 97, 105, 110, 126, 126] ++ (textB idl)))), (Value.agg (idC idl)), (Value.string (bstr (textB idl))), (Value.string (bstr (109 :: 97 :: 105 :: 110 :: 126 :: (textB idl)))), (Value.string (bstr (([109, 97, 105, 110, 126] ++ (textB idl)) ++ [126]))), r113, (Value.int IntKind.i64 10), (Value.int IntKind.i64 0), s116, s117, s118, s119, s120, s121, s122, s123, s124, s125, s126, s127, s128, s129, s130, s131, s132, s133, s134, s135, s136, s137, s138, s139, s140, s141, s142, s143, s144, s145, s146, s147, s148, s149, s150, s151, s152, s153, s154, s155, s156, s157, s158, s159, s160, s161, s162, s163, s164, s165, s166, s167, s168, s169, s170, s171, s172, s173, s174, s175, s176, s177, s178, s179, s180, s181, s182, s183, s184, s185, s186, s187, s188, s189, s190, s191, s192, s193, s194, s195, s196, s197, s198, s199, s200, s201, s202, s203, s204, s205, s206, s207, s208, s209, s210, s211, s212, s213, s214, s215, s216, s217, s218, s219, s220, s221, s222, s223, s224, s225, s226, s227, s228, s229, s230, s231, s232], defers := [] } w) :
    (Code.region 11 (Reg.opsOf Tryd.f8 11) true).wp Tryd.prog Q { tmps := #[s0, s1, s2, (Value.pointer (some ⟨gt, 0, none⟩)), (Value.string (bstr lC)), s5, s6, s7, s8, s9, s10, s11, s12, s13, s14, s15, s16, s17, s18, s19, s20, s21, s22, s23, s24, s25, s26, s27, s28, s29, s30, s31, s32, s33, s34, s35, s36, s37, s38, s39, s40, s41, s42, s43, s44, s45, s46, s47, s48, s49, s50, s51, s52, s53, s54, s55, s56, s57, s58, s59, s60, s61, s62, s63, s64, s65, s66, s67, s68, s69, s70, s71, s72, s73, s74, s75, s76, s77, s78, s79, s80, s81, s82, s83, s84, s85, s86, s87, s88, s89, s90, s91, s92, s93, s94, s95, s96, s97, s98, s99, s100, s101, s102, s103, s104, s105, s106, s107, s108, s109, s110, s111, s112, s113, s114, s115, s116, s117, s118, s119, s120, s121, s122, s123, s124, s125, s126, s127, s128, s129, s130, s131, s132, s133, s134, s135, s136, s137, s138, s139, s140, s141, s142, s143, s144, s145, s146, s147, s148, s149, s150, s151, s152, s153, s154, s155, s156, s157, s158, s159, s160, s161, s162, s163, s164, s165, s166, s167, s168, s169, s170, s171, s172, s173, s174, s175, s176, s177, s178, s179, s180, s181, s182, s183, s184, s185, s186, s187, s188, s189, s190, s191, s192, s193, s194, s195, s196, s197, s198, s199, s200, s201, s202, s203, s204, s205, s206, s207, s208, s209, s210, s211, s212, s213, s214, s215, s216, s217, s218, s219, s220, s221, s222, s223, s224, s225, s226, s227, s228, s229, s230, s231, s232], defers := [] } w0 := by
  obtain ⟨a0, ha0⟩ : ∃ a0 : Act, a0 = { tmps := #[s0, s1, s2, (Value.pointer (some ⟨gt, 0, none⟩)), (Value.string (bstr lC)), s5, s6, s7, s8, s9, s10, s11, s12, s13, s14, s15, s16, s17, s18, s19, s20, s21, s22, s23, s24, s25, s26, s27, s28, s29, s30, s31, s32, s33, s34, s35, s36, s37, s38, s39, s40, s41, s42, s43, s44, s45, s46, s47, s48, s49, s50, s51, s52, s53, s54, s55, s56, s57, s58, s59, s60, s61, s62, s63, s64, s65, s66, s67, s68, s69, s70, s71, s72, s73, s74, s75, s76, s77, s78, s79, s80, s81, s82, s83, s84, s85, s86, s87, s88, s89, s90, s91, s92, s93, s94, s95, s96, s97, s98, s99, s100, s101, s102, s103, s104, s105, s106, s107, s108, s109, s110, s111, s112, s113, s114, s115, s116, s117, s118, s119, s120, s121, s122, s123, s124, s125, s126, s127, s128, s129, s130, s131, s132, s133, s134, s135, s136, s137, s138, s139, s140, s141, s142, s143, s144, s145, s146, s147, s148, s149, s150, s151, s152, s153, s154, s155, s156, s157, s158, s159, s160, s161, s162, s163, s164, s165, s166, s167, s168, s169, s170, s171, s172, s173, s174, s175, s176, s177, s178, s179, s180, s181, s182, s183, s184, s185, s186, s187, s188, s189, s190, s191, s192, s193, s194, s195, s196, s197, s198, s199, s200, s201, s202, s203, s204, s205, s206, s207, s208, s209, s210, s211, s212, s213, s214, s215, s216, s217, s218, s219, s220, s221, s222, s223, s224, s225, s226, s227, s228, s229, s230, s231, s232], defers := [] } := ⟨_, rfl⟩
  have hfin : ∀ v : Nat → Value, Reg.gfr (Reg.opsOf Tryd.f8 11) a0 v (List.range 25) = { tmps := #[s0, s1, s2, (Value.pointer (some ⟨gt, 0, none⟩)), (Value.string (bstr lC)), s5, s6, s7, s8, s9, s10, s11, s12, s13, s14, s15, s16, s17, s18, s19, s20, s21, s22, s23, s24, s25, s26, s27, s28, s29, s30, s31, s32, s33, s34, s35, s36, s37, s38, s39, s40, s41, s42, s43, s44, s45, s46, s47, s48, s49, s50, s51, s52, s53, s54, s55, s56, s57, s58, s59, s60, s61, s62, s63, s64, s65, s66, s67, s68, s69, s70, s71, s72, s73, s74, s75, s76, s77, s78, s79, s80, s81, s82, s83, s84, s85, s86, s87, s88, s89, s90, v 0, v 1, v 2, v 3, v 4, v 5, v 6, v 7, v 8, v 9, v 10, v 11, v 12, v 13, v 14, v 15, v 16, v 17, v 18, v 19, v 20, v 21, v 22, v 23, v 24, s116, s117, s118, s119, s120, s121, s122, s123, s124, s125, s126, s127, s128, s129, s130, s131, s132, s133, s134, s135, s136, s137, s138, s139, s140, s141, s142, s143, s144, s145, s146, s147, s148, s149, s150, s151, s152, s153, s154, s155, s156, s157, s158, s159, s160, s161, s162, s163, s164, s165, s166, s167, s168, s169, s170, s171, s172, s173, s174, s175, s176, s177, s178, s179, s180, s181, s182, s183, s184, s185, s186, s187, s188, s189, s190, s191, s192, s193, s194, s195, s196, s197, s198, s199, s200, s201, s202, s203, s204, s205, s206, s207, s208, s209, s210, s211, s212, s213, s214, s215, s216, s217, s218, s219, s220, s221, s222, s223, s224, s225, s226, s227, s228, s229, s230, s231, s232], defers := [] } := fun v => by rw [ha0]; kernel_rfl
  rw [← ha0]
  have i3 : a0.eval (.tmp 3) = (Value.pointer (some ⟨gt, 0, none⟩)) := by rw [ha0]; rfl
  have i4 : a0.eval (.tmp 4) = (Value.string (bstr lC)) := by rw [ha0]; rfl
  have hsz : a0.tmps.size = 233 := by rw [ha0]; rfl
  clear ha0
  have hn : (Reg.opsOf Tryd.f8 11).size = 25 := by kernel_rfl
  have h0 := nn11_h0 lC idl gt w0 a0 hid hV hC hCa hszC hsl k1 b1 k9 b9 k12 b12 k17 b17 k20 b20 k21 b21 M_gt i3 i4 hsz
  have h1 := nn11_h1 lC idl gt w0 a0 hid hV hC hCa hszC hsl k1 b1 k9 b9 k12 b12 k17 b17 k20 b20 k21 b21 M_gt i3 i4 hsz
  have h2 := nn11_h2 lC idl gt w0 a0 hid hV hC hCa hszC hsl k1 b1 k9 b9 k12 b12 k17 b17 k20 b20 k21 b21 M_gt i3 i4 hsz
  have h3 := nn11_h3 lC idl gt w0 a0 hid hV hC hCa hszC hsl k1 b1 k9 b9 k12 b12 k17 b17 k20 b20 k21 b21 M_gt i3 i4 hsz
  have h4 := nn11_h4 lC idl gt w0 a0 hid hV hC hCa hszC hsl k1 b1 k9 b9 k12 b12 k17 b17 k20 b20 k21 b21 M_gt i3 i4 hsz
  have h5 := nn11_h5 lC idl gt w0 a0 hid hV hC hCa hszC hsl k1 b1 k9 b9 k12 b12 k17 b17 k20 b20 k21 b21 M_gt i3 i4 hsz
  have h6 := nn11_h6 lC idl gt w0 a0 hid hV hC hCa hszC hsl k1 b1 k9 b9 k12 b12 k17 b17 k20 b20 k21 b21 M_gt i3 i4 hsz
  have h7 := nn11_h7 lC idl gt w0 a0 hid hV hC hCa hszC hsl k1 b1 k9 b9 k12 b12 k17 b17 k20 b20 k21 b21 M_gt i3 i4 hsz
  have h8 := nn11_h8 lC idl gt w0 a0 hid hV hC hCa hszC hsl k1 b1 k9 b9 k12 b12 k17 b17 k20 b20 k21 b21 M_gt i3 i4 hsz
  have h9 := nn11_h9 lC idl gt w0 a0 hid hV hC hCa hszC hsl k1 b1 k9 b9 k12 b12 k17 b17 k20 b20 k21 b21 M_gt i3 i4 hsz
  have h10 := nn11_h10 lC idl gt w0 a0 hid hV hC hCa hszC hsl k1 b1 k9 b9 k12 b12 k17 b17 k20 b20 k21 b21 M_gt i3 i4 hsz
  have h11 := nn11_h11 lC idl gt w0 a0 hid hV hC hCa hszC hsl k1 b1 k9 b9 k12 b12 k17 b17 k20 b20 k21 b21 M_gt i3 i4 hsz
  have h12 := nn11_h12 lC idl gt w0 a0 hid hV hC hCa hszC hsl k1 b1 k9 b9 k12 b12 k17 b17 k20 b20 k21 b21 M_gt i3 i4 hsz
  have h13 := nn11_h13 lC idl gt w0 a0 hid hV hC hCa hszC hsl k1 b1 k9 b9 k12 b12 k17 b17 k20 b20 k21 b21 M_gt i3 i4 hsz
  have h14 := nn11_h14 lC idl gt w0 a0 hid hV hC hCa hszC hsl k1 b1 k9 b9 k12 b12 k17 b17 k20 b20 k21 b21 M_gt i3 i4 hsz
  have h15 := nn11_h15 lC idl gt w0 a0 hid hV hC hCa hszC hsl k1 b1 k9 b9 k12 b12 k17 b17 k20 b20 k21 b21 M_gt i3 i4 hsz
  have h16 := nn11_h16 lC idl gt w0 a0 hid hV hC hCa hszC hsl k1 b1 k9 b9 k12 b12 k17 b17 k20 b20 k21 b21 M_gt i3 i4 hsz
  have h17 := nn11_h17 lC idl gt w0 a0 hid hV hC hCa hszC hsl k1 b1 k9 b9 k12 b12 k17 b17 k20 b20 k21 b21 M_gt i3 i4 hsz
  have h18 := nn11_h18 lC idl gt w0 a0 hid hV hC hCa hszC hsl k1 b1 k9 b9 k12 b12 k17 b17 k20 b20 k21 b21 M_gt i3 i4 hsz
  have h19 := nn11_h19 lC idl gt w0 a0 hid hV hC hCa hszC hsl k1 b1 k9 b9 k12 b12 k17 b17 k20 b20 k21 b21 M_gt i3 i4 hsz
  have h20 := nn11_h20 lC idl gt w0 a0 hid hV hC hCa hszC hsl k1 b1 k9 b9 k12 b12 k17 b17 k20 b20 k21 b21 M_gt i3 i4 hsz
  have h21 := nn11_h21 lC idl gt w0 a0 hid hV hC hCa hszC hsl k1 b1 k9 b9 k12 b12 k17 b17 k20 b20 k21 b21 M_gt i3 i4 hsz
  have h22 := nn11_h22 lC idl gt w0 a0 hid hV hC hCa hszC hsl k1 b1 k9 b9 k12 b12 k17 b17 k20 b20 k21 b21 M_gt i3 i4 hsz
  have h23 := nn11_h23 lC idl gt w0 a0 hid hV hC hCa hszC hsl k1 b1 k9 b9 k12 b12 k17 b17 k20 b20 k21 b21 M_gt i3 i4 hsz
  have h24 := nn11_h24 lC idl gt w0 a0 hid hV hC hCa hszC hsl k1 b1 k9 b9 k12 b12 k17 b17 k20 b20 k21 b21 M_gt i3 i4 hsz
  refine Reg.region_all (by kernel_rfl) (nn11R lC idl gt) (by rw [hn, hsz]; kernel_rfl) (nn11_stable lC idl gt) (fun i hi => ?_) (fun v w hb hR => ?_)
  · rw [hn] at hi
    match i, List.mem_range.1 hi with
    | 0, _ => exact h0
    | 1, _ => exact h1
    | 2, _ => exact h2
    | 3, _ => exact h3
    | 4, _ => exact h4
    | 5, _ => exact h5
    | 6, _ => exact h6
    | 7, _ => exact h7
    | 8, _ => exact h8
    | 9, _ => exact h9
    | 10, _ => exact h10
    | 11, _ => exact h11
    | 12, _ => exact h12
    | 13, _ => exact h13
    | 14, _ => exact h14
    | 15, _ => exact h15
    | 16, _ => exact h16
    | 17, _ => exact h17
    | 18, _ => exact h18
    | 19, _ => exact h19
    | 20, _ => exact h20
    | 21, _ => exact h21
    | 22, _ => exact h22
    | 23, _ => exact h23
    | 24, _ => exact h24
    | (_ + 25), h => omega
  · rw [hn] at hR ⊢
    have v0 : v 0 = (Value.string (bstr lC)) := hR 0 (by decide)
    have v1 : v 1 = (Value.string (bstr (lC ++ [48]))) := hR 1 (by decide)
    have v2 : v 2 = (Value.string (bstr lC)) := hR 2 (by decide)
    have v3 : v 3 = (Value.string (bstr lC)) := hR 3 (by decide)
    have v4 : v 4 = (Value.int IntKind.i64 69) := hR 4 (by decide)
    have v5 : v 5 = (Value.int IntKind.i64 68) := hR 5 (by decide)
    have v6 : v 6 = (Value.string (bstr (lC.take 68))) := hR 6 (by decide)
    have v7 : v 7 = (Value.agg (idC idl)) := hR 7 (by decide)
    have v8 : v 8 = (Value.string (bstr (textB idl))) := hR 8 (by decide)
    have v9 : v 9 = (Value.string (bstr (126 :: (textB idl)))) := hR 9 (by decide)
    have v10 : v 10 = (Value.agg (idC idl)) := hR 10 (by decide)
    have v11 : v 11 = (Value.string (bstr (textB idl))) := hR 11 (by decide)
    have v12 : v 12 = (Value.string (bstr ([97, 32, 98, 126] ++ (textB idl)))) := hR 12 (by decide)
    have v13 : v 13 = (Value.string (bstr lC)) := hR 13 (by decide)
    have v14 : v 14 = (Value.string (bstr (Lib.toUpperA lC))) := hR 14 (by decide)
    have v15 : v 15 = (Value.agg (idC idl)) := hR 15 (by decide)
    have v16 : v 16 = (Value.string (bstr (textB idl))) := hR 16 (by decide)
    have v17 : v 17 = (Value.string (bstr ([109, 97, 105, 110, 126, 126] ++ (textB idl)))) := hR 17 (by decide)
    have v18 : v 18 = (Value.agg (idC idl)) := hR 18 (by decide)
    have v19 : v 19 = (Value.string (bstr (textB idl))) := hR 19 (by decide)
    have v20 : v 20 = (Value.string (bstr (109 :: 97 :: 105 :: 110 :: 126 :: (textB idl)))) := hR 20 (by decide)
    have v21 : v 21 = (Value.string (bstr (([109, 97, 105, 110, 126] ++ (textB idl)) ++ [126]))) := hR 21 (by decide)
    have v23 : v 23 = (Value.int IntKind.i64 10) := hR 23 (by decide)
    have v24 : v 24 = (Value.int IntKind.i64 0) := hR 24 (by decide)
    have k113 : (Reg.IsRow 9 #[(Value.string { data := #[] }), (Value.string { data := #[126] }), (Value.string { data := #[109, 97, 105, 110, 126] }), (Value.string (bstr (lC ++ [48]))), (Value.string (bstr (lC.take 68))), (Value.string (bstr (126 :: (textB idl)))), (Value.string (bstr ([97, 32, 98, 126] ++ (textB idl)))), (Value.string (bstr (Lib.toUpperA lC))), (Value.string (bstr ([109, 97, 105, 110, 126, 126] ++ (textB idl)))), (Value.string (bstr (([109, 97, 105, 110, 126] ++ (textB idl)) ++ [126])))] 10) (v 22) w := hR 22 (by decide)
    rw [hfin v, v0, v1, v2, v3, v4, v5, v6, v7, v8, v9, v10, v11, v12, v13, v14, v15, v16, v17, v18, v19, v20, v21, v23, v24]
    exact hend w (v 22) hb k113
end Go.Proofs.YtmfncojkpkoijaaDoor
