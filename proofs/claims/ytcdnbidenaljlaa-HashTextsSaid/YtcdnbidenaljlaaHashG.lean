/- A region that draws its order: its obligations (printed by regen.py). -/
import Derived.Test.YtcdnbidenaljlaaHashS
import Derived.Test.YtcdnbidenaljlaaRegR
namespace Go.Proofs.Ytcdnbidenaljlaa
open Go.RowKit
def textsR (A B V : Array Value) (T : ByteArray) (pe c : Int) : Nat → Value → World → Prop
  | 0 => fun u _ => u = (Value.agg A)
  | 1 => fun u _ => u = (Value.string T)
  | 2 => fun u _ => u = (Value.agg A)
  | 3 => fun u _ => u = (Value.string T)
  | 4 => fun u _ => u = (Value.bool true)
  | 5 => fun u _ => u = (Value.bool true)
  | 6 => fun u _ => u = (Value.agg V)
  | 7 => fun u _ => u = (Value.agg V)
  | 8 => fun u _ => u = (Value.bool true)
  | 9 => fun u _ => u = (Value.bool true)
  | 10 => fun u _ => u = (Value.bool true)
  | 11 => fun u _ => u = (Value.int IntKind.i64 pe)
  | 12 => fun u _ => u = (Value.int IntKind.i64 pe)
  | 13 => fun u _ => u = (Value.bool true)
  | 14 => fun u _ => u = (Value.bool true)
  | 15 => fun u _ => u = (Value.bool true)
  | 16 => fun u _ => u = (Value.agg A)
  | 17 => fun u _ => u = (Value.agg B)
  | 18 => fun u _ => u = (Value.int IntKind.i64 c)
  | 19 => fun u _ => u = (Value.agg A)
  | 20 => fun u _ => u = (Value.agg B)
  | 21 => fun u _ => u = (Value.int IntKind.i64 c)
  | 22 => fun u _ => u = (Value.bool true)
  | 23 => fun u _ => u = (Value.bool true)
  | 24 => fun u _ => u = (Value.bool true)
  | _ => fun _ _ => True
theorem texts_stable (A B V : Array Value) (T : ByteArray) (pe c : Int) : ∀ i u w w', (textsR A B V T pe c) i u w → Below w.heap.size w w' → (textsR A B V T pe c) i u w' := fun i u w w' h hb => by
  match i, h with
  | 0, h => exact h
  | 1, h => exact h
  | 2, h => exact h
  | 3, h => exact h
  | 4, h => exact h
  | 5, h => exact h
  | 6, h => exact h
  | 7, h => exact h
  | 8, h => exact h
  | 9, h => exact h
  | 10, h => exact h
  | 11, h => exact h
  | 12, h => exact h
  | 13, h => exact h
  | 14, h => exact h
  | 15, h => exact h
  | 16, h => exact h
  | 17, h => exact h
  | 18, h => exact h
  | 19, h => exact h
  | 20, h => exact h
  | 21, h => exact h
  | 22, h => exact h
  | 23, h => exact h
  | 24, h => exact h
  | (_ + 25), _ => trivial
set_option maxHeartbeats 4000000 in
set_option maxRecDepth 20000 in
theorem texts (A B V : Array Value) (T : ByteArray) (pe c : Int) (gA gB gX gY : Nat) (w0 : World) (a0 : Act)
    (LA : ∀ W, Below w0.heap.size w0 W → W.heap[gA]? = some (.cells A 23 (0, 0)))
    (LB : ∀ W, Below w0.heap.size w0 W → W.heap[gB]? = some (.cells B 23 (0, 0)))
    (LX : ∀ W, Below w0.heap.size w0 W → W.heap[gX]? = some (.cells V 23 (0, 0)))
    (LY : ∀ W, Below w0.heap.size w0 W → W.heap[gY]? = some (.cells V 23 (0, 0)))
    (q1 : ∀ W, Calls Try.prog 7 #[(Value.agg A)] W fun e w' => e = .returned (Value.string T) ∧ Below W.heap.size W w')
    (q2 : ∀ W, Calls Try.prog 8 #[(Value.agg A)] W fun e w' => e = .returned (Value.string T) ∧ Below W.heap.size W w')
    (q3 : ∀ W, Calls Try.prog 9 #[(Value.agg A), (Value.agg B)] W fun e w' => e = .returned (Value.int IntKind.i64 c) ∧ Below W.heap.size W w')
    (q4 : ∀ W, Calls Try.prog 10 #[(Value.agg A), (Value.agg B)] W fun e w' => e = .returned (Value.int IntKind.i64 c) ∧ Below W.heap.size W w')
    (zA : (Try.prog.info? 23).map (·.size) = some A.size) (zB : (Try.prog.info? 23).map (·.size) = some B.size) (zV : (Try.prog.info? 23).map (·.size) = some V.size)
    (EQ : ∀ W, (Op.equalIn 10000 23 (.agg V) (.agg V)).run Try.prog W = .ok true W)
    (i3 : a0.eval (.tmp 3) = (Value.pointer (some ⟨gA, 0, none⟩)))
    (i4 : a0.eval (.tmp 4) = (Value.pointer (some ⟨gB, 0, none⟩)))
    (i7 : a0.eval (.tmp 7) = (Value.pointer (some ⟨gX, 0, none⟩)))
    (i8 : a0.eval (.tmp 8) = (Value.int IntKind.i64 pe))
    (i9 : a0.eval (.tmp 9) = (Value.pointer (some ⟨gY, 0, none⟩)))
    (i10 : a0.eval (.tmp 10) = (Value.int IntKind.i64 pe))
    (hsz : a0.tmps.size = 48) {Q : Exit → Act → World → Prop}
    (hend : ∀ (a : Act) (w : World), Below w0.heap.size w0 w → a.defers = a0.defers → a.tmps.size = a0.tmps.size → a.eval (.tmp 6) = (Value.bool true) → Q .normal a w) :
    (Code.region 5 (Reg.opsOf Try.f3 5) true).wp Try.prog Q a0 w0 := by
  have hn : (Reg.opsOf Try.f3 5).size = 25 := by kernel_rfl
  have h0 : Reg.OpOK Try.prog (Reg.opsOf Try.f3 5) a0 w0 (textsR A B V T pe c) (fun _ _ _ _ => True) 0 := by
    refine Reg.op_ok (o := { dst := some 24, op := Op.load 23 (Operand.tmp 3), type := 23, pos := "law.go:38", after := #[], guard := none }) (by kernel_rfl) [] (by kernel_rfl) fun v W hb hd => ?_
    have e3 := (Reg.gfr_eval0 (ops := (Reg.opsOf Try.f3 5)) (a0 := a0) (v := v) (L := []) 3 (by kernel_rfl)).trans i3
    refine ⟨Reg.wanted_none rfl, ?_⟩
    generalize hρ : (Reg.gfr (Reg.opsOf Try.f3 5) a0 v []).eval = ρ at e3
    have hρ' : (Reg.gfr (Reg.opsOf Try.f3 5) a0 v []).eval = ρ := hρ
    exact fun K hK => wp_load_row 23 (.tmp 3) rfl gA (by rw [hρ']; exact e3) 23 A (0, 0) _ (LA W hb) Try.underlying23 rfl zA (hK _ _ ⟨Below.refl _ _, rfl⟩)
  have h1 : Reg.OpOK Try.prog (Reg.opsOf Try.f3 5) a0 w0 (textsR A B V T pe c) (fun _ _ _ _ => True) 1 := by
    refine Reg.op_ok (o := { dst := some 25, op := Op.call { callee := Callee.value (Operand.func 7), args := #[Operand.tmp 24], argTypes := #[23] }, type := 9, pos := "law.go:38", after := #[{ on := 0, ground := Ground.data }], guard := none }) (by kernel_rfl) [0] (by kernel_rfl) fun v W hb hd => ?_
    have d0 : v 0 = (Value.agg A) := hd 0 (by decide)
    have e24 := (Reg.gfr_eval (ops := (Reg.opsOf Try.f3 5)) (a0 := a0) (v := v) (L := [0]) 24 0 (by kernel_rfl) (by rw [hsz]; omega)).trans d0
    refine ⟨Reg.wanted_none rfl, ?_⟩
    have eF : ∀ f, (Reg.gfr (Reg.opsOf Try.f3 5) a0 v [0]).eval (.func f) = .func (.func f) #[] #[] := fun _ => rfl
    generalize hρ : (Reg.gfr (Reg.opsOf Try.f3 5) a0 v [0]).eval = ρ at e24 eF
    have hρ' : (Reg.gfr (Reg.opsOf Try.f3 5) a0 v [0]).eval = ρ := hρ
    refine Reg.go_call 7 #[(Value.agg A)] (by rw [hρ']; simp [execOp, go_sem, e24, eF]) ((q1 W).mono fun e w' he => ?_)
    obtain ⟨rfl, hbb⟩ := he
    exact ⟨_, rfl, hbb, rfl⟩
  have h2 : Reg.OpOK Try.prog (Reg.opsOf Try.f3 5) a0 w0 (textsR A B V T pe c) (fun _ _ _ _ => True) 2 := by
    refine Reg.op_ok (o := { dst := some 26, op := Op.load 23 (Operand.tmp 3), type := 23, pos := "law.go:38", after := #[], guard := none }) (by kernel_rfl) [] (by kernel_rfl) fun v W hb hd => ?_
    have e3 := (Reg.gfr_eval0 (ops := (Reg.opsOf Try.f3 5)) (a0 := a0) (v := v) (L := []) 3 (by kernel_rfl)).trans i3
    refine ⟨Reg.wanted_none rfl, ?_⟩
    generalize hρ : (Reg.gfr (Reg.opsOf Try.f3 5) a0 v []).eval = ρ at e3
    have hρ' : (Reg.gfr (Reg.opsOf Try.f3 5) a0 v []).eval = ρ := hρ
    exact fun K hK => wp_load_row 23 (.tmp 3) rfl gA (by rw [hρ']; exact e3) 23 A (0, 0) _ (LA W hb) Try.underlying23 rfl zA (hK _ _ ⟨Below.refl _ _, rfl⟩)
  have h3 : Reg.OpOK Try.prog (Reg.opsOf Try.f3 5) a0 w0 (textsR A B V T pe c) (fun _ _ _ _ => True) 3 := by
    refine Reg.op_ok (o := { dst := some 27, op := Op.call { callee := Callee.value (Operand.func 8), args := #[Operand.tmp 26], argTypes := #[23] }, type := 9, pos := "law.go:38", after := #[{ on := 2, ground := Ground.data }, { on := 1, ground := Ground.chain }], guard := none }) (by kernel_rfl) [2, 1] (by kernel_rfl) fun v W hb hd => ?_
    have d2 : v 2 = (Value.agg A) := hd 2 (by decide)
    have e26 := (Reg.gfr_eval (ops := (Reg.opsOf Try.f3 5)) (a0 := a0) (v := v) (L := [2, 1]) 26 2 (by kernel_rfl) (by rw [hsz]; omega)).trans d2
    refine ⟨Reg.wanted_none rfl, ?_⟩
    have eF : ∀ f, (Reg.gfr (Reg.opsOf Try.f3 5) a0 v [2, 1]).eval (.func f) = .func (.func f) #[] #[] := fun _ => rfl
    generalize hρ : (Reg.gfr (Reg.opsOf Try.f3 5) a0 v [2, 1]).eval = ρ at e26 eF
    have hρ' : (Reg.gfr (Reg.opsOf Try.f3 5) a0 v [2, 1]).eval = ρ := hρ
    refine Reg.go_call 8 #[(Value.agg A)] (by rw [hρ']; simp [execOp, go_sem, e26, eF]) ((q2 W).mono fun e w' he => ?_)
    obtain ⟨rfl, hbb⟩ := he
    exact ⟨_, rfl, hbb, rfl⟩
  have h4 : Reg.OpOK Try.prog (Reg.opsOf Try.f3 5) a0 w0 (textsR A B V T pe c) (fun _ _ _ _ => True) 4 := by
    refine Reg.op_ok (o := { dst := some 28, op := Op.binOp BinOp.eql 9 (Operand.tmp 25) (Operand.tmp 27) 9, type := 4, pos := "law.go:38", after := #[{ on := 1, ground := Ground.data }, { on := 3, ground := Ground.data }], guard := none }) (by kernel_rfl) [1, 3] (by kernel_rfl) fun v W hb hd => ?_
    have d1 : v 1 = (Value.string T) := hd 1 (by decide)
    have d3 : v 3 = (Value.string T) := hd 3 (by decide)
    have e25 := (Reg.gfr_eval (ops := (Reg.opsOf Try.f3 5)) (a0 := a0) (v := v) (L := [1, 3]) 25 1 (by kernel_rfl) (by rw [hsz]; omega)).trans d1
    have e27 := (Reg.gfr_eval (ops := (Reg.opsOf Try.f3 5)) (a0 := a0) (v := v) (L := [1, 3]) 27 3 (by kernel_rfl) (by rw [hsz]; omega)).trans d3
    refine ⟨Reg.wanted_none rfl, ?_⟩
    generalize hρ : (Reg.gfr (Reg.opsOf Try.f3 5) a0 v [1, 3]).eval = ρ at e25 e27
    have hρ' : (Reg.gfr (Reg.opsOf Try.f3 5) a0 v [1, 3]).eval = ρ := hρ
    exact Reg.go_run _ W (by rw [hρ']; simp [execOp, go_sem, e25, e27]) ⟨Below.refl _ _, rfl⟩
  have h5 : Reg.OpOK Try.prog (Reg.opsOf Try.f3 5) a0 w0 (textsR A B V T pe c) (fun _ _ _ _ => True) 5 := by
    refine Reg.op_ok (o := { dst := some 29, op := Op.move (Operand.tmp 28), type := 4, pos := "law.go:38", after := #[{ on := 4, ground := Ground.data }, { on := 3, ground := Ground.chain }], guard := none }) (by kernel_rfl) [4, 3] (by kernel_rfl) fun v W hb hd => ?_
    have d4 : v 4 = (Value.bool true) := hd 4 (by decide)
    have e28 := (Reg.gfr_eval (ops := (Reg.opsOf Try.f3 5)) (a0 := a0) (v := v) (L := [4, 3]) 28 4 (by kernel_rfl) (by rw [hsz]; omega)).trans d4
    refine ⟨Reg.wanted_none rfl, ?_⟩
    generalize hρ : (Reg.gfr (Reg.opsOf Try.f3 5) a0 v [4, 3]).eval = ρ at e28
    have hρ' : (Reg.gfr (Reg.opsOf Try.f3 5) a0 v [4, 3]).eval = ρ := hρ
    exact Reg.go_run _ W (by rw [hρ']; simp [execOp, go_sem, e28]) ⟨Below.refl _ _, rfl⟩
  have h6 : Reg.OpOK Try.prog (Reg.opsOf Try.f3 5) a0 w0 (textsR A B V T pe c) (fun _ _ _ _ => True) 6 := by
    refine Reg.op_ok (o := { dst := some 30, op := Op.load 23 (Operand.tmp 7), type := 23, pos := "law.go:38", after := #[{ on := 5, ground := Ground.guard }], guard := some (5, true) }) (by kernel_rfl) [5] (by kernel_rfl) fun v W hb hd => ?_
    have d5 : v 5 = (Value.bool true) := hd 5 (by decide)
    have e7 := (Reg.gfr_eval0 (ops := (Reg.opsOf Try.f3 5)) (a0 := a0) (v := v) (L := [5]) 7 (by kernel_rfl)).trans i7
    have e29 := (Reg.gfr_eval (ops := (Reg.opsOf Try.f3 5)) (a0 := a0) (v := v) (L := [5]) 29 5 (by kernel_rfl) (by rw [hsz]; omega)).trans d5
    refine ⟨Reg.wanted_of rfl (by kernel_rfl) e29, ?_⟩
    generalize hρ : (Reg.gfr (Reg.opsOf Try.f3 5) a0 v [5]).eval = ρ at e7
    have hρ' : (Reg.gfr (Reg.opsOf Try.f3 5) a0 v [5]).eval = ρ := hρ
    exact fun K hK => wp_load_row 23 (.tmp 7) rfl gX (by rw [hρ']; exact e7) 23 V (0, 0) _ (LX W hb) Try.underlying23 rfl zV (hK _ _ ⟨Below.refl _ _, rfl⟩)
  have h7 : Reg.OpOK Try.prog (Reg.opsOf Try.f3 5) a0 w0 (textsR A B V T pe c) (fun _ _ _ _ => True) 7 := by
    refine Reg.op_ok (o := { dst := some 31, op := Op.load 23 (Operand.tmp 9), type := 23, pos := "law.go:38", after := #[{ on := 5, ground := Ground.guard }], guard := some (5, true) }) (by kernel_rfl) [5] (by kernel_rfl) fun v W hb hd => ?_
    have d5 : v 5 = (Value.bool true) := hd 5 (by decide)
    have e9 := (Reg.gfr_eval0 (ops := (Reg.opsOf Try.f3 5)) (a0 := a0) (v := v) (L := [5]) 9 (by kernel_rfl)).trans i9
    have e29 := (Reg.gfr_eval (ops := (Reg.opsOf Try.f3 5)) (a0 := a0) (v := v) (L := [5]) 29 5 (by kernel_rfl) (by rw [hsz]; omega)).trans d5
    refine ⟨Reg.wanted_of rfl (by kernel_rfl) e29, ?_⟩
    generalize hρ : (Reg.gfr (Reg.opsOf Try.f3 5) a0 v [5]).eval = ρ at e9
    have hρ' : (Reg.gfr (Reg.opsOf Try.f3 5) a0 v [5]).eval = ρ := hρ
    exact fun K hK => wp_load_row 23 (.tmp 9) rfl gY (by rw [hρ']; exact e9) 23 V (0, 0) _ (LY W hb) Try.underlying23 rfl zV (hK _ _ ⟨Below.refl _ _, rfl⟩)
  have h8 : Reg.OpOK Try.prog (Reg.opsOf Try.f3 5) a0 w0 (textsR A B V T pe c) (fun _ _ _ _ => True) 8 := by
    refine Reg.op_ok (o := { dst := some 32, op := Op.binOp BinOp.eql 23 (Operand.tmp 30) (Operand.tmp 31) 23, type := 4, pos := "law.go:38", after := #[{ on := 6, ground := Ground.data }, { on := 7, ground := Ground.data }, { on := 5, ground := Ground.guard }], guard := some (5, true) }) (by kernel_rfl) [6, 7, 5] (by kernel_rfl) fun v W hb hd => ?_
    have d5 : v 5 = (Value.bool true) := hd 5 (by decide)
    have d6 : v 6 = (Value.agg V) := hd 6 (by decide)
    have d7 : v 7 = (Value.agg V) := hd 7 (by decide)
    have e30 := (Reg.gfr_eval (ops := (Reg.opsOf Try.f3 5)) (a0 := a0) (v := v) (L := [6, 7, 5]) 30 6 (by kernel_rfl) (by rw [hsz]; omega)).trans d6
    have e31 := (Reg.gfr_eval (ops := (Reg.opsOf Try.f3 5)) (a0 := a0) (v := v) (L := [6, 7, 5]) 31 7 (by kernel_rfl) (by rw [hsz]; omega)).trans d7
    have e29 := (Reg.gfr_eval (ops := (Reg.opsOf Try.f3 5)) (a0 := a0) (v := v) (L := [6, 7, 5]) 29 5 (by kernel_rfl) (by rw [hsz]; omega)).trans d5
    refine ⟨Reg.wanted_of rfl (by kernel_rfl) e29, ?_⟩
    generalize hρ : (Reg.gfr (Reg.opsOf Try.f3 5) a0 v [6, 7, 5]).eval = ρ at e30 e31
    have hρ' : (Reg.gfr (Reg.opsOf Try.f3 5) a0 v [6, 7, 5]).eval = ρ := hρ
    exact Reg.go_run _ W (by rw [hρ']; simp [execOp, go_sem, e30, e31, EQ W]) ⟨Below.refl _ _, rfl⟩
  have h9 : Reg.OpOK Try.prog (Reg.opsOf Try.f3 5) a0 w0 (textsR A B V T pe c) (fun _ _ _ _ => True) 9 := by
    refine Reg.op_ok (o := { dst := some 33, op := Op.pick (Operand.tmp 29) (Operand.tmp 32) (Operand.const (Value.bool false)), type := 4, pos := "law.go:38", after := #[{ on := 5, ground := Ground.data }, { on := 8, ground := Ground.data }], guard := none }) (by kernel_rfl) [5, 8] (by kernel_rfl) fun v W hb hd => ?_
    have d5 : v 5 = (Value.bool true) := hd 5 (by decide)
    have d8 : v 8 = (Value.bool true) := hd 8 (by decide)
    have e29 := (Reg.gfr_eval (ops := (Reg.opsOf Try.f3 5)) (a0 := a0) (v := v) (L := [5, 8]) 29 5 (by kernel_rfl) (by rw [hsz]; omega)).trans d5
    have e32 := (Reg.gfr_eval (ops := (Reg.opsOf Try.f3 5)) (a0 := a0) (v := v) (L := [5, 8]) 32 8 (by kernel_rfl) (by rw [hsz]; omega)).trans d8
    refine ⟨Reg.wanted_none rfl, ?_⟩
    have eC : ∀ x, (Reg.gfr (Reg.opsOf Try.f3 5) a0 v [5, 8]).eval (.const x) = x := fun _ => rfl
    generalize hρ : (Reg.gfr (Reg.opsOf Try.f3 5) a0 v [5, 8]).eval = ρ at e29 e32 eC
    have hρ' : (Reg.gfr (Reg.opsOf Try.f3 5) a0 v [5, 8]).eval = ρ := hρ
    exact Reg.go_run _ W (by rw [hρ']; simp [execOp, go_sem, e29, e32, eC]) ⟨Below.refl _ _, rfl⟩
  have h10 : Reg.OpOK Try.prog (Reg.opsOf Try.f3 5) a0 w0 (textsR A B V T pe c) (fun _ _ _ _ => True) 10 := by
    refine Reg.op_ok (o := { dst := some 34, op := Op.move (Operand.tmp 33), type := 4, pos := "law.go:38", after := #[{ on := 9, ground := Ground.data }, { on := 5, ground := Ground.chain }], guard := none }) (by kernel_rfl) [9, 5] (by kernel_rfl) fun v W hb hd => ?_
    have d9 : v 9 = (Value.bool true) := hd 9 (by decide)
    have e33 := (Reg.gfr_eval (ops := (Reg.opsOf Try.f3 5)) (a0 := a0) (v := v) (L := [9, 5]) 33 9 (by kernel_rfl) (by rw [hsz]; omega)).trans d9
    refine ⟨Reg.wanted_none rfl, ?_⟩
    generalize hρ : (Reg.gfr (Reg.opsOf Try.f3 5) a0 v [9, 5]).eval = ρ at e33
    have hρ' : (Reg.gfr (Reg.opsOf Try.f3 5) a0 v [9, 5]).eval = ρ := hρ
    exact Reg.go_run _ W (by rw [hρ']; simp [execOp, go_sem, e33]) ⟨Below.refl _ _, rfl⟩
  have h11 : Reg.OpOK Try.prog (Reg.opsOf Try.f3 5) a0 w0 (textsR A B V T pe c) (fun _ _ _ _ => True) 11 := by
    refine Reg.op_ok (o := { dst := some 35, op := Op.move (Operand.tmp 8), type := 24, pos := "law.go:38", after := #[{ on := 10, ground := Ground.guard }], guard := some (10, true) }) (by kernel_rfl) [10] (by kernel_rfl) fun v W hb hd => ?_
    have d10 : v 10 = (Value.bool true) := hd 10 (by decide)
    have e8 := (Reg.gfr_eval0 (ops := (Reg.opsOf Try.f3 5)) (a0 := a0) (v := v) (L := [10]) 8 (by kernel_rfl)).trans i8
    have e34 := (Reg.gfr_eval (ops := (Reg.opsOf Try.f3 5)) (a0 := a0) (v := v) (L := [10]) 34 10 (by kernel_rfl) (by rw [hsz]; omega)).trans d10
    refine ⟨Reg.wanted_of rfl (by kernel_rfl) e34, ?_⟩
    generalize hρ : (Reg.gfr (Reg.opsOf Try.f3 5) a0 v [10]).eval = ρ at e8
    have hρ' : (Reg.gfr (Reg.opsOf Try.f3 5) a0 v [10]).eval = ρ := hρ
    exact Reg.go_run _ W (by rw [hρ']; simp [execOp, go_sem, e8]) ⟨Below.refl _ _, rfl⟩
  have h12 : Reg.OpOK Try.prog (Reg.opsOf Try.f3 5) a0 w0 (textsR A B V T pe c) (fun _ _ _ _ => True) 12 := by
    refine Reg.op_ok (o := { dst := some 36, op := Op.move (Operand.tmp 10), type := 3, pos := "law.go:38", after := #[{ on := 10, ground := Ground.guard }], guard := some (10, true) }) (by kernel_rfl) [10] (by kernel_rfl) fun v W hb hd => ?_
    have d10 : v 10 = (Value.bool true) := hd 10 (by decide)
    have e10 := (Reg.gfr_eval0 (ops := (Reg.opsOf Try.f3 5)) (a0 := a0) (v := v) (L := [10]) 10 (by kernel_rfl)).trans i10
    have e34 := (Reg.gfr_eval (ops := (Reg.opsOf Try.f3 5)) (a0 := a0) (v := v) (L := [10]) 34 10 (by kernel_rfl) (by rw [hsz]; omega)).trans d10
    refine ⟨Reg.wanted_of rfl (by kernel_rfl) e34, ?_⟩
    generalize hρ : (Reg.gfr (Reg.opsOf Try.f3 5) a0 v [10]).eval = ρ at e10
    have hρ' : (Reg.gfr (Reg.opsOf Try.f3 5) a0 v [10]).eval = ρ := hρ
    exact Reg.go_run _ W (by rw [hρ']; simp [execOp, go_sem, e10]) ⟨Below.refl _ _, rfl⟩
  have h13 : Reg.OpOK Try.prog (Reg.opsOf Try.f3 5) a0 w0 (textsR A B V T pe c) (fun _ _ _ _ => True) 13 := by
    refine Reg.op_ok (o := { dst := some 37, op := Op.binOp BinOp.eql 3 (Operand.tmp 35) (Operand.tmp 36) 3, type := 4, pos := "law.go:38", after := #[{ on := 11, ground := Ground.data }, { on := 12, ground := Ground.data }, { on := 10, ground := Ground.guard }], guard := some (10, true) }) (by kernel_rfl) [11, 12, 10] (by kernel_rfl) fun v W hb hd => ?_
    have d10 : v 10 = (Value.bool true) := hd 10 (by decide)
    have d11 : v 11 = (Value.int IntKind.i64 pe) := hd 11 (by decide)
    have d12 : v 12 = (Value.int IntKind.i64 pe) := hd 12 (by decide)
    have e35 := (Reg.gfr_eval (ops := (Reg.opsOf Try.f3 5)) (a0 := a0) (v := v) (L := [11, 12, 10]) 35 11 (by kernel_rfl) (by rw [hsz]; omega)).trans d11
    have e36 := (Reg.gfr_eval (ops := (Reg.opsOf Try.f3 5)) (a0 := a0) (v := v) (L := [11, 12, 10]) 36 12 (by kernel_rfl) (by rw [hsz]; omega)).trans d12
    have e34 := (Reg.gfr_eval (ops := (Reg.opsOf Try.f3 5)) (a0 := a0) (v := v) (L := [11, 12, 10]) 34 10 (by kernel_rfl) (by rw [hsz]; omega)).trans d10
    refine ⟨Reg.wanted_of rfl (by kernel_rfl) e34, ?_⟩
    generalize hρ : (Reg.gfr (Reg.opsOf Try.f3 5) a0 v [11, 12, 10]).eval = ρ at e35 e36
    have hρ' : (Reg.gfr (Reg.opsOf Try.f3 5) a0 v [11, 12, 10]).eval = ρ := hρ
    exact Reg.go_run _ W (by rw [hρ']; simp [execOp, go_sem, e35, e36]) ⟨Below.refl _ _, rfl⟩
  have h14 : Reg.OpOK Try.prog (Reg.opsOf Try.f3 5) a0 w0 (textsR A B V T pe c) (fun _ _ _ _ => True) 14 := by
    refine Reg.op_ok (o := { dst := some 38, op := Op.pick (Operand.tmp 34) (Operand.tmp 37) (Operand.const (Value.bool false)), type := 4, pos := "law.go:38", after := #[{ on := 10, ground := Ground.data }, { on := 13, ground := Ground.data }], guard := none }) (by kernel_rfl) [10, 13] (by kernel_rfl) fun v W hb hd => ?_
    have d10 : v 10 = (Value.bool true) := hd 10 (by decide)
    have d13 : v 13 = (Value.bool true) := hd 13 (by decide)
    have e34 := (Reg.gfr_eval (ops := (Reg.opsOf Try.f3 5)) (a0 := a0) (v := v) (L := [10, 13]) 34 10 (by kernel_rfl) (by rw [hsz]; omega)).trans d10
    have e37 := (Reg.gfr_eval (ops := (Reg.opsOf Try.f3 5)) (a0 := a0) (v := v) (L := [10, 13]) 37 13 (by kernel_rfl) (by rw [hsz]; omega)).trans d13
    refine ⟨Reg.wanted_none rfl, ?_⟩
    have eC : ∀ x, (Reg.gfr (Reg.opsOf Try.f3 5) a0 v [10, 13]).eval (.const x) = x := fun _ => rfl
    generalize hρ : (Reg.gfr (Reg.opsOf Try.f3 5) a0 v [10, 13]).eval = ρ at e34 e37 eC
    have hρ' : (Reg.gfr (Reg.opsOf Try.f3 5) a0 v [10, 13]).eval = ρ := hρ
    exact Reg.go_run _ W (by rw [hρ']; simp [execOp, go_sem, e34, e37, eC]) ⟨Below.refl _ _, rfl⟩
  have h15 : Reg.OpOK Try.prog (Reg.opsOf Try.f3 5) a0 w0 (textsR A B V T pe c) (fun _ _ _ _ => True) 15 := by
    refine Reg.op_ok (o := { dst := some 39, op := Op.move (Operand.tmp 38), type := 4, pos := "law.go:38", after := #[{ on := 14, ground := Ground.data }, { on := 10, ground := Ground.chain }], guard := none }) (by kernel_rfl) [14, 10] (by kernel_rfl) fun v W hb hd => ?_
    have d14 : v 14 = (Value.bool true) := hd 14 (by decide)
    have e38 := (Reg.gfr_eval (ops := (Reg.opsOf Try.f3 5)) (a0 := a0) (v := v) (L := [14, 10]) 38 14 (by kernel_rfl) (by rw [hsz]; omega)).trans d14
    refine ⟨Reg.wanted_none rfl, ?_⟩
    generalize hρ : (Reg.gfr (Reg.opsOf Try.f3 5) a0 v [14, 10]).eval = ρ at e38
    have hρ' : (Reg.gfr (Reg.opsOf Try.f3 5) a0 v [14, 10]).eval = ρ := hρ
    exact Reg.go_run _ W (by rw [hρ']; simp [execOp, go_sem, e38]) ⟨Below.refl _ _, rfl⟩
  have h16 : Reg.OpOK Try.prog (Reg.opsOf Try.f3 5) a0 w0 (textsR A B V T pe c) (fun _ _ _ _ => True) 16 := by
    refine Reg.op_ok (o := { dst := some 40, op := Op.load 23 (Operand.tmp 3), type := 23, pos := "law.go:38", after := #[{ on := 15, ground := Ground.guard }], guard := some (15, true) }) (by kernel_rfl) [15] (by kernel_rfl) fun v W hb hd => ?_
    have d15 : v 15 = (Value.bool true) := hd 15 (by decide)
    have e3 := (Reg.gfr_eval0 (ops := (Reg.opsOf Try.f3 5)) (a0 := a0) (v := v) (L := [15]) 3 (by kernel_rfl)).trans i3
    have e39 := (Reg.gfr_eval (ops := (Reg.opsOf Try.f3 5)) (a0 := a0) (v := v) (L := [15]) 39 15 (by kernel_rfl) (by rw [hsz]; omega)).trans d15
    refine ⟨Reg.wanted_of rfl (by kernel_rfl) e39, ?_⟩
    generalize hρ : (Reg.gfr (Reg.opsOf Try.f3 5) a0 v [15]).eval = ρ at e3
    have hρ' : (Reg.gfr (Reg.opsOf Try.f3 5) a0 v [15]).eval = ρ := hρ
    exact fun K hK => wp_load_row 23 (.tmp 3) rfl gA (by rw [hρ']; exact e3) 23 A (0, 0) _ (LA W hb) Try.underlying23 rfl zA (hK _ _ ⟨Below.refl _ _, rfl⟩)
  have h17 : Reg.OpOK Try.prog (Reg.opsOf Try.f3 5) a0 w0 (textsR A B V T pe c) (fun _ _ _ _ => True) 17 := by
    refine Reg.op_ok (o := { dst := some 41, op := Op.load 23 (Operand.tmp 4), type := 23, pos := "law.go:38", after := #[{ on := 15, ground := Ground.guard }], guard := some (15, true) }) (by kernel_rfl) [15] (by kernel_rfl) fun v W hb hd => ?_
    have d15 : v 15 = (Value.bool true) := hd 15 (by decide)
    have e4 := (Reg.gfr_eval0 (ops := (Reg.opsOf Try.f3 5)) (a0 := a0) (v := v) (L := [15]) 4 (by kernel_rfl)).trans i4
    have e39 := (Reg.gfr_eval (ops := (Reg.opsOf Try.f3 5)) (a0 := a0) (v := v) (L := [15]) 39 15 (by kernel_rfl) (by rw [hsz]; omega)).trans d15
    refine ⟨Reg.wanted_of rfl (by kernel_rfl) e39, ?_⟩
    generalize hρ : (Reg.gfr (Reg.opsOf Try.f3 5) a0 v [15]).eval = ρ at e4
    have hρ' : (Reg.gfr (Reg.opsOf Try.f3 5) a0 v [15]).eval = ρ := hρ
    exact fun K hK => wp_load_row 23 (.tmp 4) rfl gB (by rw [hρ']; exact e4) 23 B (0, 0) _ (LB W hb) Try.underlying23 rfl zB (hK _ _ ⟨Below.refl _ _, rfl⟩)
  have h18 : Reg.OpOK Try.prog (Reg.opsOf Try.f3 5) a0 w0 (textsR A B V T pe c) (fun _ _ _ _ => True) 18 := by
    refine Reg.op_ok (o := { dst := some 42, op := Op.call { callee := Callee.value (Operand.func 9), args := #[Operand.tmp 40, Operand.tmp 41], argTypes := #[23, 23] }, type := 3, pos := "law.go:38", after := #[{ on := 16, ground := Ground.data }, { on := 17, ground := Ground.data }, { on := 15, ground := Ground.chain }, { on := 15, ground := Ground.guard }], guard := some (15, true) }) (by kernel_rfl) [16, 17, 15, 15] (by kernel_rfl) fun v W hb hd => ?_
    have d15 : v 15 = (Value.bool true) := hd 15 (by decide)
    have d16 : v 16 = (Value.agg A) := hd 16 (by decide)
    have d17 : v 17 = (Value.agg B) := hd 17 (by decide)
    have e40 := (Reg.gfr_eval (ops := (Reg.opsOf Try.f3 5)) (a0 := a0) (v := v) (L := [16, 17, 15, 15]) 40 16 (by kernel_rfl) (by rw [hsz]; omega)).trans d16
    have e41 := (Reg.gfr_eval (ops := (Reg.opsOf Try.f3 5)) (a0 := a0) (v := v) (L := [16, 17, 15, 15]) 41 17 (by kernel_rfl) (by rw [hsz]; omega)).trans d17
    have e39 := (Reg.gfr_eval (ops := (Reg.opsOf Try.f3 5)) (a0 := a0) (v := v) (L := [16, 17, 15, 15]) 39 15 (by kernel_rfl) (by rw [hsz]; omega)).trans d15
    refine ⟨Reg.wanted_of rfl (by kernel_rfl) e39, ?_⟩
    have eF : ∀ f, (Reg.gfr (Reg.opsOf Try.f3 5) a0 v [16, 17, 15, 15]).eval (.func f) = .func (.func f) #[] #[] := fun _ => rfl
    generalize hρ : (Reg.gfr (Reg.opsOf Try.f3 5) a0 v [16, 17, 15, 15]).eval = ρ at e40 e41 eF
    have hρ' : (Reg.gfr (Reg.opsOf Try.f3 5) a0 v [16, 17, 15, 15]).eval = ρ := hρ
    refine Reg.go_call 9 #[(Value.agg A), (Value.agg B)] (by rw [hρ']; simp [execOp, go_sem, e40, e41, eF]) ((q3 W).mono fun e w' he => ?_)
    obtain ⟨rfl, hbb⟩ := he
    exact ⟨_, rfl, hbb, rfl⟩
  have h19 : Reg.OpOK Try.prog (Reg.opsOf Try.f3 5) a0 w0 (textsR A B V T pe c) (fun _ _ _ _ => True) 19 := by
    refine Reg.op_ok (o := { dst := some 43, op := Op.load 23 (Operand.tmp 3), type := 23, pos := "law.go:38", after := #[{ on := 15, ground := Ground.guard }], guard := some (15, true) }) (by kernel_rfl) [15] (by kernel_rfl) fun v W hb hd => ?_
    have d15 : v 15 = (Value.bool true) := hd 15 (by decide)
    have e3 := (Reg.gfr_eval0 (ops := (Reg.opsOf Try.f3 5)) (a0 := a0) (v := v) (L := [15]) 3 (by kernel_rfl)).trans i3
    have e39 := (Reg.gfr_eval (ops := (Reg.opsOf Try.f3 5)) (a0 := a0) (v := v) (L := [15]) 39 15 (by kernel_rfl) (by rw [hsz]; omega)).trans d15
    refine ⟨Reg.wanted_of rfl (by kernel_rfl) e39, ?_⟩
    generalize hρ : (Reg.gfr (Reg.opsOf Try.f3 5) a0 v [15]).eval = ρ at e3
    have hρ' : (Reg.gfr (Reg.opsOf Try.f3 5) a0 v [15]).eval = ρ := hρ
    exact fun K hK => wp_load_row 23 (.tmp 3) rfl gA (by rw [hρ']; exact e3) 23 A (0, 0) _ (LA W hb) Try.underlying23 rfl zA (hK _ _ ⟨Below.refl _ _, rfl⟩)
  have h20 : Reg.OpOK Try.prog (Reg.opsOf Try.f3 5) a0 w0 (textsR A B V T pe c) (fun _ _ _ _ => True) 20 := by
    refine Reg.op_ok (o := { dst := some 44, op := Op.load 23 (Operand.tmp 4), type := 23, pos := "law.go:38", after := #[{ on := 15, ground := Ground.guard }], guard := some (15, true) }) (by kernel_rfl) [15] (by kernel_rfl) fun v W hb hd => ?_
    have d15 : v 15 = (Value.bool true) := hd 15 (by decide)
    have e4 := (Reg.gfr_eval0 (ops := (Reg.opsOf Try.f3 5)) (a0 := a0) (v := v) (L := [15]) 4 (by kernel_rfl)).trans i4
    have e39 := (Reg.gfr_eval (ops := (Reg.opsOf Try.f3 5)) (a0 := a0) (v := v) (L := [15]) 39 15 (by kernel_rfl) (by rw [hsz]; omega)).trans d15
    refine ⟨Reg.wanted_of rfl (by kernel_rfl) e39, ?_⟩
    generalize hρ : (Reg.gfr (Reg.opsOf Try.f3 5) a0 v [15]).eval = ρ at e4
    have hρ' : (Reg.gfr (Reg.opsOf Try.f3 5) a0 v [15]).eval = ρ := hρ
    exact fun K hK => wp_load_row 23 (.tmp 4) rfl gB (by rw [hρ']; exact e4) 23 B (0, 0) _ (LB W hb) Try.underlying23 rfl zB (hK _ _ ⟨Below.refl _ _, rfl⟩)
  have h21 : Reg.OpOK Try.prog (Reg.opsOf Try.f3 5) a0 w0 (textsR A B V T pe c) (fun _ _ _ _ => True) 21 := by
    refine Reg.op_ok (o := { dst := some 45, op := Op.call { callee := Callee.value (Operand.func 10), args := #[Operand.tmp 43, Operand.tmp 44], argTypes := #[23, 23] }, type := 3, pos := "law.go:38", after := #[{ on := 19, ground := Ground.data }, { on := 20, ground := Ground.data }, { on := 18, ground := Ground.chain }, { on := 15, ground := Ground.guard }], guard := some (15, true) }) (by kernel_rfl) [19, 20, 18, 15] (by kernel_rfl) fun v W hb hd => ?_
    have d15 : v 15 = (Value.bool true) := hd 15 (by decide)
    have d19 : v 19 = (Value.agg A) := hd 19 (by decide)
    have d20 : v 20 = (Value.agg B) := hd 20 (by decide)
    have e43 := (Reg.gfr_eval (ops := (Reg.opsOf Try.f3 5)) (a0 := a0) (v := v) (L := [19, 20, 18, 15]) 43 19 (by kernel_rfl) (by rw [hsz]; omega)).trans d19
    have e44 := (Reg.gfr_eval (ops := (Reg.opsOf Try.f3 5)) (a0 := a0) (v := v) (L := [19, 20, 18, 15]) 44 20 (by kernel_rfl) (by rw [hsz]; omega)).trans d20
    have e39 := (Reg.gfr_eval (ops := (Reg.opsOf Try.f3 5)) (a0 := a0) (v := v) (L := [19, 20, 18, 15]) 39 15 (by kernel_rfl) (by rw [hsz]; omega)).trans d15
    refine ⟨Reg.wanted_of rfl (by kernel_rfl) e39, ?_⟩
    have eF : ∀ f, (Reg.gfr (Reg.opsOf Try.f3 5) a0 v [19, 20, 18, 15]).eval (.func f) = .func (.func f) #[] #[] := fun _ => rfl
    generalize hρ : (Reg.gfr (Reg.opsOf Try.f3 5) a0 v [19, 20, 18, 15]).eval = ρ at e43 e44 eF
    have hρ' : (Reg.gfr (Reg.opsOf Try.f3 5) a0 v [19, 20, 18, 15]).eval = ρ := hρ
    refine Reg.go_call 10 #[(Value.agg A), (Value.agg B)] (by rw [hρ']; simp [execOp, go_sem, e43, e44, eF]) ((q4 W).mono fun e w' he => ?_)
    obtain ⟨rfl, hbb⟩ := he
    exact ⟨_, rfl, hbb, rfl⟩
  have h22 : Reg.OpOK Try.prog (Reg.opsOf Try.f3 5) a0 w0 (textsR A B V T pe c) (fun _ _ _ _ => True) 22 := by
    refine Reg.op_ok (o := { dst := some 46, op := Op.binOp BinOp.eql 3 (Operand.tmp 42) (Operand.tmp 45) 3, type := 4, pos := "law.go:38", after := #[{ on := 18, ground := Ground.data }, { on := 21, ground := Ground.data }, { on := 15, ground := Ground.guard }], guard := some (15, true) }) (by kernel_rfl) [18, 21, 15] (by kernel_rfl) fun v W hb hd => ?_
    have d15 : v 15 = (Value.bool true) := hd 15 (by decide)
    have d18 : v 18 = (Value.int IntKind.i64 c) := hd 18 (by decide)
    have d21 : v 21 = (Value.int IntKind.i64 c) := hd 21 (by decide)
    have e42 := (Reg.gfr_eval (ops := (Reg.opsOf Try.f3 5)) (a0 := a0) (v := v) (L := [18, 21, 15]) 42 18 (by kernel_rfl) (by rw [hsz]; omega)).trans d18
    have e45 := (Reg.gfr_eval (ops := (Reg.opsOf Try.f3 5)) (a0 := a0) (v := v) (L := [18, 21, 15]) 45 21 (by kernel_rfl) (by rw [hsz]; omega)).trans d21
    have e39 := (Reg.gfr_eval (ops := (Reg.opsOf Try.f3 5)) (a0 := a0) (v := v) (L := [18, 21, 15]) 39 15 (by kernel_rfl) (by rw [hsz]; omega)).trans d15
    refine ⟨Reg.wanted_of rfl (by kernel_rfl) e39, ?_⟩
    generalize hρ : (Reg.gfr (Reg.opsOf Try.f3 5) a0 v [18, 21, 15]).eval = ρ at e42 e45
    have hρ' : (Reg.gfr (Reg.opsOf Try.f3 5) a0 v [18, 21, 15]).eval = ρ := hρ
    exact Reg.go_run _ W (by rw [hρ']; simp [execOp, go_sem, e42, e45]) ⟨Below.refl _ _, rfl⟩
  have h23 : Reg.OpOK Try.prog (Reg.opsOf Try.f3 5) a0 w0 (textsR A B V T pe c) (fun _ _ _ _ => True) 23 := by
    refine Reg.op_ok (o := { dst := some 47, op := Op.pick (Operand.tmp 39) (Operand.tmp 46) (Operand.const (Value.bool false)), type := 4, pos := "law.go:38", after := #[{ on := 15, ground := Ground.data }, { on := 22, ground := Ground.data }], guard := none }) (by kernel_rfl) [15, 22] (by kernel_rfl) fun v W hb hd => ?_
    have d15 : v 15 = (Value.bool true) := hd 15 (by decide)
    have d22 : v 22 = (Value.bool true) := hd 22 (by decide)
    have e39 := (Reg.gfr_eval (ops := (Reg.opsOf Try.f3 5)) (a0 := a0) (v := v) (L := [15, 22]) 39 15 (by kernel_rfl) (by rw [hsz]; omega)).trans d15
    have e46 := (Reg.gfr_eval (ops := (Reg.opsOf Try.f3 5)) (a0 := a0) (v := v) (L := [15, 22]) 46 22 (by kernel_rfl) (by rw [hsz]; omega)).trans d22
    refine ⟨Reg.wanted_none rfl, ?_⟩
    have eC : ∀ x, (Reg.gfr (Reg.opsOf Try.f3 5) a0 v [15, 22]).eval (.const x) = x := fun _ => rfl
    generalize hρ : (Reg.gfr (Reg.opsOf Try.f3 5) a0 v [15, 22]).eval = ρ at e39 e46 eC
    have hρ' : (Reg.gfr (Reg.opsOf Try.f3 5) a0 v [15, 22]).eval = ρ := hρ
    exact Reg.go_run _ W (by rw [hρ']; simp [execOp, go_sem, e39, e46, eC]) ⟨Below.refl _ _, rfl⟩
  have h24 : Reg.OpOK Try.prog (Reg.opsOf Try.f3 5) a0 w0 (textsR A B V T pe c) (fun _ _ _ _ => True) 24 := by
    refine Reg.op_ok (o := { dst := some 6, op := Op.assign (Operand.tmp 47), type := 4, pos := "law.go:38", after := #[{ on := 23, ground := Ground.data }, { on := 21, ground := Ground.chain }, { on := 0, ground := Ground.phase }, { on := 1, ground := Ground.phase }, { on := 2, ground := Ground.phase }, { on := 3, ground := Ground.phase }, { on := 4, ground := Ground.phase }, { on := 5, ground := Ground.phase }, { on := 6, ground := Ground.phase }, { on := 7, ground := Ground.phase }, { on := 8, ground := Ground.phase }, { on := 9, ground := Ground.phase }, { on := 10, ground := Ground.phase }, { on := 11, ground := Ground.phase }, { on := 12, ground := Ground.phase }, { on := 13, ground := Ground.phase }, { on := 14, ground := Ground.phase }, { on := 15, ground := Ground.phase }, { on := 16, ground := Ground.phase }, { on := 17, ground := Ground.phase }, { on := 18, ground := Ground.phase }, { on := 19, ground := Ground.phase }, { on := 20, ground := Ground.phase }, { on := 21, ground := Ground.phase }, { on := 22, ground := Ground.phase }, { on := 23, ground := Ground.phase }], guard := none }) (by kernel_rfl) [23, 21, 0, 1, 2, 3, 4, 5, 6, 7, 8, 9, 10, 11, 12, 13, 14, 15, 16, 17, 18, 19, 20, 21, 22, 23] (by kernel_rfl) fun v W hb hd => ?_
    have d23 : v 23 = (Value.bool true) := hd 23 (by decide)
    have e47 := (Reg.gfr_eval (ops := (Reg.opsOf Try.f3 5)) (a0 := a0) (v := v) (L := [23, 21, 0, 1, 2, 3, 4, 5, 6, 7, 8, 9, 10, 11, 12, 13, 14, 15, 16, 17, 18, 19, 20, 21, 22, 23]) 47 23 (by kernel_rfl) (by rw [hsz]; omega)).trans d23
    refine ⟨Reg.wanted_none rfl, ?_⟩
    generalize hρ : (Reg.gfr (Reg.opsOf Try.f3 5) a0 v [23, 21, 0, 1, 2, 3, 4, 5, 6, 7, 8, 9, 10, 11, 12, 13, 14, 15, 16, 17, 18, 19, 20, 21, 22, 23]).eval = ρ at e47
    have hρ' : (Reg.gfr (Reg.opsOf Try.f3 5) a0 v [23, 21, 0, 1, 2, 3, 4, 5, 6, 7, 8, 9, 10, 11, 12, 13, 14, 15, 16, 17, 18, 19, 20, 21, 22, 23]).eval = ρ := hρ
    exact Reg.go_run _ W (by rw [hρ']; simp [execOp, go_sem, e47]) ⟨Below.refl _ _, rfl⟩
  refine Reg.region_all (by kernel_rfl) (textsR A B V T pe c) (by rw [hn, hsz]; kernel_rfl) (texts_stable A B V T pe c) (fun i hi => ?_) (fun v w hb hR => ?_)
  · rw [hn] at hi
    match i, List.mem_range.1 hi with
    | 0, _ => exact h0
    | 1, _ => exact h1
    | 2, _ => exact h2
    | 3, _ => exact h3
    | 4, _ => exact h4
    | 5, _ => exact h5
    | 6, _ => exact h6
    | 7, _ => exact h7
    | 8, _ => exact h8
    | 9, _ => exact h9
    | 10, _ => exact h10
    | 11, _ => exact h11
    | 12, _ => exact h12
    | 13, _ => exact h13
    | 14, _ => exact h14
    | 15, _ => exact h15
    | 16, _ => exact h16
    | 17, _ => exact h17
    | 18, _ => exact h18
    | 19, _ => exact h19
    | 20, _ => exact h20
    | 21, _ => exact h21
    | 22, _ => exact h22
    | 23, _ => exact h23
    | 24, _ => exact h24
    | (_ + 25), h => omega
  · rw [hn] at hR ⊢
    refine hend _ w hb (Reg.gfr_defers _) (Reg.gfr_size _) ?_
    · have hv : v 24 = (Value.bool true) := hR 24 (by decide)
      exact (Reg.gfr_eval (ops := (Reg.opsOf Try.f3 5)) (a0 := a0) (v := v) (L := List.range 25) 6 24 (by kernel_rfl) (by rw [hsz]; omega)).trans hv
end Go.Proofs.Ytcdnbidenaljlaa
