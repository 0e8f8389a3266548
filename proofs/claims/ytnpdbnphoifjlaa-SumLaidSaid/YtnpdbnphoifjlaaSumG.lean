/- A region that draws its order: its obligations (printed by regen.py). -/
import Derived.Test.YtnpdbnphoifjlaaSumT
import Derived.Test.YtnpdbnphoifjlaaRegR
namespace Go.Proofs.Ytnpdbnphoifjlaa
open Go.RowKit
def laidR (Ao Aa Ab Ac : Option Addr) (na ca nb cb nc cc n k co y0 ya yb yc yk yab : Nat) : Nat → Value → World → Prop
  | 0 => fun u _ => u = (Value.bool true)
  | 1 => fun u _ => u = (Value.bool true)
  | 2 => fun u _ => u = (Value.slice Ao n co)
  | 3 => Reg.IsRow 22 #[(Value.slice Ao n co)] 1
  | 4 => fun u _ => u = (Value.int IntKind.u32 (y0 : Int))
  | 5 => fun u _ => u = (Value.slice Aa na ca)
  | 6 => fun u _ => u = (Value.int IntKind.i64 (n : Int))
  | 7 => fun u _ => u = (Value.slice Aa n ca)
  | 8 => Reg.IsRow 22 #[(Value.slice Aa n ca)] 1
  | 9 => fun u _ => u = (Value.int IntKind.u32 (ya : Int))
  | 10 => fun u _ => u = (Value.slice Ab nb cb)
  | 11 => fun u _ => u = (Value.int IntKind.i64 (n : Int))
  | 12 => fun u _ => u = (Value.slice Ab n cb)
  | 13 => Reg.IsRow 22 #[(Value.slice Ab n cb)] 1
  | 14 => fun u _ => u = (Value.int IntKind.u32 (yb : Int))
  | 15 => fun u _ => u = (Value.int IntKind.u32 (yab : Int))
  | 16 => fun u _ => u = (Value.slice Ac nc cc)
  | 17 => fun u _ => u = (Value.int IntKind.i64 (n : Int))
  | 18 => fun u _ => u = (Value.slice Ac n cc)
  | 19 => Reg.IsRow 22 #[(Value.slice Ac n cc)] 1
  | 20 => fun u _ => u = (Value.int IntKind.u32 (yc : Int))
  | 21 => fun u _ => u = (Value.int IntKind.u32 (y0 : Int))
  | 22 => fun u _ => u = (Value.bool true)
  | 23 => fun u _ => u = (Value.bool true)
  | 24 => fun u _ => u = (Value.bool true)
  | 25 => fun u _ => u = (Value.slice Aa na ca)
  | 26 => fun u _ => u = (Value.int IntKind.i64 (k : Int))
  | 27 => fun u _ => u = (Value.slice Aa k ca)
  | 28 => Reg.IsRow 22 #[(Value.slice Aa k ca)] 1
  | 29 => fun u _ => u = (Value.int IntKind.u32 (yk : Int))
  | 30 => fun u _ => u = (Value.slice Aa na ca)
  | 31 => fun u _ => u = (Value.int IntKind.i64 (k : Int))
  | 32 => fun u _ => u = (Value.int IntKind.i64 (n : Int))
  | 33 => fun u _ => u = (Value.slice (subA Aa ca k 1) (n - k) (ca - k))
  | 34 => fun u _ => u = (Value.int IntKind.u32 (ya : Int))
  | 35 => fun u _ => u = (Value.slice Aa na ca)
  | 36 => fun u _ => u = (Value.int IntKind.i64 (n : Int))
  | 37 => fun u _ => u = (Value.slice Aa n ca)
  | 38 => Reg.IsRow 22 #[(Value.slice Aa n ca)] 1
  | 39 => fun u _ => u = (Value.int IntKind.u32 (ya : Int))
  | 40 => fun u _ => u = (Value.bool true)
  | 41 => fun u _ => u = (Value.bool true)
  | 42 => fun u _ => u = (Value.bool true)
  | 43 => fun u _ => u = (Value.slice Ao n co)
  | 44 => fun u _ => u = (Value.int IntKind.u32 (y0 : Int))
  | 45 => fun u _ => u = (Value.slice Ao n co)
  | 46 => Reg.IsRow 22 #[(Value.slice Ao n co)] 1
  | 47 => fun u _ => u = (Value.int IntKind.u32 (y0 : Int))
  | 48 => fun u _ => u = (Value.bool true)
  | 49 => fun u _ => u = (Value.bool true)
  | 50 => fun u _ => u = (Value.bool true)
  | _ => fun _ _ => True
theorem laid_stable (Ao Aa Ab Ac : Option Addr) (na ca nb cb nc cc n k co y0 ya yb yc yk yab : Nat) : ∀ i u w w', (laidR Ao Aa Ab Ac na ca nb cb nc cc n k co y0 ya yb yc yk yab) i u w → Below w.heap.size w w' → (laidR Ao Aa Ab Ac na ca nb cb nc cc n k co y0 ya yb yc yk yab) i u w' := fun i u w w' h hb => by
  match i, h with
  | 0, h => exact h
  | 1, h => exact h
  | 2, h => exact h
  | 3, h => exact (Reg.IsRow.below h hb)
  | 4, h => exact h
  | 5, h => exact h
  | 6, h => exact h
  | 7, h => exact h
  | 8, h => exact (Reg.IsRow.below h hb)
  | 9, h => exact h
  | 10, h => exact h
  | 11, h => exact h
  | 12, h => exact h
  | 13, h => exact (Reg.IsRow.below h hb)
  | 14, h => exact h
  | 15, h => exact h
  | 16, h => exact h
  | 17, h => exact h
  | 18, h => exact h
  | 19, h => exact (Reg.IsRow.below h hb)
  | 20, h => exact h
  | 21, h => exact h
  | 22, h => exact h
  | 23, h => exact h
  | 24, h => exact h
  | 25, h => exact h
  | 26, h => exact h
  | 27, h => exact h
  | 28, h => exact (Reg.IsRow.below h hb)
  | 29, h => exact h
  | 30, h => exact h
  | 31, h => exact h
  | 32, h => exact h
  | 33, h => exact h
  | 34, h => exact h
  | 35, h => exact h
  | 36, h => exact h
  | 37, h => exact h
  | 38, h => exact (Reg.IsRow.below h hb)
  | 39, h => exact h
  | 40, h => exact h
  | 41, h => exact h
  | 42, h => exact h
  | 43, h => exact h
  | 44, h => exact h
  | 45, h => exact h
  | 46, h => exact (Reg.IsRow.below h hb)
  | 47, h => exact h
  | 48, h => exact h
  | 49, h => exact h
  | 50, h => exact h
  | (_ + 51), _ => trivial
set_option maxHeartbeats 4000000 in
set_option maxRecDepth 20000 in
theorem laid (Ao Aa Ab Ac : Option Addr) (na ca nb cb nc cc n k co y0 ya yb yc yk yab : Nat) (w0 : World) (a0 : Act)
    (qO : ∀ W g, Below w0.heap.size w0 W → W.heap[g]? = some (.cells #[(Value.slice Ao n co)] 22 (0, 0)) → Calls Try.prog 10 #[.slice (some ⟨g, 0, none⟩) 1 1] W fun e w' => e = .returned (.int .u32 (y0 : Int)) ∧ W = w')
    (qA : ∀ W g, Below w0.heap.size w0 W → W.heap[g]? = some (.cells #[(Value.slice Aa n ca)] 22 (0, 0)) → Calls Try.prog 10 #[.slice (some ⟨g, 0, none⟩) 1 1] W fun e w' => e = .returned (.int .u32 (ya : Int)) ∧ W = w')
    (qB : ∀ W g, Below w0.heap.size w0 W → W.heap[g]? = some (.cells #[(Value.slice Ab n cb)] 22 (0, 0)) → Calls Try.prog 10 #[.slice (some ⟨g, 0, none⟩) 1 1] W fun e w' => e = .returned (.int .u32 (yb : Int)) ∧ W = w')
    (qC : ∀ W g, Below w0.heap.size w0 W → W.heap[g]? = some (.cells #[(Value.slice Ac n cc)] 22 (0, 0)) → Calls Try.prog 10 #[.slice (some ⟨g, 0, none⟩) 1 1] W fun e w' => e = .returned (.int .u32 (yc : Int)) ∧ W = w')
    (qK : ∀ W g, Below w0.heap.size w0 W → W.heap[g]? = some (.cells #[(Value.slice Aa k ca)] 22 (0, 0)) → Calls Try.prog 10 #[.slice (some ⟨g, 0, none⟩) 1 1] W fun e w' => e = .returned (.int .u32 (yk : Int)) ∧ W = w')
    (qL : ∀ W, Below w0.heap.size w0 W → Calls Try.prog 11 #[.int .u32 (yk : Int), (Value.slice (subA Aa ca k 1) (n - k) (ca - k))] W fun e w' => e = .returned (.int .u32 (ya : Int)) ∧ W = w')
    (qR : ∀ W, Below w0.heap.size w0 W → Calls Try.prog 9 #[(Value.slice Ao n co)] W fun e w' => e = .returned (.int .u32 (y0 : Int)) ∧ W = w')
    (s1 : ∀ W, (Instr.slice 22 (Value.slice Aa na ca) none (some (.int .i64 (n : Int))) none).run Try.prog W = .ok (Value.slice Aa n ca) W)
    (s2 : ∀ W, (Instr.slice 22 (Value.slice Ab nb cb) none (some (.int .i64 (n : Int))) none).run Try.prog W = .ok (Value.slice Ab n cb) W)
    (s3 : ∀ W, (Instr.slice 22 (Value.slice Ac nc cc) none (some (.int .i64 (n : Int))) none).run Try.prog W = .ok (Value.slice Ac n cc) W)
    (s4 : ∀ W, (Instr.slice 22 (Value.slice Aa na ca) none (some (.int .i64 (k : Int))) none).run Try.prog W = .ok (Value.slice Aa k ca) W)
    (s5 : ∀ W, (Instr.slice 22 (Value.slice Aa na ca) (some (.int .i64 (k : Int))) (some (.int .i64 (n : Int))) none).run Try.prog W = .ok (Value.slice (subA Aa ca k 1) (n - k) (ca - k)) W)
    (x1 : bits BinOp.xor IntKind.u32 (ya : Int) (yb : Int) = (yab : Int)) (x2 : bits BinOp.xor IntKind.u32 (yab : Int) (yc : Int) = (y0 : Int))
    (i0 : a0.eval (.tmp 0) = (Value.slice Aa na ca))
    (i1 : a0.eval (.tmp 1) = (Value.slice Ab nb cb))
    (i2 : a0.eval (.tmp 2) = (Value.slice Ac nc cc))
    (i9 : a0.eval (.tmp 9) = (Value.bool true))
    (i10 : a0.eval (.tmp 10) = (Value.int IntKind.i64 (n : Int)))
    (i11 : a0.eval (.tmp 11) = (Value.slice Ao n co))
    (i13 : a0.eval (.tmp 13) = (Value.int IntKind.i64 (k : Int)))
    (hsz : a0.tmps.size = 117) {Q : Exit → Act → World → Prop}
    (hend : ∀ (a : Act) (w : World), Below w0.heap.size w0 w → a.defers = a0.defers → a.tmps.size = a0.tmps.size → a.eval (.tmp 8) = (Value.bool true) → Q .normal a w) :
    (Code.region 11 (Reg.opsOf Try.f4 11) true).wp Try.prog Q a0 w0 := by
  have hn : (Reg.opsOf Try.f4 11).size = 51 := by kernel_rfl
  have h0 : Reg.OpOK Try.prog (Reg.opsOf Try.f4 11) a0 w0 (laidR Ao Aa Ab Ac na ca nb cb nc cc n k co y0 ya yb yc yk yab) (fun _ _ _ _ => True) 0 := by
    refine Reg.op_ok (o := { dst := some 67, op := Op.move (Operand.tmp 9), type := 4, pos := "outright.go:107", after := #[], guard := none }) (by kernel_rfl) [] (by kernel_rfl) fun v W hb hd => ?_
    have e9 := (Reg.gfr_eval0 (ops := (Reg.opsOf Try.f4 11)) (a0 := a0) (v := v) (L := []) 9 (by kernel_rfl)).trans i9
    refine ⟨Reg.wanted_none rfl, ?_⟩
    generalize hρ : (Reg.gfr (Reg.opsOf Try.f4 11) a0 v []).eval = ρ at e9
    have hρ' : (Reg.gfr (Reg.opsOf Try.f4 11) a0 v []).eval = ρ := hρ
    exact Reg.go_run _ W (by rw [hρ']; simp [execOp, go_sem, e9]) ⟨Below.refl _ _, rfl⟩
  have h1 : Reg.OpOK Try.prog (Reg.opsOf Try.f4 11) a0 w0 (laidR Ao Aa Ab Ac na ca nb cb nc cc n k co y0 ya yb yc yk yab) (fun _ _ _ _ => True) 1 := by
    refine Reg.op_ok (o := { dst := some 68, op := Op.move (Operand.tmp 67), type := 4, pos := "outright.go:107", after := #[{ on := 0, ground := Ground.data }], guard := none }) (by kernel_rfl) [0] (by kernel_rfl) fun v W hb hd => ?_
    have d0 : v 0 = (Value.bool true) := hd 0 (by decide)
    have e67 := (Reg.gfr_eval (ops := (Reg.opsOf Try.f4 11)) (a0 := a0) (v := v) (L := [0]) 67 0 (by kernel_rfl) (by rw [hsz]; omega)).trans d0
    refine ⟨Reg.wanted_none rfl, ?_⟩
    generalize hρ : (Reg.gfr (Reg.opsOf Try.f4 11) a0 v [0]).eval = ρ at e67
    have hρ' : (Reg.gfr (Reg.opsOf Try.f4 11) a0 v [0]).eval = ρ := hρ
    exact Reg.go_run _ W (by rw [hρ']; simp [execOp, go_sem, e67]) ⟨Below.refl _ _, rfl⟩
  have h2 : Reg.OpOK Try.prog (Reg.opsOf Try.f4 11) a0 w0 (laidR Ao Aa Ab Ac na ca nb cb nc cc n k co y0 ya yb yc yk yab) (fun _ _ _ _ => True) 2 := by
    refine Reg.op_ok (o := { dst := some 69, op := Op.move (Operand.tmp 11), type := 22, pos := "outright.go:107", after := #[{ on := 1, ground := Ground.guard }], guard := some (1, true) }) (by kernel_rfl) [1] (by kernel_rfl) fun v W hb hd => ?_
    have d1 : v 1 = (Value.bool true) := hd 1 (by decide)
    have e11 := (Reg.gfr_eval0 (ops := (Reg.opsOf Try.f4 11)) (a0 := a0) (v := v) (L := [1]) 11 (by kernel_rfl)).trans i11
    have e68 := (Reg.gfr_eval (ops := (Reg.opsOf Try.f4 11)) (a0 := a0) (v := v) (L := [1]) 68 1 (by kernel_rfl) (by rw [hsz]; omega)).trans d1
    refine ⟨Reg.wanted_of rfl (by kernel_rfl) e68, ?_⟩
    generalize hρ : (Reg.gfr (Reg.opsOf Try.f4 11) a0 v [1]).eval = ρ at e11
    have hρ' : (Reg.gfr (Reg.opsOf Try.f4 11) a0 v [1]).eval = ρ := hρ
    exact Reg.go_run _ W (by rw [hρ']; simp [execOp, go_sem, e11]) ⟨Below.refl _ _, rfl⟩
  have h3 : Reg.OpOK Try.prog (Reg.opsOf Try.f4 11) a0 w0 (laidR Ao Aa Ab Ac na ca nb cb nc cc n k co y0 ya yb yc yk yab) (fun _ _ _ _ => True) 3 := by
    refine Reg.op_ok (o := { dst := some 70, op := Op.buildSlice 34 1 #[(0, Operand.tmp 69)], type := 34, pos := "outright.go:107", after := #[{ on := 2, ground := Ground.data }, { on := 1, ground := Ground.guard }], guard := some (1, true) }) (by kernel_rfl) [2, 1] (by kernel_rfl) fun v W hb hd => ?_
    have d1 : v 1 = (Value.bool true) := hd 1 (by decide)
    have d2 : v 2 = (Value.slice Ao n co) := hd 2 (by decide)
    have e69 := (Reg.gfr_eval (ops := (Reg.opsOf Try.f4 11)) (a0 := a0) (v := v) (L := [2, 1]) 69 2 (by kernel_rfl) (by rw [hsz]; omega)).trans d2
    have e68 := (Reg.gfr_eval (ops := (Reg.opsOf Try.f4 11)) (a0 := a0) (v := v) (L := [2, 1]) 68 1 (by kernel_rfl) (by rw [hsz]; omega)).trans d1
    refine ⟨Reg.wanted_of rfl (by kernel_rfl) e68, ?_⟩
    generalize hρ : (Reg.gfr (Reg.opsOf Try.f4 11) a0 v [2, 1]).eval = ρ at e69
    have hρ' : (Reg.gfr (Reg.opsOf Try.f4 11) a0 v [2, 1]).eval = ρ := hρ
    refine Reg.go_run _ (W.alloc (.cells #[(Value.slice Ao n co)] 22)) (by rw [hρ']; simp [execOp, go_sem, e69]) ⟨(Below.refl _ W).alloc (Nat.le_refl _) _, _, rfl, heap_alloc_new _ _⟩
  have h4 : Reg.OpOK Try.prog (Reg.opsOf Try.f4 11) a0 w0 (laidR Ao Aa Ab Ac na ca nb cb nc cc n k co y0 ya yb yc yk yab) (fun _ _ _ _ => True) 4 := by
    refine Reg.op_ok (o := { dst := some 71, op := Op.call { callee := Callee.value (Operand.func 10), args := #[Operand.tmp 70], argTypes := #[34] }, type := 24, pos := "outright.go:107", after := #[{ on := 3, ground := Ground.data }, { on := 1, ground := Ground.chain }, { on := 1, ground := Ground.guard }], guard := some (1, true) }) (by kernel_rfl) [3, 1, 1] (by kernel_rfl) fun v W hb hd => ?_
    have d1 : v 1 = (Value.bool true) := hd 1 (by decide)
    have d3 : (Reg.IsRow 22 #[(Value.slice Ao n co)] 1) (v 3) W := hd 3 (by decide)
    have e70 := Reg.gfr_eval (ops := (Reg.opsOf Try.f4 11)) (a0 := a0) (v := v) (L := [3, 1, 1]) 70 3 (by kernel_rfl) (by rw [hsz]; omega)
    have e68 := (Reg.gfr_eval (ops := (Reg.opsOf Try.f4 11)) (a0 := a0) (v := v) (L := [3, 1, 1]) 68 1 (by kernel_rfl) (by rw [hsz]; omega)).trans d1
    obtain ⟨g, hg1, hg2⟩ := d3
    rw [hg1] at e70
    refine ⟨Reg.wanted_of rfl (by kernel_rfl) e68, ?_⟩
    have eF : ∀ f, (Reg.gfr (Reg.opsOf Try.f4 11) a0 v [3, 1, 1]).eval (.func f) = .func (.func f) #[] #[] := fun _ => rfl
    generalize hρ : (Reg.gfr (Reg.opsOf Try.f4 11) a0 v [3, 1, 1]).eval = ρ at e70 eF
    have hρ' : (Reg.gfr (Reg.opsOf Try.f4 11) a0 v [3, 1, 1]).eval = ρ := hρ
    refine Reg.go_call 10 #[.slice (some ⟨g, 0, none⟩) 1 1] (by rw [hρ']; simp [execOp, go_sem, e70, eF]) ((qO W g hb hg2).mono fun e w' he => ?_)
    obtain ⟨rfl, rfl⟩ := he
    exact ⟨_, rfl, Below.refl _ _, rfl⟩
  have h5 : Reg.OpOK Try.prog (Reg.opsOf Try.f4 11) a0 w0 (laidR Ao Aa Ab Ac na ca nb cb nc cc n k co y0 ya yb yc yk yab) (fun _ _ _ _ => True) 5 := by
    refine Reg.op_ok (o := { dst := some 72, op := Op.move (Operand.tmp 0), type := 22, pos := "outright.go:107", after := #[{ on := 1, ground := Ground.guard }], guard := some (1, true) }) (by kernel_rfl) [1] (by kernel_rfl) fun v W hb hd => ?_
    have d1 : v 1 = (Value.bool true) := hd 1 (by decide)
    have e0 := (Reg.gfr_eval0 (ops := (Reg.opsOf Try.f4 11)) (a0 := a0) (v := v) (L := [1]) 0 (by kernel_rfl)).trans i0
    have e68 := (Reg.gfr_eval (ops := (Reg.opsOf Try.f4 11)) (a0 := a0) (v := v) (L := [1]) 68 1 (by kernel_rfl) (by rw [hsz]; omega)).trans d1
    refine ⟨Reg.wanted_of rfl (by kernel_rfl) e68, ?_⟩
    generalize hρ : (Reg.gfr (Reg.opsOf Try.f4 11) a0 v [1]).eval = ρ at e0
    have hρ' : (Reg.gfr (Reg.opsOf Try.f4 11) a0 v [1]).eval = ρ := hρ
    exact Reg.go_run _ W (by rw [hρ']; simp [execOp, go_sem, e0]) ⟨Below.refl _ _, rfl⟩
  have h6 : Reg.OpOK Try.prog (Reg.opsOf Try.f4 11) a0 w0 (laidR Ao Aa Ab Ac na ca nb cb nc cc n k co y0 ya yb yc yk yab) (fun _ _ _ _ => True) 6 := by
    refine Reg.op_ok (o := { dst := some 73, op := Op.move (Operand.tmp 10), type := 3, pos := "outright.go:107", after := #[{ on := 1, ground := Ground.guard }], guard := some (1, true) }) (by kernel_rfl) [1] (by kernel_rfl) fun v W hb hd => ?_
    have d1 : v 1 = (Value.bool true) := hd 1 (by decide)
    have e10 := (Reg.gfr_eval0 (ops := (Reg.opsOf Try.f4 11)) (a0 := a0) (v := v) (L := [1]) 10 (by kernel_rfl)).trans i10
    have e68 := (Reg.gfr_eval (ops := (Reg.opsOf Try.f4 11)) (a0 := a0) (v := v) (L := [1]) 68 1 (by kernel_rfl) (by rw [hsz]; omega)).trans d1
    refine ⟨Reg.wanted_of rfl (by kernel_rfl) e68, ?_⟩
    generalize hρ : (Reg.gfr (Reg.opsOf Try.f4 11) a0 v [1]).eval = ρ at e10
    have hρ' : (Reg.gfr (Reg.opsOf Try.f4 11) a0 v [1]).eval = ρ := hρ
    exact Reg.go_run _ W (by rw [hρ']; simp [execOp, go_sem, e10]) ⟨Below.refl _ _, rfl⟩
  have h7 : Reg.OpOK Try.prog (Reg.opsOf Try.f4 11) a0 w0 (laidR Ao Aa Ab Ac na ca nb cb nc cc n k co y0 ya yb yc yk yab) (fun _ _ _ _ => True) 7 := by
    refine Reg.op_ok (o := { dst := some 74, op := Op.slice 22 (Operand.tmp 72) none (some (Operand.tmp 73)) none, type := 22, pos := "outright.go:107", after := #[{ on := 5, ground := Ground.data }, { on := 6, ground := Ground.data }, { on := 1, ground := Ground.guard }], guard := some (1, true) }) (by kernel_rfl) [5, 6, 1] (by kernel_rfl) fun v W hb hd => ?_
    have d1 : v 1 = (Value.bool true) := hd 1 (by decide)
    have d5 : v 5 = (Value.slice Aa na ca) := hd 5 (by decide)
    have d6 : v 6 = (Value.int IntKind.i64 (n : Int)) := hd 6 (by decide)
    have e72 := (Reg.gfr_eval (ops := (Reg.opsOf Try.f4 11)) (a0 := a0) (v := v) (L := [5, 6, 1]) 72 5 (by kernel_rfl) (by rw [hsz]; omega)).trans d5
    have e73 := (Reg.gfr_eval (ops := (Reg.opsOf Try.f4 11)) (a0 := a0) (v := v) (L := [5, 6, 1]) 73 6 (by kernel_rfl) (by rw [hsz]; omega)).trans d6
    have e68 := (Reg.gfr_eval (ops := (Reg.opsOf Try.f4 11)) (a0 := a0) (v := v) (L := [5, 6, 1]) 68 1 (by kernel_rfl) (by rw [hsz]; omega)).trans d1
    refine ⟨Reg.wanted_of rfl (by kernel_rfl) e68, ?_⟩
    generalize hρ : (Reg.gfr (Reg.opsOf Try.f4 11) a0 v [5, 6, 1]).eval = ρ at e72 e73
    have hρ' : (Reg.gfr (Reg.opsOf Try.f4 11) a0 v [5, 6, 1]).eval = ρ := hρ
    exact Reg.go_run _ W (by rw [hρ']; simp [execOp, go_sem, e72, e73, s1]) ⟨Below.refl _ _, rfl⟩
  have h8 : Reg.OpOK Try.prog (Reg.opsOf Try.f4 11) a0 w0 (laidR Ao Aa Ab Ac na ca nb cb nc cc n k co y0 ya yb yc yk yab) (fun _ _ _ _ => True) 8 := by
    refine Reg.op_ok (o := { dst := some 75, op := Op.buildSlice 34 1 #[(0, Operand.tmp 74)], type := 34, pos := "outright.go:107", after := #[{ on := 7, ground := Ground.data }, { on := 1, ground := Ground.guard }], guard := some (1, true) }) (by kernel_rfl) [7, 1] (by kernel_rfl) fun v W hb hd => ?_
    have d1 : v 1 = (Value.bool true) := hd 1 (by decide)
    have d7 : v 7 = (Value.slice Aa n ca) := hd 7 (by decide)
    have e74 := (Reg.gfr_eval (ops := (Reg.opsOf Try.f4 11)) (a0 := a0) (v := v) (L := [7, 1]) 74 7 (by kernel_rfl) (by rw [hsz]; omega)).trans d7
    have e68 := (Reg.gfr_eval (ops := (Reg.opsOf Try.f4 11)) (a0 := a0) (v := v) (L := [7, 1]) 68 1 (by kernel_rfl) (by rw [hsz]; omega)).trans d1
    refine ⟨Reg.wanted_of rfl (by kernel_rfl) e68, ?_⟩
    generalize hρ : (Reg.gfr (Reg.opsOf Try.f4 11) a0 v [7, 1]).eval = ρ at e74
    have hρ' : (Reg.gfr (Reg.opsOf Try.f4 11) a0 v [7, 1]).eval = ρ := hρ
    refine Reg.go_run _ (W.alloc (.cells #[(Value.slice Aa n ca)] 22)) (by rw [hρ']; simp [execOp, go_sem, e74]) ⟨(Below.refl _ W).alloc (Nat.le_refl _) _, _, rfl, heap_alloc_new _ _⟩
  have h9 : Reg.OpOK Try.prog (Reg.opsOf Try.f4 11) a0 w0 (laidR Ao Aa Ab Ac na ca nb cb nc cc n k co y0 ya yb yc yk yab) (fun _ _ _ _ => True) 9 := by
    refine Reg.op_ok (o := { dst := some 76, op := Op.call { callee := Callee.value (Operand.func 10), args := #[Operand.tmp 75], argTypes := #[34] }, type := 24, pos := "outright.go:107", after := #[{ on := 8, ground := Ground.data }, { on := 4, ground := Ground.chain }, { on := 1, ground := Ground.guard }], guard := some (1, true) }) (by kernel_rfl) [8, 4, 1] (by kernel_rfl) fun v W hb hd => ?_
    have d1 : v 1 = (Value.bool true) := hd 1 (by decide)
    have d8 : (Reg.IsRow 22 #[(Value.slice Aa n ca)] 1) (v 8) W := hd 8 (by decide)
    have e75 := Reg.gfr_eval (ops := (Reg.opsOf Try.f4 11)) (a0 := a0) (v := v) (L := [8, 4, 1]) 75 8 (by kernel_rfl) (by rw [hsz]; omega)
    have e68 := (Reg.gfr_eval (ops := (Reg.opsOf Try.f4 11)) (a0 := a0) (v := v) (L := [8, 4, 1]) 68 1 (by kernel_rfl) (by rw [hsz]; omega)).trans d1
    obtain ⟨g, hg1, hg2⟩ := d8
    rw [hg1] at e75
    refine ⟨Reg.wanted_of rfl (by kernel_rfl) e68, ?_⟩
    have eF : ∀ f, (Reg.gfr (Reg.opsOf Try.f4 11) a0 v [8, 4, 1]).eval (.func f) = .func (.func f) #[] #[] := fun _ => rfl
    generalize hρ : (Reg.gfr (Reg.opsOf Try.f4 11) a0 v [8, 4, 1]).eval = ρ at e75 eF
    have hρ' : (Reg.gfr (Reg.opsOf Try.f4 11) a0 v [8, 4, 1]).eval = ρ := hρ
    refine Reg.go_call 10 #[.slice (some ⟨g, 0, none⟩) 1 1] (by rw [hρ']; simp [execOp, go_sem, e75, eF]) ((qA W g hb hg2).mono fun e w' he => ?_)
    obtain ⟨rfl, rfl⟩ := he
    exact ⟨_, rfl, Below.refl _ _, rfl⟩
  have h10 : Reg.OpOK Try.prog (Reg.opsOf Try.f4 11) a0 w0 (laidR Ao Aa Ab Ac na ca nb cb nc cc n k co y0 ya yb yc yk yab) (fun _ _ _ _ => True) 10 := by
    refine Reg.op_ok (o := { dst := some 77, op := Op.move (Operand.tmp 1), type := 22, pos := "outright.go:107", after := #[{ on := 1, ground := Ground.guard }], guard := some (1, true) }) (by kernel_rfl) [1] (by kernel_rfl) fun v W hb hd => ?_
    have d1 : v 1 = (Value.bool true) := hd 1 (by decide)
    have e1 := (Reg.gfr_eval0 (ops := (Reg.opsOf Try.f4 11)) (a0 := a0) (v := v) (L := [1]) 1 (by kernel_rfl)).trans i1
    have e68 := (Reg.gfr_eval (ops := (Reg.opsOf Try.f4 11)) (a0 := a0) (v := v) (L := [1]) 68 1 (by kernel_rfl) (by rw [hsz]; omega)).trans d1
    refine ⟨Reg.wanted_of rfl (by kernel_rfl) e68, ?_⟩
    generalize hρ : (Reg.gfr (Reg.opsOf Try.f4 11) a0 v [1]).eval = ρ at e1
    have hρ' : (Reg.gfr (Reg.opsOf Try.f4 11) a0 v [1]).eval = ρ := hρ
    exact Reg.go_run _ W (by rw [hρ']; simp [execOp, go_sem, e1]) ⟨Below.refl _ _, rfl⟩
  have h11 : Reg.OpOK Try.prog (Reg.opsOf Try.f4 11) a0 w0 (laidR Ao Aa Ab Ac na ca nb cb nc cc n k co y0 ya yb yc yk yab) (fun _ _ _ _ => True) 11 := by
    refine Reg.op_ok (o := { dst := some 78, op := Op.move (Operand.tmp 10), type := 3, pos := "outright.go:107", after := #[{ on := 1, ground := Ground.guard }], guard := some (1, true) }) (by kernel_rfl) [1] (by kernel_rfl) fun v W hb hd => ?_
    have d1 : v 1 = (Value.bool true) := hd 1 (by decide)
    have e10 := (Reg.gfr_eval0 (ops := (Reg.opsOf Try.f4 11)) (a0 := a0) (v := v) (L := [1]) 10 (by kernel_rfl)).trans i10
    have e68 := (Reg.gfr_eval (ops := (Reg.opsOf Try.f4 11)) (a0 := a0) (v := v) (L := [1]) 68 1 (by kernel_rfl) (by rw [hsz]; omega)).trans d1
    refine ⟨Reg.wanted_of rfl (by kernel_rfl) e68, ?_⟩
    generalize hρ : (Reg.gfr (Reg.opsOf Try.f4 11) a0 v [1]).eval = ρ at e10
    have hρ' : (Reg.gfr (Reg.opsOf Try.f4 11) a0 v [1]).eval = ρ := hρ
    exact Reg.go_run _ W (by rw [hρ']; simp [execOp, go_sem, e10]) ⟨Below.refl _ _, rfl⟩
  have h12 : Reg.OpOK Try.prog (Reg.opsOf Try.f4 11) a0 w0 (laidR Ao Aa Ab Ac na ca nb cb nc cc n k co y0 ya yb yc yk yab) (fun _ _ _ _ => True) 12 := by
    refine Reg.op_ok (o := { dst := some 79, op := Op.slice 22 (Operand.tmp 77) none (some (Operand.tmp 78)) none, type := 22, pos := "outright.go:107", after := #[{ on := 10, ground := Ground.data }, { on := 11, ground := Ground.data }, { on := 1, ground := Ground.guard }], guard := some (1, true) }) (by kernel_rfl) [10, 11, 1] (by kernel_rfl) fun v W hb hd => ?_
    have d1 : v 1 = (Value.bool true) := hd 1 (by decide)
    have d10 : v 10 = (Value.slice Ab nb cb) := hd 10 (by decide)
    have d11 : v 11 = (Value.int IntKind.i64 (n : Int)) := hd 11 (by decide)
    have e77 := (Reg.gfr_eval (ops := (Reg.opsOf Try.f4 11)) (a0 := a0) (v := v) (L := [10, 11, 1]) 77 10 (by kernel_rfl) (by rw [hsz]; omega)).trans d10
    have e78 := (Reg.gfr_eval (ops := (Reg.opsOf Try.f4 11)) (a0 := a0) (v := v) (L := [10, 11, 1]) 78 11 (by kernel_rfl) (by rw [hsz]; omega)).trans d11
    have e68 := (Reg.gfr_eval (ops := (Reg.opsOf Try.f4 11)) (a0 := a0) (v := v) (L := [10, 11, 1]) 68 1 (by kernel_rfl) (by rw [hsz]; omega)).trans d1
    refine ⟨Reg.wanted_of rfl (by kernel_rfl) e68, ?_⟩
    generalize hρ : (Reg.gfr (Reg.opsOf Try.f4 11) a0 v [10, 11, 1]).eval = ρ at e77 e78
    have hρ' : (Reg.gfr (Reg.opsOf Try.f4 11) a0 v [10, 11, 1]).eval = ρ := hρ
    exact Reg.go_run _ W (by rw [hρ']; simp [execOp, go_sem, e77, e78, s2]) ⟨Below.refl _ _, rfl⟩
  have h13 : Reg.OpOK Try.prog (Reg.opsOf Try.f4 11) a0 w0 (laidR Ao Aa Ab Ac na ca nb cb nc cc n k co y0 ya yb yc yk yab) (fun _ _ _ _ => True) 13 := by
    refine Reg.op_ok (o := { dst := some 80, op := Op.buildSlice 34 1 #[(0, Operand.tmp 79)], type := 34, pos := "outright.go:107", after := #[{ on := 12, ground := Ground.data }, { on := 1, ground := Ground.guard }], guard := some (1, true) }) (by kernel_rfl) [12, 1] (by kernel_rfl) fun v W hb hd => ?_
    have d1 : v 1 = (Value.bool true) := hd 1 (by decide)
    have d12 : v 12 = (Value.slice Ab n cb) := hd 12 (by decide)
    have e79 := (Reg.gfr_eval (ops := (Reg.opsOf Try.f4 11)) (a0 := a0) (v := v) (L := [12, 1]) 79 12 (by kernel_rfl) (by rw [hsz]; omega)).trans d12
    have e68 := (Reg.gfr_eval (ops := (Reg.opsOf Try.f4 11)) (a0 := a0) (v := v) (L := [12, 1]) 68 1 (by kernel_rfl) (by rw [hsz]; omega)).trans d1
    refine ⟨Reg.wanted_of rfl (by kernel_rfl) e68, ?_⟩
    generalize hρ : (Reg.gfr (Reg.opsOf Try.f4 11) a0 v [12, 1]).eval = ρ at e79
    have hρ' : (Reg.gfr (Reg.opsOf Try.f4 11) a0 v [12, 1]).eval = ρ := hρ
    refine Reg.go_run _ (W.alloc (.cells #[(Value.slice Ab n cb)] 22)) (by rw [hρ']; simp [execOp, go_sem, e79]) ⟨(Below.refl _ W).alloc (Nat.le_refl _) _, _, rfl, heap_alloc_new _ _⟩
  have h14 : Reg.OpOK Try.prog (Reg.opsOf Try.f4 11) a0 w0 (laidR Ao Aa Ab Ac na ca nb cb nc cc n k co y0 ya yb yc yk yab) (fun _ _ _ _ => True) 14 := by
    refine Reg.op_ok (o := { dst := some 81, op := Op.call { callee := Callee.value (Operand.func 10), args := #[Operand.tmp 80], argTypes := #[34] }, type := 24, pos := "outright.go:107", after := #[{ on := 13, ground := Ground.data }, { on := 9, ground := Ground.chain }, { on := 1, ground := Ground.guard }], guard := some (1, true) }) (by kernel_rfl) [13, 9, 1] (by kernel_rfl) fun v W hb hd => ?_
    have d1 : v 1 = (Value.bool true) := hd 1 (by decide)
    have d13 : (Reg.IsRow 22 #[(Value.slice Ab n cb)] 1) (v 13) W := hd 13 (by decide)
    have e80 := Reg.gfr_eval (ops := (Reg.opsOf Try.f4 11)) (a0 := a0) (v := v) (L := [13, 9, 1]) 80 13 (by kernel_rfl) (by rw [hsz]; omega)
    have e68 := (Reg.gfr_eval (ops := (Reg.opsOf Try.f4 11)) (a0 := a0) (v := v) (L := [13, 9, 1]) 68 1 (by kernel_rfl) (by rw [hsz]; omega)).trans d1
    obtain ⟨g, hg1, hg2⟩ := d13
    rw [hg1] at e80
    refine ⟨Reg.wanted_of rfl (by kernel_rfl) e68, ?_⟩
    have eF : ∀ f, (Reg.gfr (Reg.opsOf Try.f4 11) a0 v [13, 9, 1]).eval (.func f) = .func (.func f) #[] #[] := fun _ => rfl
    generalize hρ : (Reg.gfr (Reg.opsOf Try.f4 11) a0 v [13, 9, 1]).eval = ρ at e80 eF
    have hρ' : (Reg.gfr (Reg.opsOf Try.f4 11) a0 v [13, 9, 1]).eval = ρ := hρ
    refine Reg.go_call 10 #[.slice (some ⟨g, 0, none⟩) 1 1] (by rw [hρ']; simp [execOp, go_sem, e80, eF]) ((qB W g hb hg2).mono fun e w' he => ?_)
    obtain ⟨rfl, rfl⟩ := he
    exact ⟨_, rfl, Below.refl _ _, rfl⟩
  have h15 : Reg.OpOK Try.prog (Reg.opsOf Try.f4 11) a0 w0 (laidR Ao Aa Ab Ac na ca nb cb nc cc n k co y0 ya yb yc yk yab) (fun _ _ _ _ => True) 15 := by
    refine Reg.op_ok (o := { dst := some 82, op := Op.binOp BinOp.xor 24 (Operand.tmp 76) (Operand.tmp 81) 24, type := 24, pos := "outright.go:107", after := #[{ on := 9, ground := Ground.data }, { on := 14, ground := Ground.data }, { on := 1, ground := Ground.guard }], guard := some (1, true) }) (by kernel_rfl) [9, 14, 1] (by kernel_rfl) fun v W hb hd => ?_
    have d1 : v 1 = (Value.bool true) := hd 1 (by decide)
    have d9 : v 9 = (Value.int IntKind.u32 (ya : Int)) := hd 9 (by decide)
    have d14 : v 14 = (Value.int IntKind.u32 (yb : Int)) := hd 14 (by decide)
    have e76 := (Reg.gfr_eval (ops := (Reg.opsOf Try.f4 11)) (a0 := a0) (v := v) (L := [9, 14, 1]) 76 9 (by kernel_rfl) (by rw [hsz]; omega)).trans d9
    have e81 := (Reg.gfr_eval (ops := (Reg.opsOf Try.f4 11)) (a0 := a0) (v := v) (L := [9, 14, 1]) 81 14 (by kernel_rfl) (by rw [hsz]; omega)).trans d14
    have e68 := (Reg.gfr_eval (ops := (Reg.opsOf Try.f4 11)) (a0 := a0) (v := v) (L := [9, 14, 1]) 68 1 (by kernel_rfl) (by rw [hsz]; omega)).trans d1
    refine ⟨Reg.wanted_of rfl (by kernel_rfl) e68, ?_⟩
    generalize hρ : (Reg.gfr (Reg.opsOf Try.f4 11) a0 v [9, 14, 1]).eval = ρ at e76 e81
    have hρ' : (Reg.gfr (Reg.opsOf Try.f4 11) a0 v [9, 14, 1]).eval = ρ := hρ
    exact Reg.go_run _ W (by rw [hρ']; simp [execOp, go_sem, e76, e81, x1]) ⟨Below.refl _ _, rfl⟩
  have h16 : Reg.OpOK Try.prog (Reg.opsOf Try.f4 11) a0 w0 (laidR Ao Aa Ab Ac na ca nb cb nc cc n k co y0 ya yb yc yk yab) (fun _ _ _ _ => True) 16 := by
    refine Reg.op_ok (o := { dst := some 83, op := Op.move (Operand.tmp 2), type := 22, pos := "outright.go:107", after := #[{ on := 1, ground := Ground.guard }], guard := some (1, true) }) (by kernel_rfl) [1] (by kernel_rfl) fun v W hb hd => ?_
    have d1 : v 1 = (Value.bool true) := hd 1 (by decide)
    have e2 := (Reg.gfr_eval0 (ops := (Reg.opsOf Try.f4 11)) (a0 := a0) (v := v) (L := [1]) 2 (by kernel_rfl)).trans i2
    have e68 := (Reg.gfr_eval (ops := (Reg.opsOf Try.f4 11)) (a0 := a0) (v := v) (L := [1]) 68 1 (by kernel_rfl) (by rw [hsz]; omega)).trans d1
    refine ⟨Reg.wanted_of rfl (by kernel_rfl) e68, ?_⟩
    generalize hρ : (Reg.gfr (Reg.opsOf Try.f4 11) a0 v [1]).eval = ρ at e2
    have hρ' : (Reg.gfr (Reg.opsOf Try.f4 11) a0 v [1]).eval = ρ := hρ
    exact Reg.go_run _ W (by rw [hρ']; simp [execOp, go_sem, e2]) ⟨Below.refl _ _, rfl⟩
  have h17 : Reg.OpOK Try.prog (Reg.opsOf Try.f4 11) a0 w0 (laidR Ao Aa Ab Ac na ca nb cb nc cc n k co y0 ya yb yc yk yab) (fun _ _ _ _ => True) 17 := by
    refine Reg.op_ok (o := { dst := some 84, op := Op.move (Operand.tmp 10), type := 3, pos := "outright.go:107", after := #[{ on := 1, ground := Ground.guard }], guard := some (1, true) }) (by kernel_rfl) [1] (by kernel_rfl) fun v W hb hd => ?_
    have d1 : v 1 = (Value.bool true) := hd 1 (by decide)
    have e10 := (Reg.gfr_eval0 (ops := (Reg.opsOf Try.f4 11)) (a0 := a0) (v := v) (L := [1]) 10 (by kernel_rfl)).trans i10
    have e68 := (Reg.gfr_eval (ops := (Reg.opsOf Try.f4 11)) (a0 := a0) (v := v) (L := [1]) 68 1 (by kernel_rfl) (by rw [hsz]; omega)).trans d1
    refine ⟨Reg.wanted_of rfl (by kernel_rfl) e68, ?_⟩
    generalize hρ : (Reg.gfr (Reg.opsOf Try.f4 11) a0 v [1]).eval = ρ at e10
    have hρ' : (Reg.gfr (Reg.opsOf Try.f4 11) a0 v [1]).eval = ρ := hρ
    exact Reg.go_run _ W (by rw [hρ']; simp [execOp, go_sem, e10]) ⟨Below.refl _ _, rfl⟩
  have h18 : Reg.OpOK Try.prog (Reg.opsOf Try.f4 11) a0 w0 (laidR Ao Aa Ab Ac na ca nb cb nc cc n k co y0 ya yb yc yk yab) (fun _ _ _ _ => True) 18 := by
    refine Reg.op_ok (o := { dst := some 85, op := Op.slice 22 (Operand.tmp 83) none (some (Operand.tmp 84)) none, type := 22, pos := "outright.go:107", after := #[{ on := 16, ground := Ground.data }, { on := 17, ground := Ground.data }, { on := 1, ground := Ground.guard }], guard := some (1, true) }) (by kernel_rfl) [16, 17, 1] (by kernel_rfl) fun v W hb hd => ?_
    have d1 : v 1 = (Value.bool true) := hd 1 (by decide)
    have d16 : v 16 = (Value.slice Ac nc cc) := hd 16 (by decide)
    have d17 : v 17 = (Value.int IntKind.i64 (n : Int)) := hd 17 (by decide)
    have e83 := (Reg.gfr_eval (ops := (Reg.opsOf Try.f4 11)) (a0 := a0) (v := v) (L := [16, 17, 1]) 83 16 (by kernel_rfl) (by rw [hsz]; omega)).trans d16
    have e84 := (Reg.gfr_eval (ops := (Reg.opsOf Try.f4 11)) (a0 := a0) (v := v) (L := [16, 17, 1]) 84 17 (by kernel_rfl) (by rw [hsz]; omega)).trans d17
    have e68 := (Reg.gfr_eval (ops := (Reg.opsOf Try.f4 11)) (a0 := a0) (v := v) (L := [16, 17, 1]) 68 1 (by kernel_rfl) (by rw [hsz]; omega)).trans d1
    refine ⟨Reg.wanted_of rfl (by kernel_rfl) e68, ?_⟩
    generalize hρ : (Reg.gfr (Reg.opsOf Try.f4 11) a0 v [16, 17, 1]).eval = ρ at e83 e84
    have hρ' : (Reg.gfr (Reg.opsOf Try.f4 11) a0 v [16, 17, 1]).eval = ρ := hρ
    exact Reg.go_run _ W (by rw [hρ']; simp [execOp, go_sem, e83, e84, s3]) ⟨Below.refl _ _, rfl⟩
  have h19 : Reg.OpOK Try.prog (Reg.opsOf Try.f4 11) a0 w0 (laidR Ao Aa Ab Ac na ca nb cb nc cc n k co y0 ya yb yc yk yab) (fun _ _ _ _ => True) 19 := by
    refine Reg.op_ok (o := { dst := some 86, op := Op.buildSlice 34 1 #[(0, Operand.tmp 85)], type := 34, pos := "outright.go:107", after := #[{ on := 18, ground := Ground.data }, { on := 1, ground := Ground.guard }], guard := some (1, true) }) (by kernel_rfl) [18, 1] (by kernel_rfl) fun v W hb hd => ?_
    have d1 : v 1 = (Value.bool true) := hd 1 (by decide)
    have d18 : v 18 = (Value.slice Ac n cc) := hd 18 (by decide)
    have e85 := (Reg.gfr_eval (ops := (Reg.opsOf Try.f4 11)) (a0 := a0) (v := v) (L := [18, 1]) 85 18 (by kernel_rfl) (by rw [hsz]; omega)).trans d18
    have e68 := (Reg.gfr_eval (ops := (Reg.opsOf Try.f4 11)) (a0 := a0) (v := v) (L := [18, 1]) 68 1 (by kernel_rfl) (by rw [hsz]; omega)).trans d1
    refine ⟨Reg.wanted_of rfl (by kernel_rfl) e68, ?_⟩
    generalize hρ : (Reg.gfr (Reg.opsOf Try.f4 11) a0 v [18, 1]).eval = ρ at e85
    have hρ' : (Reg.gfr (Reg.opsOf Try.f4 11) a0 v [18, 1]).eval = ρ := hρ
    refine Reg.go_run _ (W.alloc (.cells #[(Value.slice Ac n cc)] 22)) (by rw [hρ']; simp [execOp, go_sem, e85]) ⟨(Below.refl _ W).alloc (Nat.le_refl _) _, _, rfl, heap_alloc_new _ _⟩
  have h20 : Reg.OpOK Try.prog (Reg.opsOf Try.f4 11) a0 w0 (laidR Ao Aa Ab Ac na ca nb cb nc cc n k co y0 ya yb yc yk yab) (fun _ _ _ _ => True) 20 := by
    refine Reg.op_ok (o := { dst := some 87, op := Op.call { callee := Callee.value (Operand.func 10), args := #[Operand.tmp 86], argTypes := #[34] }, type := 24, pos := "outright.go:107", after := #[{ on := 19, ground := Ground.data }, { on := 14, ground := Ground.chain }, { on := 1, ground := Ground.guard }], guard := some (1, true) }) (by kernel_rfl) [19, 14, 1] (by kernel_rfl) fun v W hb hd => ?_
    have d1 : v 1 = (Value.bool true) := hd 1 (by decide)
    have d19 : (Reg.IsRow 22 #[(Value.slice Ac n cc)] 1) (v 19) W := hd 19 (by decide)
    have e86 := Reg.gfr_eval (ops := (Reg.opsOf Try.f4 11)) (a0 := a0) (v := v) (L := [19, 14, 1]) 86 19 (by kernel_rfl) (by rw [hsz]; omega)
    have e68 := (Reg.gfr_eval (ops := (Reg.opsOf Try.f4 11)) (a0 := a0) (v := v) (L := [19, 14, 1]) 68 1 (by kernel_rfl) (by rw [hsz]; omega)).trans d1
    obtain ⟨g, hg1, hg2⟩ := d19
    rw [hg1] at e86
    refine ⟨Reg.wanted_of rfl (by kernel_rfl) e68, ?_⟩
    have eF : ∀ f, (Reg.gfr (Reg.opsOf Try.f4 11) a0 v [19, 14, 1]).eval (.func f) = .func (.func f) #[] #[] := fun _ => rfl
    generalize hρ : (Reg.gfr (Reg.opsOf Try.f4 11) a0 v [19, 14, 1]).eval = ρ at e86 eF
    have hρ' : (Reg.gfr (Reg.opsOf Try.f4 11) a0 v [19, 14, 1]).eval = ρ := hρ
    refine Reg.go_call 10 #[.slice (some ⟨g, 0, none⟩) 1 1] (by rw [hρ']; simp [execOp, go_sem, e86, eF]) ((qC W g hb hg2).mono fun e w' he => ?_)
    obtain ⟨rfl, rfl⟩ := he
    exact ⟨_, rfl, Below.refl _ _, rfl⟩
  have h21 : Reg.OpOK Try.prog (Reg.opsOf Try.f4 11) a0 w0 (laidR Ao Aa Ab Ac na ca nb cb nc cc n k co y0 ya yb yc yk yab) (fun _ _ _ _ => True) 21 := by
    refine Reg.op_ok (o := { dst := some 88, op := Op.binOp BinOp.xor 24 (Operand.tmp 82) (Operand.tmp 87) 24, type := 24, pos := "outright.go:107", after := #[{ on := 15, ground := Ground.data }, { on := 20, ground := Ground.data }, { on := 1, ground := Ground.guard }], guard := some (1, true) }) (by kernel_rfl) [15, 20, 1] (by kernel_rfl) fun v W hb hd => ?_
    have d1 : v 1 = (Value.bool true) := hd 1 (by decide)
    have d15 : v 15 = (Value.int IntKind.u32 (yab : Int)) := hd 15 (by decide)
    have d20 : v 20 = (Value.int IntKind.u32 (yc : Int)) := hd 20 (by decide)
    have e82 := (Reg.gfr_eval (ops := (Reg.opsOf Try.f4 11)) (a0 := a0) (v := v) (L := [15, 20, 1]) 82 15 (by kernel_rfl) (by rw [hsz]; omega)).trans d15
    have e87 := (Reg.gfr_eval (ops := (Reg.opsOf Try.f4 11)) (a0 := a0) (v := v) (L := [15, 20, 1]) 87 20 (by kernel_rfl) (by rw [hsz]; omega)).trans d20
    have e68 := (Reg.gfr_eval (ops := (Reg.opsOf Try.f4 11)) (a0 := a0) (v := v) (L := [15, 20, 1]) 68 1 (by kernel_rfl) (by rw [hsz]; omega)).trans d1
    refine ⟨Reg.wanted_of rfl (by kernel_rfl) e68, ?_⟩
    generalize hρ : (Reg.gfr (Reg.opsOf Try.f4 11) a0 v [15, 20, 1]).eval = ρ at e82 e87
    have hρ' : (Reg.gfr (Reg.opsOf Try.f4 11) a0 v [15, 20, 1]).eval = ρ := hρ
    exact Reg.go_run _ W (by rw [hρ']; simp [execOp, go_sem, e82, e87, x2]) ⟨Below.refl _ _, rfl⟩
  have h22 : Reg.OpOK Try.prog (Reg.opsOf Try.f4 11) a0 w0 (laidR Ao Aa Ab Ac na ca nb cb nc cc n k co y0 ya yb yc yk yab) (fun _ _ _ _ => True) 22 := by
    refine Reg.op_ok (o := { dst := some 89, op := Op.binOp BinOp.eql 24 (Operand.tmp 71) (Operand.tmp 88) 24, type := 4, pos := "outright.go:107", after := #[{ on := 4, ground := Ground.data }, { on := 21, ground := Ground.data }, { on := 1, ground := Ground.guard }], guard := some (1, true) }) (by kernel_rfl) [4, 21, 1] (by kernel_rfl) fun v W hb hd => ?_
    have d1 : v 1 = (Value.bool true) := hd 1 (by decide)
    have d4 : v 4 = (Value.int IntKind.u32 (y0 : Int)) := hd 4 (by decide)
    have d21 : v 21 = (Value.int IntKind.u32 (y0 : Int)) := hd 21 (by decide)
    have e71 := (Reg.gfr_eval (ops := (Reg.opsOf Try.f4 11)) (a0 := a0) (v := v) (L := [4, 21, 1]) 71 4 (by kernel_rfl) (by rw [hsz]; omega)).trans d4
    have e88 := (Reg.gfr_eval (ops := (Reg.opsOf Try.f4 11)) (a0 := a0) (v := v) (L := [4, 21, 1]) 88 21 (by kernel_rfl) (by rw [hsz]; omega)).trans d21
    have e68 := (Reg.gfr_eval (ops := (Reg.opsOf Try.f4 11)) (a0 := a0) (v := v) (L := [4, 21, 1]) 68 1 (by kernel_rfl) (by rw [hsz]; omega)).trans d1
    refine ⟨Reg.wanted_of rfl (by kernel_rfl) e68, ?_⟩
    generalize hρ : (Reg.gfr (Reg.opsOf Try.f4 11) a0 v [4, 21, 1]).eval = ρ at e71 e88
    have hρ' : (Reg.gfr (Reg.opsOf Try.f4 11) a0 v [4, 21, 1]).eval = ρ := hρ
    exact Reg.go_run _ W (by rw [hρ']; simp [execOp, go_sem, e71, e88]) ⟨Below.refl _ _, rfl⟩
  have h23 : Reg.OpOK Try.prog (Reg.opsOf Try.f4 11) a0 w0 (laidR Ao Aa Ab Ac na ca nb cb nc cc n k co y0 ya yb yc yk yab) (fun _ _ _ _ => True) 23 := by
    refine Reg.op_ok (o := { dst := some 90, op := Op.pick (Operand.tmp 68) (Operand.tmp 89) (Operand.const (Value.bool false)), type := 4, pos := "outright.go:107", after := #[{ on := 1, ground := Ground.data }, { on := 22, ground := Ground.data }], guard := none }) (by kernel_rfl) [1, 22] (by kernel_rfl) fun v W hb hd => ?_
    have d1 : v 1 = (Value.bool true) := hd 1 (by decide)
    have d22 : v 22 = (Value.bool true) := hd 22 (by decide)
    have e68 := (Reg.gfr_eval (ops := (Reg.opsOf Try.f4 11)) (a0 := a0) (v := v) (L := [1, 22]) 68 1 (by kernel_rfl) (by rw [hsz]; omega)).trans d1
    have e89 := (Reg.gfr_eval (ops := (Reg.opsOf Try.f4 11)) (a0 := a0) (v := v) (L := [1, 22]) 89 22 (by kernel_rfl) (by rw [hsz]; omega)).trans d22
    refine ⟨Reg.wanted_none rfl, ?_⟩
    have eC : ∀ x, (Reg.gfr (Reg.opsOf Try.f4 11) a0 v [1, 22]).eval (.const x) = x := fun _ => rfl
    generalize hρ : (Reg.gfr (Reg.opsOf Try.f4 11) a0 v [1, 22]).eval = ρ at e68 e89 eC
    have hρ' : (Reg.gfr (Reg.opsOf Try.f4 11) a0 v [1, 22]).eval = ρ := hρ
    exact Reg.go_run _ W (by rw [hρ']; simp [execOp, go_sem, e68, e89, eC]) ⟨Below.refl _ _, rfl⟩
  have h24 : Reg.OpOK Try.prog (Reg.opsOf Try.f4 11) a0 w0 (laidR Ao Aa Ab Ac na ca nb cb nc cc n k co y0 ya yb yc yk yab) (fun _ _ _ _ => True) 24 := by
    refine Reg.op_ok (o := { dst := some 91, op := Op.move (Operand.tmp 90), type := 4, pos := "outright.go:107", after := #[{ on := 23, ground := Ground.data }, { on := 20, ground := Ground.chain }], guard := none }) (by kernel_rfl) [23, 20] (by kernel_rfl) fun v W hb hd => ?_
    have d23 : v 23 = (Value.bool true) := hd 23 (by decide)
    have e90 := (Reg.gfr_eval (ops := (Reg.opsOf Try.f4 11)) (a0 := a0) (v := v) (L := [23, 20]) 90 23 (by kernel_rfl) (by rw [hsz]; omega)).trans d23
    refine ⟨Reg.wanted_none rfl, ?_⟩
    generalize hρ : (Reg.gfr (Reg.opsOf Try.f4 11) a0 v [23, 20]).eval = ρ at e90
    have hρ' : (Reg.gfr (Reg.opsOf Try.f4 11) a0 v [23, 20]).eval = ρ := hρ
    exact Reg.go_run _ W (by rw [hρ']; simp [execOp, go_sem, e90]) ⟨Below.refl _ _, rfl⟩
  have h25 : Reg.OpOK Try.prog (Reg.opsOf Try.f4 11) a0 w0 (laidR Ao Aa Ab Ac na ca nb cb nc cc n k co y0 ya yb yc yk yab) (fun _ _ _ _ => True) 25 := by
    refine Reg.op_ok (o := { dst := some 92, op := Op.move (Operand.tmp 0), type := 22, pos := "outright.go:107", after := #[{ on := 24, ground := Ground.guard }], guard := some (24, true) }) (by kernel_rfl) [24] (by kernel_rfl) fun v W hb hd => ?_
    have d24 : v 24 = (Value.bool true) := hd 24 (by decide)
    have e0 := (Reg.gfr_eval0 (ops := (Reg.opsOf Try.f4 11)) (a0 := a0) (v := v) (L := [24]) 0 (by kernel_rfl)).trans i0
    have e91 := (Reg.gfr_eval (ops := (Reg.opsOf Try.f4 11)) (a0 := a0) (v := v) (L := [24]) 91 24 (by kernel_rfl) (by rw [hsz]; omega)).trans d24
    refine ⟨Reg.wanted_of rfl (by kernel_rfl) e91, ?_⟩
    generalize hρ : (Reg.gfr (Reg.opsOf Try.f4 11) a0 v [24]).eval = ρ at e0
    have hρ' : (Reg.gfr (Reg.opsOf Try.f4 11) a0 v [24]).eval = ρ := hρ
    exact Reg.go_run _ W (by rw [hρ']; simp [execOp, go_sem, e0]) ⟨Below.refl _ _, rfl⟩
  have h26 : Reg.OpOK Try.prog (Reg.opsOf Try.f4 11) a0 w0 (laidR Ao Aa Ab Ac na ca nb cb nc cc n k co y0 ya yb yc yk yab) (fun _ _ _ _ => True) 26 := by
    refine Reg.op_ok (o := { dst := some 93, op := Op.move (Operand.tmp 13), type := 3, pos := "outright.go:107", after := #[{ on := 24, ground := Ground.guard }], guard := some (24, true) }) (by kernel_rfl) [24] (by kernel_rfl) fun v W hb hd => ?_
    have d24 : v 24 = (Value.bool true) := hd 24 (by decide)
    have e13 := (Reg.gfr_eval0 (ops := (Reg.opsOf Try.f4 11)) (a0 := a0) (v := v) (L := [24]) 13 (by kernel_rfl)).trans i13
    have e91 := (Reg.gfr_eval (ops := (Reg.opsOf Try.f4 11)) (a0 := a0) (v := v) (L := [24]) 91 24 (by kernel_rfl) (by rw [hsz]; omega)).trans d24
    refine ⟨Reg.wanted_of rfl (by kernel_rfl) e91, ?_⟩
    generalize hρ : (Reg.gfr (Reg.opsOf Try.f4 11) a0 v [24]).eval = ρ at e13
    have hρ' : (Reg.gfr (Reg.opsOf Try.f4 11) a0 v [24]).eval = ρ := hρ
    exact Reg.go_run _ W (by rw [hρ']; simp [execOp, go_sem, e13]) ⟨Below.refl _ _, rfl⟩
  have h27 : Reg.OpOK Try.prog (Reg.opsOf Try.f4 11) a0 w0 (laidR Ao Aa Ab Ac na ca nb cb nc cc n k co y0 ya yb yc yk yab) (fun _ _ _ _ => True) 27 := by
    refine Reg.op_ok (o := { dst := some 94, op := Op.slice 22 (Operand.tmp 92) none (some (Operand.tmp 93)) none, type := 22, pos := "outright.go:107", after := #[{ on := 25, ground := Ground.data }, { on := 26, ground := Ground.data }, { on := 24, ground := Ground.guard }], guard := some (24, true) }) (by kernel_rfl) [25, 26, 24] (by kernel_rfl) fun v W hb hd => ?_
    have d24 : v 24 = (Value.bool true) := hd 24 (by decide)
    have d25 : v 25 = (Value.slice Aa na ca) := hd 25 (by decide)
    have d26 : v 26 = (Value.int IntKind.i64 (k : Int)) := hd 26 (by decide)
    have e92 := (Reg.gfr_eval (ops := (Reg.opsOf Try.f4 11)) (a0 := a0) (v := v) (L := [25, 26, 24]) 92 25 (by kernel_rfl) (by rw [hsz]; omega)).trans d25
    have e93 := (Reg.gfr_eval (ops := (Reg.opsOf Try.f4 11)) (a0 := a0) (v := v) (L := [25, 26, 24]) 93 26 (by kernel_rfl) (by rw [hsz]; omega)).trans d26
    have e91 := (Reg.gfr_eval (ops := (Reg.opsOf Try.f4 11)) (a0 := a0) (v := v) (L := [25, 26, 24]) 91 24 (by kernel_rfl) (by rw [hsz]; omega)).trans d24
    refine ⟨Reg.wanted_of rfl (by kernel_rfl) e91, ?_⟩
    generalize hρ : (Reg.gfr (Reg.opsOf Try.f4 11) a0 v [25, 26, 24]).eval = ρ at e92 e93
    have hρ' : (Reg.gfr (Reg.opsOf Try.f4 11) a0 v [25, 26, 24]).eval = ρ := hρ
    exact Reg.go_run _ W (by rw [hρ']; simp [execOp, go_sem, e92, e93, s4]) ⟨Below.refl _ _, rfl⟩
  have h28 : Reg.OpOK Try.prog (Reg.opsOf Try.f4 11) a0 w0 (laidR Ao Aa Ab Ac na ca nb cb nc cc n k co y0 ya yb yc yk yab) (fun _ _ _ _ => True) 28 := by
    refine Reg.op_ok (o := { dst := some 95, op := Op.buildSlice 34 1 #[(0, Operand.tmp 94)], type := 34, pos := "outright.go:107", after := #[{ on := 27, ground := Ground.data }, { on := 24, ground := Ground.guard }], guard := some (24, true) }) (by kernel_rfl) [27, 24] (by kernel_rfl) fun v W hb hd => ?_
    have d24 : v 24 = (Value.bool true) := hd 24 (by decide)
    have d27 : v 27 = (Value.slice Aa k ca) := hd 27 (by decide)
    have e94 := (Reg.gfr_eval (ops := (Reg.opsOf Try.f4 11)) (a0 := a0) (v := v) (L := [27, 24]) 94 27 (by kernel_rfl) (by rw [hsz]; omega)).trans d27
    have e91 := (Reg.gfr_eval (ops := (Reg.opsOf Try.f4 11)) (a0 := a0) (v := v) (L := [27, 24]) 91 24 (by kernel_rfl) (by rw [hsz]; omega)).trans d24
    refine ⟨Reg.wanted_of rfl (by kernel_rfl) e91, ?_⟩
    generalize hρ : (Reg.gfr (Reg.opsOf Try.f4 11) a0 v [27, 24]).eval = ρ at e94
    have hρ' : (Reg.gfr (Reg.opsOf Try.f4 11) a0 v [27, 24]).eval = ρ := hρ
    refine Reg.go_run _ (W.alloc (.cells #[(Value.slice Aa k ca)] 22)) (by rw [hρ']; simp [execOp, go_sem, e94]) ⟨(Below.refl _ W).alloc (Nat.le_refl _) _, _, rfl, heap_alloc_new _ _⟩
  have h29 : Reg.OpOK Try.prog (Reg.opsOf Try.f4 11) a0 w0 (laidR Ao Aa Ab Ac na ca nb cb nc cc n k co y0 ya yb yc yk yab) (fun _ _ _ _ => True) 29 := by
    refine Reg.op_ok (o := { dst := some 96, op := Op.call { callee := Callee.value (Operand.func 10), args := #[Operand.tmp 95], argTypes := #[34] }, type := 24, pos := "outright.go:107", after := #[{ on := 28, ground := Ground.data }, { on := 24, ground := Ground.chain }, { on := 24, ground := Ground.guard }], guard := some (24, true) }) (by kernel_rfl) [28, 24, 24] (by kernel_rfl) fun v W hb hd => ?_
    have d24 : v 24 = (Value.bool true) := hd 24 (by decide)
    have d28 : (Reg.IsRow 22 #[(Value.slice Aa k ca)] 1) (v 28) W := hd 28 (by decide)
    have e95 := Reg.gfr_eval (ops := (Reg.opsOf Try.f4 11)) (a0 := a0) (v := v) (L := [28, 24, 24]) 95 28 (by kernel_rfl) (by rw [hsz]; omega)
    have e91 := (Reg.gfr_eval (ops := (Reg.opsOf Try.f4 11)) (a0 := a0) (v := v) (L := [28, 24, 24]) 91 24 (by kernel_rfl) (by rw [hsz]; omega)).trans d24
    obtain ⟨g, hg1, hg2⟩ := d28
    rw [hg1] at e95
    refine ⟨Reg.wanted_of rfl (by kernel_rfl) e91, ?_⟩
    have eF : ∀ f, (Reg.gfr (Reg.opsOf Try.f4 11) a0 v [28, 24, 24]).eval (.func f) = .func (.func f) #[] #[] := fun _ => rfl
    generalize hρ : (Reg.gfr (Reg.opsOf Try.f4 11) a0 v [28, 24, 24]).eval = ρ at e95 eF
    have hρ' : (Reg.gfr (Reg.opsOf Try.f4 11) a0 v [28, 24, 24]).eval = ρ := hρ
    refine Reg.go_call 10 #[.slice (some ⟨g, 0, none⟩) 1 1] (by rw [hρ']; simp [execOp, go_sem, e95, eF]) ((qK W g hb hg2).mono fun e w' he => ?_)
    obtain ⟨rfl, rfl⟩ := he
    exact ⟨_, rfl, Below.refl _ _, rfl⟩
  have h30 : Reg.OpOK Try.prog (Reg.opsOf Try.f4 11) a0 w0 (laidR Ao Aa Ab Ac na ca nb cb nc cc n k co y0 ya yb yc yk yab) (fun _ _ _ _ => True) 30 := by
    refine Reg.op_ok (o := { dst := some 97, op := Op.move (Operand.tmp 0), type := 22, pos := "outright.go:107", after := #[{ on := 24, ground := Ground.guard }], guard := some (24, true) }) (by kernel_rfl) [24] (by kernel_rfl) fun v W hb hd => ?_
    have d24 : v 24 = (Value.bool true) := hd 24 (by decide)
    have e0 := (Reg.gfr_eval0 (ops := (Reg.opsOf Try.f4 11)) (a0 := a0) (v := v) (L := [24]) 0 (by kernel_rfl)).trans i0
    have e91 := (Reg.gfr_eval (ops := (Reg.opsOf Try.f4 11)) (a0 := a0) (v := v) (L := [24]) 91 24 (by kernel_rfl) (by rw [hsz]; omega)).trans d24
    refine ⟨Reg.wanted_of rfl (by kernel_rfl) e91, ?_⟩
    generalize hρ : (Reg.gfr (Reg.opsOf Try.f4 11) a0 v [24]).eval = ρ at e0
    have hρ' : (Reg.gfr (Reg.opsOf Try.f4 11) a0 v [24]).eval = ρ := hρ
    exact Reg.go_run _ W (by rw [hρ']; simp [execOp, go_sem, e0]) ⟨Below.refl _ _, rfl⟩
  have h31 : Reg.OpOK Try.prog (Reg.opsOf Try.f4 11) a0 w0 (laidR Ao Aa Ab Ac na ca nb cb nc cc n k co y0 ya yb yc yk yab) (fun _ _ _ _ => True) 31 := by
    refine Reg.op_ok (o := { dst := some 98, op := Op.move (Operand.tmp 13), type := 3, pos := "outright.go:107", after := #[{ on := 24, ground := Ground.guard }], guard := some (24, true) }) (by kernel_rfl) [24] (by kernel_rfl) fun v W hb hd => ?_
    have d24 : v 24 = (Value.bool true) := hd 24 (by decide)
    have e13 := (Reg.gfr_eval0 (ops := (Reg.opsOf Try.f4 11)) (a0 := a0) (v := v) (L := [24]) 13 (by kernel_rfl)).trans i13
    have e91 := (Reg.gfr_eval (ops := (Reg.opsOf Try.f4 11)) (a0 := a0) (v := v) (L := [24]) 91 24 (by kernel_rfl) (by rw [hsz]; omega)).trans d24
    refine ⟨Reg.wanted_of rfl (by kernel_rfl) e91, ?_⟩
    generalize hρ : (Reg.gfr (Reg.opsOf Try.f4 11) a0 v [24]).eval = ρ at e13
    have hρ' : (Reg.gfr (Reg.opsOf Try.f4 11) a0 v [24]).eval = ρ := hρ
    exact Reg.go_run _ W (by rw [hρ']; simp [execOp, go_sem, e13]) ⟨Below.refl _ _, rfl⟩
  have h32 : Reg.OpOK Try.prog (Reg.opsOf Try.f4 11) a0 w0 (laidR Ao Aa Ab Ac na ca nb cb nc cc n k co y0 ya yb yc yk yab) (fun _ _ _ _ => True) 32 := by
    refine Reg.op_ok (o := { dst := some 99, op := Op.move (Operand.tmp 10), type := 3, pos := "outright.go:107", after := #[{ on := 24, ground := Ground.guard }], guard := some (24, true) }) (by kernel_rfl) [24] (by kernel_rfl) fun v W hb hd => ?_
    have d24 : v 24 = (Value.bool true) := hd 24 (by decide)
    have e10 := (Reg.gfr_eval0 (ops := (Reg.opsOf Try.f4 11)) (a0 := a0) (v := v) (L := [24]) 10 (by kernel_rfl)).trans i10
    have e91 := (Reg.gfr_eval (ops := (Reg.opsOf Try.f4 11)) (a0 := a0) (v := v) (L := [24]) 91 24 (by kernel_rfl) (by rw [hsz]; omega)).trans d24
    refine ⟨Reg.wanted_of rfl (by kernel_rfl) e91, ?_⟩
    generalize hρ : (Reg.gfr (Reg.opsOf Try.f4 11) a0 v [24]).eval = ρ at e10
    have hρ' : (Reg.gfr (Reg.opsOf Try.f4 11) a0 v [24]).eval = ρ := hρ
    exact Reg.go_run _ W (by rw [hρ']; simp [execOp, go_sem, e10]) ⟨Below.refl _ _, rfl⟩
  have h33 : Reg.OpOK Try.prog (Reg.opsOf Try.f4 11) a0 w0 (laidR Ao Aa Ab Ac na ca nb cb nc cc n k co y0 ya yb yc yk yab) (fun _ _ _ _ => True) 33 := by
    refine Reg.op_ok (o := { dst := some 100, op := Op.slice 22 (Operand.tmp 97) (some (Operand.tmp 98)) (some (Operand.tmp 99)) none, type := 22, pos := "outright.go:107", after := #[{ on := 30, ground := Ground.data }, { on := 31, ground := Ground.data }, { on := 32, ground := Ground.data }, { on := 24, ground := Ground.guard }], guard := some (24, true) }) (by kernel_rfl) [30, 31, 32, 24] (by kernel_rfl) fun v W hb hd => ?_
    have d24 : v 24 = (Value.bool true) := hd 24 (by decide)
    have d30 : v 30 = (Value.slice Aa na ca) := hd 30 (by decide)
    have d31 : v 31 = (Value.int IntKind.i64 (k : Int)) := hd 31 (by decide)
    have d32 : v 32 = (Value.int IntKind.i64 (n : Int)) := hd 32 (by decide)
    have e97 := (Reg.gfr_eval (ops := (Reg.opsOf Try.f4 11)) (a0 := a0) (v := v) (L := [30, 31, 32, 24]) 97 30 (by kernel_rfl) (by rw [hsz]; omega)).trans d30
    have e98 := (Reg.gfr_eval (ops := (Reg.opsOf Try.f4 11)) (a0 := a0) (v := v) (L := [30, 31, 32, 24]) 98 31 (by kernel_rfl) (by rw [hsz]; omega)).trans d31
    have e99 := (Reg.gfr_eval (ops := (Reg.opsOf Try.f4 11)) (a0 := a0) (v := v) (L := [30, 31, 32, 24]) 99 32 (by kernel_rfl) (by rw [hsz]; omega)).trans d32
    have e91 := (Reg.gfr_eval (ops := (Reg.opsOf Try.f4 11)) (a0 := a0) (v := v) (L := [30, 31, 32, 24]) 91 24 (by kernel_rfl) (by rw [hsz]; omega)).trans d24
    refine ⟨Reg.wanted_of rfl (by kernel_rfl) e91, ?_⟩
    generalize hρ : (Reg.gfr (Reg.opsOf Try.f4 11) a0 v [30, 31, 32, 24]).eval = ρ at e97 e98 e99
    have hρ' : (Reg.gfr (Reg.opsOf Try.f4 11) a0 v [30, 31, 32, 24]).eval = ρ := hρ
    exact Reg.go_run _ W (by rw [hρ']; simp [execOp, go_sem, e97, e98, e99, s5]) ⟨Below.refl _ _, rfl⟩
  have h34 : Reg.OpOK Try.prog (Reg.opsOf Try.f4 11) a0 w0 (laidR Ao Aa Ab Ac na ca nb cb nc cc n k co y0 ya yb yc yk yab) (fun _ _ _ _ => True) 34 := by
    refine Reg.op_ok (o := { dst := some 101, op := Op.call { callee := Callee.value (Operand.func 11), args := #[Operand.tmp 96, Operand.tmp 100], argTypes := #[24, 22] }, type := 24, pos := "outright.go:107", after := #[{ on := 29, ground := Ground.data }, { on := 33, ground := Ground.data }, { on := 29, ground := Ground.chain }, { on := 24, ground := Ground.guard }], guard := some (24, true) }) (by kernel_rfl) [29, 33, 29, 24] (by kernel_rfl) fun v W hb hd => ?_
    have d24 : v 24 = (Value.bool true) := hd 24 (by decide)
    have d29 : v 29 = (Value.int IntKind.u32 (yk : Int)) := hd 29 (by decide)
    have d33 : v 33 = (Value.slice (subA Aa ca k 1) (n - k) (ca - k)) := hd 33 (by decide)
    have e96 := (Reg.gfr_eval (ops := (Reg.opsOf Try.f4 11)) (a0 := a0) (v := v) (L := [29, 33, 29, 24]) 96 29 (by kernel_rfl) (by rw [hsz]; omega)).trans d29
    have e100 := (Reg.gfr_eval (ops := (Reg.opsOf Try.f4 11)) (a0 := a0) (v := v) (L := [29, 33, 29, 24]) 100 33 (by kernel_rfl) (by rw [hsz]; omega)).trans d33
    have e91 := (Reg.gfr_eval (ops := (Reg.opsOf Try.f4 11)) (a0 := a0) (v := v) (L := [29, 33, 29, 24]) 91 24 (by kernel_rfl) (by rw [hsz]; omega)).trans d24
    refine ⟨Reg.wanted_of rfl (by kernel_rfl) e91, ?_⟩
    have eF : ∀ f, (Reg.gfr (Reg.opsOf Try.f4 11) a0 v [29, 33, 29, 24]).eval (.func f) = .func (.func f) #[] #[] := fun _ => rfl
    generalize hρ : (Reg.gfr (Reg.opsOf Try.f4 11) a0 v [29, 33, 29, 24]).eval = ρ at e96 e100 eF
    have hρ' : (Reg.gfr (Reg.opsOf Try.f4 11) a0 v [29, 33, 29, 24]).eval = ρ := hρ
    refine Reg.go_call 11 #[.int .u32 yk, (Value.slice (subA Aa ca k 1) (n - k) (ca - k))] (by rw [hρ']; simp [execOp, go_sem, e96, e100, eF]) ((qL W hb).mono fun e w' he => ?_)
    obtain ⟨rfl, rfl⟩ := he
    exact ⟨_, rfl, Below.refl _ _, rfl⟩
  have h35 : Reg.OpOK Try.prog (Reg.opsOf Try.f4 11) a0 w0 (laidR Ao Aa Ab Ac na ca nb cb nc cc n k co y0 ya yb yc yk yab) (fun _ _ _ _ => True) 35 := by
    refine Reg.op_ok (o := { dst := some 102, op := Op.move (Operand.tmp 0), type := 22, pos := "outright.go:107", after := #[{ on := 24, ground := Ground.guard }], guard := some (24, true) }) (by kernel_rfl) [24] (by kernel_rfl) fun v W hb hd => ?_
    have d24 : v 24 = (Value.bool true) := hd 24 (by decide)
    have e0 := (Reg.gfr_eval0 (ops := (Reg.opsOf Try.f4 11)) (a0 := a0) (v := v) (L := [24]) 0 (by kernel_rfl)).trans i0
    have e91 := (Reg.gfr_eval (ops := (Reg.opsOf Try.f4 11)) (a0 := a0) (v := v) (L := [24]) 91 24 (by kernel_rfl) (by rw [hsz]; omega)).trans d24
    refine ⟨Reg.wanted_of rfl (by kernel_rfl) e91, ?_⟩
    generalize hρ : (Reg.gfr (Reg.opsOf Try.f4 11) a0 v [24]).eval = ρ at e0
    have hρ' : (Reg.gfr (Reg.opsOf Try.f4 11) a0 v [24]).eval = ρ := hρ
    exact Reg.go_run _ W (by rw [hρ']; simp [execOp, go_sem, e0]) ⟨Below.refl _ _, rfl⟩
  have h36 : Reg.OpOK Try.prog (Reg.opsOf Try.f4 11) a0 w0 (laidR Ao Aa Ab Ac na ca nb cb nc cc n k co y0 ya yb yc yk yab) (fun _ _ _ _ => True) 36 := by
    refine Reg.op_ok (o := { dst := some 103, op := Op.move (Operand.tmp 10), type := 3, pos := "outright.go:107", after := #[{ on := 24, ground := Ground.guard }], guard := some (24, true) }) (by kernel_rfl) [24] (by kernel_rfl) fun v W hb hd => ?_
    have d24 : v 24 = (Value.bool true) := hd 24 (by decide)
    have e10 := (Reg.gfr_eval0 (ops := (Reg.opsOf Try.f4 11)) (a0 := a0) (v := v) (L := [24]) 10 (by kernel_rfl)).trans i10
    have e91 := (Reg.gfr_eval (ops := (Reg.opsOf Try.f4 11)) (a0 := a0) (v := v) (L := [24]) 91 24 (by kernel_rfl) (by rw [hsz]; omega)).trans d24
    refine ⟨Reg.wanted_of rfl (by kernel_rfl) e91, ?_⟩
    generalize hρ : (Reg.gfr (Reg.opsOf Try.f4 11) a0 v [24]).eval = ρ at e10
    have hρ' : (Reg.gfr (Reg.opsOf Try.f4 11) a0 v [24]).eval = ρ := hρ
    exact Reg.go_run _ W (by rw [hρ']; simp [execOp, go_sem, e10]) ⟨Below.refl _ _, rfl⟩
  have h37 : Reg.OpOK Try.prog (Reg.opsOf Try.f4 11) a0 w0 (laidR Ao Aa Ab Ac na ca nb cb nc cc n k co y0 ya yb yc yk yab) (fun _ _ _ _ => True) 37 := by
    refine Reg.op_ok (o := { dst := some 104, op := Op.slice 22 (Operand.tmp 102) none (some (Operand.tmp 103)) none, type := 22, pos := "outright.go:107", after := #[{ on := 35, ground := Ground.data }, { on := 36, ground := Ground.data }, { on := 24, ground := Ground.guard }], guard := some (24, true) }) (by kernel_rfl) [35, 36, 24] (by kernel_rfl) fun v W hb hd => ?_
    have d24 : v 24 = (Value.bool true) := hd 24 (by decide)
    have d35 : v 35 = (Value.slice Aa na ca) := hd 35 (by decide)
    have d36 : v 36 = (Value.int IntKind.i64 (n : Int)) := hd 36 (by decide)
    have e102 := (Reg.gfr_eval (ops := (Reg.opsOf Try.f4 11)) (a0 := a0) (v := v) (L := [35, 36, 24]) 102 35 (by kernel_rfl) (by rw [hsz]; omega)).trans d35
    have e103 := (Reg.gfr_eval (ops := (Reg.opsOf Try.f4 11)) (a0 := a0) (v := v) (L := [35, 36, 24]) 103 36 (by kernel_rfl) (by rw [hsz]; omega)).trans d36
    have e91 := (Reg.gfr_eval (ops := (Reg.opsOf Try.f4 11)) (a0 := a0) (v := v) (L := [35, 36, 24]) 91 24 (by kernel_rfl) (by rw [hsz]; omega)).trans d24
    refine ⟨Reg.wanted_of rfl (by kernel_rfl) e91, ?_⟩
    generalize hρ : (Reg.gfr (Reg.opsOf Try.f4 11) a0 v [35, 36, 24]).eval = ρ at e102 e103
    have hρ' : (Reg.gfr (Reg.opsOf Try.f4 11) a0 v [35, 36, 24]).eval = ρ := hρ
    exact Reg.go_run _ W (by rw [hρ']; simp [execOp, go_sem, e102, e103, s1]) ⟨Below.refl _ _, rfl⟩
  have h38 : Reg.OpOK Try.prog (Reg.opsOf Try.f4 11) a0 w0 (laidR Ao Aa Ab Ac na ca nb cb nc cc n k co y0 ya yb yc yk yab) (fun _ _ _ _ => True) 38 := by
    refine Reg.op_ok (o := { dst := some 105, op := Op.buildSlice 34 1 #[(0, Operand.tmp 104)], type := 34, pos := "outright.go:107", after := #[{ on := 37, ground := Ground.data }, { on := 24, ground := Ground.guard }], guard := some (24, true) }) (by kernel_rfl) [37, 24] (by kernel_rfl) fun v W hb hd => ?_
    have d24 : v 24 = (Value.bool true) := hd 24 (by decide)
    have d37 : v 37 = (Value.slice Aa n ca) := hd 37 (by decide)
    have e104 := (Reg.gfr_eval (ops := (Reg.opsOf Try.f4 11)) (a0 := a0) (v := v) (L := [37, 24]) 104 37 (by kernel_rfl) (by rw [hsz]; omega)).trans d37
    have e91 := (Reg.gfr_eval (ops := (Reg.opsOf Try.f4 11)) (a0 := a0) (v := v) (L := [37, 24]) 91 24 (by kernel_rfl) (by rw [hsz]; omega)).trans d24
    refine ⟨Reg.wanted_of rfl (by kernel_rfl) e91, ?_⟩
    generalize hρ : (Reg.gfr (Reg.opsOf Try.f4 11) a0 v [37, 24]).eval = ρ at e104
    have hρ' : (Reg.gfr (Reg.opsOf Try.f4 11) a0 v [37, 24]).eval = ρ := hρ
    refine Reg.go_run _ (W.alloc (.cells #[(Value.slice Aa n ca)] 22)) (by rw [hρ']; simp [execOp, go_sem, e104]) ⟨(Below.refl _ W).alloc (Nat.le_refl _) _, _, rfl, heap_alloc_new _ _⟩
  have h39 : Reg.OpOK Try.prog (Reg.opsOf Try.f4 11) a0 w0 (laidR Ao Aa Ab Ac na ca nb cb nc cc n k co y0 ya yb yc yk yab) (fun _ _ _ _ => True) 39 := by
    refine Reg.op_ok (o := { dst := some 106, op := Op.call { callee := Callee.value (Operand.func 10), args := #[Operand.tmp 105], argTypes := #[34] }, type := 24, pos := "outright.go:107", after := #[{ on := 38, ground := Ground.data }, { on := 34, ground := Ground.chain }, { on := 24, ground := Ground.guard }], guard := some (24, true) }) (by kernel_rfl) [38, 34, 24] (by kernel_rfl) fun v W hb hd => ?_
    have d24 : v 24 = (Value.bool true) := hd 24 (by decide)
    have d38 : (Reg.IsRow 22 #[(Value.slice Aa n ca)] 1) (v 38) W := hd 38 (by decide)
    have e105 := Reg.gfr_eval (ops := (Reg.opsOf Try.f4 11)) (a0 := a0) (v := v) (L := [38, 34, 24]) 105 38 (by kernel_rfl) (by rw [hsz]; omega)
    have e91 := (Reg.gfr_eval (ops := (Reg.opsOf Try.f4 11)) (a0 := a0) (v := v) (L := [38, 34, 24]) 91 24 (by kernel_rfl) (by rw [hsz]; omega)).trans d24
    obtain ⟨g, hg1, hg2⟩ := d38
    rw [hg1] at e105
    refine ⟨Reg.wanted_of rfl (by kernel_rfl) e91, ?_⟩
    have eF : ∀ f, (Reg.gfr (Reg.opsOf Try.f4 11) a0 v [38, 34, 24]).eval (.func f) = .func (.func f) #[] #[] := fun _ => rfl
    generalize hρ : (Reg.gfr (Reg.opsOf Try.f4 11) a0 v [38, 34, 24]).eval = ρ at e105 eF
    have hρ' : (Reg.gfr (Reg.opsOf Try.f4 11) a0 v [38, 34, 24]).eval = ρ := hρ
    refine Reg.go_call 10 #[.slice (some ⟨g, 0, none⟩) 1 1] (by rw [hρ']; simp [execOp, go_sem, e105, eF]) ((qA W g hb hg2).mono fun e w' he => ?_)
    obtain ⟨rfl, rfl⟩ := he
    exact ⟨_, rfl, Below.refl _ _, rfl⟩
  have h40 : Reg.OpOK Try.prog (Reg.opsOf Try.f4 11) a0 w0 (laidR Ao Aa Ab Ac na ca nb cb nc cc n k co y0 ya yb yc yk yab) (fun _ _ _ _ => True) 40 := by
    refine Reg.op_ok (o := { dst := some 107, op := Op.binOp BinOp.eql 24 (Operand.tmp 101) (Operand.tmp 106) 24, type := 4, pos := "outright.go:107", after := #[{ on := 34, ground := Ground.data }, { on := 39, ground := Ground.data }, { on := 24, ground := Ground.guard }], guard := some (24, true) }) (by kernel_rfl) [34, 39, 24] (by kernel_rfl) fun v W hb hd => ?_
    have d24 : v 24 = (Value.bool true) := hd 24 (by decide)
    have d34 : v 34 = (Value.int IntKind.u32 (ya : Int)) := hd 34 (by decide)
    have d39 : v 39 = (Value.int IntKind.u32 (ya : Int)) := hd 39 (by decide)
    have e101 := (Reg.gfr_eval (ops := (Reg.opsOf Try.f4 11)) (a0 := a0) (v := v) (L := [34, 39, 24]) 101 34 (by kernel_rfl) (by rw [hsz]; omega)).trans d34
    have e106 := (Reg.gfr_eval (ops := (Reg.opsOf Try.f4 11)) (a0 := a0) (v := v) (L := [34, 39, 24]) 106 39 (by kernel_rfl) (by rw [hsz]; omega)).trans d39
    have e91 := (Reg.gfr_eval (ops := (Reg.opsOf Try.f4 11)) (a0 := a0) (v := v) (L := [34, 39, 24]) 91 24 (by kernel_rfl) (by rw [hsz]; omega)).trans d24
    refine ⟨Reg.wanted_of rfl (by kernel_rfl) e91, ?_⟩
    generalize hρ : (Reg.gfr (Reg.opsOf Try.f4 11) a0 v [34, 39, 24]).eval = ρ at e101 e106
    have hρ' : (Reg.gfr (Reg.opsOf Try.f4 11) a0 v [34, 39, 24]).eval = ρ := hρ
    exact Reg.go_run _ W (by rw [hρ']; simp [execOp, go_sem, e101, e106]) ⟨Below.refl _ _, rfl⟩
  have h41 : Reg.OpOK Try.prog (Reg.opsOf Try.f4 11) a0 w0 (laidR Ao Aa Ab Ac na ca nb cb nc cc n k co y0 ya yb yc yk yab) (fun _ _ _ _ => True) 41 := by
    refine Reg.op_ok (o := { dst := some 108, op := Op.pick (Operand.tmp 91) (Operand.tmp 107) (Operand.const (Value.bool false)), type := 4, pos := "outright.go:107", after := #[{ on := 24, ground := Ground.data }, { on := 40, ground := Ground.data }], guard := none }) (by kernel_rfl) [24, 40] (by kernel_rfl) fun v W hb hd => ?_
    have d24 : v 24 = (Value.bool true) := hd 24 (by decide)
    have d40 : v 40 = (Value.bool true) := hd 40 (by decide)
    have e91 := (Reg.gfr_eval (ops := (Reg.opsOf Try.f4 11)) (a0 := a0) (v := v) (L := [24, 40]) 91 24 (by kernel_rfl) (by rw [hsz]; omega)).trans d24
    have e107 := (Reg.gfr_eval (ops := (Reg.opsOf Try.f4 11)) (a0 := a0) (v := v) (L := [24, 40]) 107 40 (by kernel_rfl) (by rw [hsz]; omega)).trans d40
    refine ⟨Reg.wanted_none rfl, ?_⟩
    have eC : ∀ x, (Reg.gfr (Reg.opsOf Try.f4 11) a0 v [24, 40]).eval (.const x) = x := fun _ => rfl
    generalize hρ : (Reg.gfr (Reg.opsOf Try.f4 11) a0 v [24, 40]).eval = ρ at e91 e107 eC
    have hρ' : (Reg.gfr (Reg.opsOf Try.f4 11) a0 v [24, 40]).eval = ρ := hρ
    exact Reg.go_run _ W (by rw [hρ']; simp [execOp, go_sem, e91, e107, eC]) ⟨Below.refl _ _, rfl⟩
  have h42 : Reg.OpOK Try.prog (Reg.opsOf Try.f4 11) a0 w0 (laidR Ao Aa Ab Ac na ca nb cb nc cc n k co y0 ya yb yc yk yab) (fun _ _ _ _ => True) 42 := by
    refine Reg.op_ok (o := { dst := some 109, op := Op.move (Operand.tmp 108), type := 4, pos := "outright.go:107", after := #[{ on := 41, ground := Ground.data }, { on := 39, ground := Ground.chain }], guard := none }) (by kernel_rfl) [41, 39] (by kernel_rfl) fun v W hb hd => ?_
    have d41 : v 41 = (Value.bool true) := hd 41 (by decide)
    have e108 := (Reg.gfr_eval (ops := (Reg.opsOf Try.f4 11)) (a0 := a0) (v := v) (L := [41, 39]) 108 41 (by kernel_rfl) (by rw [hsz]; omega)).trans d41
    refine ⟨Reg.wanted_none rfl, ?_⟩
    generalize hρ : (Reg.gfr (Reg.opsOf Try.f4 11) a0 v [41, 39]).eval = ρ at e108
    have hρ' : (Reg.gfr (Reg.opsOf Try.f4 11) a0 v [41, 39]).eval = ρ := hρ
    exact Reg.go_run _ W (by rw [hρ']; simp [execOp, go_sem, e108]) ⟨Below.refl _ _, rfl⟩
  have h43 : Reg.OpOK Try.prog (Reg.opsOf Try.f4 11) a0 w0 (laidR Ao Aa Ab Ac na ca nb cb nc cc n k co y0 ya yb yc yk yab) (fun _ _ _ _ => True) 43 := by
    refine Reg.op_ok (o := { dst := some 110, op := Op.move (Operand.tmp 11), type := 22, pos := "outright.go:107", after := #[{ on := 42, ground := Ground.guard }], guard := some (42, true) }) (by kernel_rfl) [42] (by kernel_rfl) fun v W hb hd => ?_
    have d42 : v 42 = (Value.bool true) := hd 42 (by decide)
    have e11 := (Reg.gfr_eval0 (ops := (Reg.opsOf Try.f4 11)) (a0 := a0) (v := v) (L := [42]) 11 (by kernel_rfl)).trans i11
    have e109 := (Reg.gfr_eval (ops := (Reg.opsOf Try.f4 11)) (a0 := a0) (v := v) (L := [42]) 109 42 (by kernel_rfl) (by rw [hsz]; omega)).trans d42
    refine ⟨Reg.wanted_of rfl (by kernel_rfl) e109, ?_⟩
    generalize hρ : (Reg.gfr (Reg.opsOf Try.f4 11) a0 v [42]).eval = ρ at e11
    have hρ' : (Reg.gfr (Reg.opsOf Try.f4 11) a0 v [42]).eval = ρ := hρ
    exact Reg.go_run _ W (by rw [hρ']; simp [execOp, go_sem, e11]) ⟨Below.refl _ _, rfl⟩
  have h44 : Reg.OpOK Try.prog (Reg.opsOf Try.f4 11) a0 w0 (laidR Ao Aa Ab Ac na ca nb cb nc cc n k co y0 ya yb yc yk yab) (fun _ _ _ _ => True) 44 := by
    refine Reg.op_ok (o := { dst := some 111, op := Op.call { callee := Callee.value (Operand.func 9), args := #[Operand.tmp 110], argTypes := #[22] }, type := 24, pos := "outright.go:107", after := #[{ on := 43, ground := Ground.data }, { on := 42, ground := Ground.chain }, { on := 42, ground := Ground.guard }], guard := some (42, true) }) (by kernel_rfl) [43, 42, 42] (by kernel_rfl) fun v W hb hd => ?_
    have d42 : v 42 = (Value.bool true) := hd 42 (by decide)
    have d43 : v 43 = (Value.slice Ao n co) := hd 43 (by decide)
    have e110 := (Reg.gfr_eval (ops := (Reg.opsOf Try.f4 11)) (a0 := a0) (v := v) (L := [43, 42, 42]) 110 43 (by kernel_rfl) (by rw [hsz]; omega)).trans d43
    have e109 := (Reg.gfr_eval (ops := (Reg.opsOf Try.f4 11)) (a0 := a0) (v := v) (L := [43, 42, 42]) 109 42 (by kernel_rfl) (by rw [hsz]; omega)).trans d42
    refine ⟨Reg.wanted_of rfl (by kernel_rfl) e109, ?_⟩
    have eF : ∀ f, (Reg.gfr (Reg.opsOf Try.f4 11) a0 v [43, 42, 42]).eval (.func f) = .func (.func f) #[] #[] := fun _ => rfl
    generalize hρ : (Reg.gfr (Reg.opsOf Try.f4 11) a0 v [43, 42, 42]).eval = ρ at e110 eF
    have hρ' : (Reg.gfr (Reg.opsOf Try.f4 11) a0 v [43, 42, 42]).eval = ρ := hρ
    refine Reg.go_call 9 #[(Value.slice Ao n co)] (by rw [hρ']; simp [execOp, go_sem, e110, eF]) ((qR W hb).mono fun e w' he => ?_)
    obtain ⟨rfl, rfl⟩ := he
    exact ⟨_, rfl, Below.refl _ _, rfl⟩
  have h45 : Reg.OpOK Try.prog (Reg.opsOf Try.f4 11) a0 w0 (laidR Ao Aa Ab Ac na ca nb cb nc cc n k co y0 ya yb yc yk yab) (fun _ _ _ _ => True) 45 := by
    refine Reg.op_ok (o := { dst := some 112, op := Op.move (Operand.tmp 11), type := 22, pos := "outright.go:107", after := #[{ on := 42, ground := Ground.guard }], guard := some (42, true) }) (by kernel_rfl) [42] (by kernel_rfl) fun v W hb hd => ?_
    have d42 : v 42 = (Value.bool true) := hd 42 (by decide)
    have e11 := (Reg.gfr_eval0 (ops := (Reg.opsOf Try.f4 11)) (a0 := a0) (v := v) (L := [42]) 11 (by kernel_rfl)).trans i11
    have e109 := (Reg.gfr_eval (ops := (Reg.opsOf Try.f4 11)) (a0 := a0) (v := v) (L := [42]) 109 42 (by kernel_rfl) (by rw [hsz]; omega)).trans d42
    refine ⟨Reg.wanted_of rfl (by kernel_rfl) e109, ?_⟩
    generalize hρ : (Reg.gfr (Reg.opsOf Try.f4 11) a0 v [42]).eval = ρ at e11
    have hρ' : (Reg.gfr (Reg.opsOf Try.f4 11) a0 v [42]).eval = ρ := hρ
    exact Reg.go_run _ W (by rw [hρ']; simp [execOp, go_sem, e11]) ⟨Below.refl _ _, rfl⟩
  have h46 : Reg.OpOK Try.prog (Reg.opsOf Try.f4 11) a0 w0 (laidR Ao Aa Ab Ac na ca nb cb nc cc n k co y0 ya yb yc yk yab) (fun _ _ _ _ => True) 46 := by
    refine Reg.op_ok (o := { dst := some 113, op := Op.buildSlice 34 1 #[(0, Operand.tmp 112)], type := 34, pos := "outright.go:107", after := #[{ on := 45, ground := Ground.data }, { on := 42, ground := Ground.guard }], guard := some (42, true) }) (by kernel_rfl) [45, 42] (by kernel_rfl) fun v W hb hd => ?_
    have d42 : v 42 = (Value.bool true) := hd 42 (by decide)
    have d45 : v 45 = (Value.slice Ao n co) := hd 45 (by decide)
    have e112 := (Reg.gfr_eval (ops := (Reg.opsOf Try.f4 11)) (a0 := a0) (v := v) (L := [45, 42]) 112 45 (by kernel_rfl) (by rw [hsz]; omega)).trans d45
    have e109 := (Reg.gfr_eval (ops := (Reg.opsOf Try.f4 11)) (a0 := a0) (v := v) (L := [45, 42]) 109 42 (by kernel_rfl) (by rw [hsz]; omega)).trans d42
    refine ⟨Reg.wanted_of rfl (by kernel_rfl) e109, ?_⟩
    generalize hρ : (Reg.gfr (Reg.opsOf Try.f4 11) a0 v [45, 42]).eval = ρ at e112
    have hρ' : (Reg.gfr (Reg.opsOf Try.f4 11) a0 v [45, 42]).eval = ρ := hρ
    refine Reg.go_run _ (W.alloc (.cells #[(Value.slice Ao n co)] 22)) (by rw [hρ']; simp [execOp, go_sem, e112]) ⟨(Below.refl _ W).alloc (Nat.le_refl _) _, _, rfl, heap_alloc_new _ _⟩
  have h47 : Reg.OpOK Try.prog (Reg.opsOf Try.f4 11) a0 w0 (laidR Ao Aa Ab Ac na ca nb cb nc cc n k co y0 ya yb yc yk yab) (fun _ _ _ _ => True) 47 := by
    refine Reg.op_ok (o := { dst := some 114, op := Op.call { callee := Callee.value (Operand.func 10), args := #[Operand.tmp 113], argTypes := #[34] }, type := 24, pos := "outright.go:107", after := #[{ on := 46, ground := Ground.data }, { on := 44, ground := Ground.chain }, { on := 42, ground := Ground.guard }], guard := some (42, true) }) (by kernel_rfl) [46, 44, 42] (by kernel_rfl) fun v W hb hd => ?_
    have d42 : v 42 = (Value.bool true) := hd 42 (by decide)
    have d46 : (Reg.IsRow 22 #[(Value.slice Ao n co)] 1) (v 46) W := hd 46 (by decide)
    have e113 := Reg.gfr_eval (ops := (Reg.opsOf Try.f4 11)) (a0 := a0) (v := v) (L := [46, 44, 42]) 113 46 (by kernel_rfl) (by rw [hsz]; omega)
    have e109 := (Reg.gfr_eval (ops := (Reg.opsOf Try.f4 11)) (a0 := a0) (v := v) (L := [46, 44, 42]) 109 42 (by kernel_rfl) (by rw [hsz]; omega)).trans d42
    obtain ⟨g, hg1, hg2⟩ := d46
    rw [hg1] at e113
    refine ⟨Reg.wanted_of rfl (by kernel_rfl) e109, ?_⟩
    have eF : ∀ f, (Reg.gfr (Reg.opsOf Try.f4 11) a0 v [46, 44, 42]).eval (.func f) = .func (.func f) #[] #[] := fun _ => rfl
    generalize hρ : (Reg.gfr (Reg.opsOf Try.f4 11) a0 v [46, 44, 42]).eval = ρ at e113 eF
    have hρ' : (Reg.gfr (Reg.opsOf Try.f4 11) a0 v [46, 44, 42]).eval = ρ := hρ
    refine Reg.go_call 10 #[.slice (some ⟨g, 0, none⟩) 1 1] (by rw [hρ']; simp [execOp, go_sem, e113, eF]) ((qO W g hb hg2).mono fun e w' he => ?_)
    obtain ⟨rfl, rfl⟩ := he
    exact ⟨_, rfl, Below.refl _ _, rfl⟩
  have h48 : Reg.OpOK Try.prog (Reg.opsOf Try.f4 11) a0 w0 (laidR Ao Aa Ab Ac na ca nb cb nc cc n k co y0 ya yb yc yk yab) (fun _ _ _ _ => True) 48 := by
    refine Reg.op_ok (o := { dst := some 115, op := Op.binOp BinOp.eql 24 (Operand.tmp 111) (Operand.tmp 114) 24, type := 4, pos := "outright.go:107", after := #[{ on := 44, ground := Ground.data }, { on := 47, ground := Ground.data }, { on := 42, ground := Ground.guard }], guard := some (42, true) }) (by kernel_rfl) [44, 47, 42] (by kernel_rfl) fun v W hb hd => ?_
    have d42 : v 42 = (Value.bool true) := hd 42 (by decide)
    have d44 : v 44 = (Value.int IntKind.u32 (y0 : Int)) := hd 44 (by decide)
    have d47 : v 47 = (Value.int IntKind.u32 (y0 : Int)) := hd 47 (by decide)
    have e111 := (Reg.gfr_eval (ops := (Reg.opsOf Try.f4 11)) (a0 := a0) (v := v) (L := [44, 47, 42]) 111 44 (by kernel_rfl) (by rw [hsz]; omega)).trans d44
    have e114 := (Reg.gfr_eval (ops := (Reg.opsOf Try.f4 11)) (a0 := a0) (v := v) (L := [44, 47, 42]) 114 47 (by kernel_rfl) (by rw [hsz]; omega)).trans d47
    have e109 := (Reg.gfr_eval (ops := (Reg.opsOf Try.f4 11)) (a0 := a0) (v := v) (L := [44, 47, 42]) 109 42 (by kernel_rfl) (by rw [hsz]; omega)).trans d42
    refine ⟨Reg.wanted_of rfl (by kernel_rfl) e109, ?_⟩
    generalize hρ : (Reg.gfr (Reg.opsOf Try.f4 11) a0 v [44, 47, 42]).eval = ρ at e111 e114
    have hρ' : (Reg.gfr (Reg.opsOf Try.f4 11) a0 v [44, 47, 42]).eval = ρ := hρ
    exact Reg.go_run _ W (by rw [hρ']; simp [execOp, go_sem, e111, e114]) ⟨Below.refl _ _, rfl⟩
  have h49 : Reg.OpOK Try.prog (Reg.opsOf Try.f4 11) a0 w0 (laidR Ao Aa Ab Ac na ca nb cb nc cc n k co y0 ya yb yc yk yab) (fun _ _ _ _ => True) 49 := by
    refine Reg.op_ok (o := { dst := some 116, op := Op.pick (Operand.tmp 109) (Operand.tmp 115) (Operand.const (Value.bool false)), type := 4, pos := "outright.go:107", after := #[{ on := 42, ground := Ground.data }, { on := 48, ground := Ground.data }], guard := none }) (by kernel_rfl) [42, 48] (by kernel_rfl) fun v W hb hd => ?_
    have d42 : v 42 = (Value.bool true) := hd 42 (by decide)
    have d48 : v 48 = (Value.bool true) := hd 48 (by decide)
    have e109 := (Reg.gfr_eval (ops := (Reg.opsOf Try.f4 11)) (a0 := a0) (v := v) (L := [42, 48]) 109 42 (by kernel_rfl) (by rw [hsz]; omega)).trans d42
    have e115 := (Reg.gfr_eval (ops := (Reg.opsOf Try.f4 11)) (a0 := a0) (v := v) (L := [42, 48]) 115 48 (by kernel_rfl) (by rw [hsz]; omega)).trans d48
    refine ⟨Reg.wanted_none rfl, ?_⟩
    have eC : ∀ x, (Reg.gfr (Reg.opsOf Try.f4 11) a0 v [42, 48]).eval (.const x) = x := fun _ => rfl
    generalize hρ : (Reg.gfr (Reg.opsOf Try.f4 11) a0 v [42, 48]).eval = ρ at e109 e115 eC
    have hρ' : (Reg.gfr (Reg.opsOf Try.f4 11) a0 v [42, 48]).eval = ρ := hρ
    exact Reg.go_run _ W (by rw [hρ']; simp [execOp, go_sem, e109, e115, eC]) ⟨Below.refl _ _, rfl⟩
  have h50 : Reg.OpOK Try.prog (Reg.opsOf Try.f4 11) a0 w0 (laidR Ao Aa Ab Ac na ca nb cb nc cc n k co y0 ya yb yc yk yab) (fun _ _ _ _ => True) 50 := by
    refine Reg.op_ok (o := { dst := some 8, op := Op.assign (Operand.tmp 116), type := 4, pos := "outright.go:107", after := #[{ on := 49, ground := Ground.data }, { on := 47, ground := Ground.chain }, { on := 0, ground := Ground.phase }, { on := 1, ground := Ground.phase }, { on := 2, ground := Ground.phase }, { on := 3, ground := Ground.phase }, { on := 4, ground := Ground.phase }, { on := 5, ground := Ground.phase }, { on := 6, ground := Ground.phase }, { on := 7, ground := Ground.phase }, { on := 8, ground := Ground.phase }, { on := 9, ground := Ground.phase }, { on := 10, ground := Ground.phase }, { on := 11, ground := Ground.phase }, { on := 12, ground := Ground.phase }, { on := 13, ground := Ground.phase }, { on := 14, ground := Ground.phase }, { on := 15, ground := Ground.phase }, { on := 16, ground := Ground.phase }, { on := 17, ground := Ground.phase }, { on := 18, ground := Ground.phase }, { on := 19, ground := Ground.phase }, { on := 20, ground := Ground.phase }, { on := 21, ground := Ground.phase }, { on := 22, ground := Ground.phase }, { on := 23, ground := Ground.phase }, { on := 24, ground := Ground.phase }, { on := 25, ground := Ground.phase }, { on := 26, ground := Ground.phase }, { on := 27, ground := Ground.phase }, { on := 28, ground := Ground.phase }, { on := 29, ground := Ground.phase }, { on := 30, ground := Ground.phase }, { on := 31, ground := Ground.phase }, { on := 32, ground := Ground.phase }, { on := 33, ground := Ground.phase }, { on := 34, ground := Ground.phase }, { on := 35, ground := Ground.phase }, { on := 36, ground := Ground.phase }, { on := 37, ground := Ground.phase }, { on := 38, ground := Ground.phase }, { on := 39, ground := Ground.phase }, { on := 40, ground := Ground.phase }, { on := 41, ground := Ground.phase }, { on := 42, ground := Ground.phase }, { on := 43, ground := Ground.phase }, { on := 44, ground := Ground.phase }, { on := 45, ground := Ground.phase }, { on := 46, ground := Ground.phase }, { on := 47, ground := Ground.phase }, { on := 48, ground := Ground.phase }, { on := 49, ground := Ground.phase }], guard := none }) (by kernel_rfl) [49, 47, 0, 1, 2, 3, 4, 5, 6, 7, 8, 9, 10, 11, 12, 13, 14, 15, 16, 17, 18, 19, 20, 21, 22, 23, 24, 25, 26, 27, 28, 29, 30, 31, 32, 33, 34, 35, 36, 37, 38, 39, 40, 41, 42, 43, 44, 45, 46, 47, 48, 49] (by kernel_rfl) fun v W hb hd => ?_
    have d49 : v 49 = (Value.bool true) := hd 49 (by decide)
    have e116 := (Reg.gfr_eval (ops := (Reg.opsOf Try.f4 11)) (a0 := a0) (v := v) (L := [49, 47, 0, 1, 2, 3, 4, 5, 6, 7, 8, 9, 10, 11, 12, 13, 14, 15, 16, 17, 18, 19, 20, 21, 22, 23, 24, 25, 26, 27, 28, 29, 30, 31, 32, 33, 34, 35, 36, 37, 38, 39, 40, 41, 42, 43, 44, 45, 46, 47, 48, 49]) 116 49 (by kernel_rfl) (by rw [hsz]; omega)).trans d49
    refine ⟨Reg.wanted_none rfl, ?_⟩
    generalize hρ : (Reg.gfr (Reg.opsOf Try.f4 11) a0 v [49, 47, 0, 1, 2, 3, 4, 5, 6, 7, 8, 9, 10, 11, 12, 13, 14, 15, 16, 17, 18, 19, 20, 21, 22, 23, 24, 25, 26, 27, 28, 29, 30, 31, 32, 33, 34, 35, 36, 37, 38, 39, 40, 41, 42, 43, 44, 45, 46, 47, 48, 49]).eval = ρ at e116
    have hρ' : (Reg.gfr (Reg.opsOf Try.f4 11) a0 v [49, 47, 0, 1, 2, 3, 4, 5, 6, 7, 8, 9, 10, 11, 12, 13, 14, 15, 16, 17, 18, 19, 20, 21, 22, 23, 24, 25, 26, 27, 28, 29, 30, 31, 32, 33, 34, 35, 36, 37, 38, 39, 40, 41, 42, 43, 44, 45, 46, 47, 48, 49]).eval = ρ := hρ
    exact Reg.go_run _ W (by rw [hρ']; simp [execOp, go_sem, e116]) ⟨Below.refl _ _, rfl⟩
  refine Reg.region_all (by kernel_rfl) (laidR Ao Aa Ab Ac na ca nb cb nc cc n k co y0 ya yb yc yk yab) (by rw [hn, hsz]; kernel_rfl) (laid_stable Ao Aa Ab Ac na ca nb cb nc cc n k co y0 ya yb yc yk yab) (fun i hi => ?_) (fun v w hb hR => ?_)
  · rw [hn] at hi
    match i, List.mem_range.1 hi with
    | 0, _ => exact h0
    | 1, _ => exact h1
    | 2, _ => exact h2
    | 3, _ => exact h3
    | 4, _ => exact h4
    | 5, _ => exact h5
    | 6, _ => exact h6
    | 7, _ => exact h7
    | 8, _ => exact h8
    | 9, _ => exact h9
    | 10, _ => exact h10
    | 11, _ => exact h11
    | 12, _ => exact h12
    | 13, _ => exact h13
    | 14, _ => exact h14
    | 15, _ => exact h15
    | 16, _ => exact h16
    | 17, _ => exact h17
    | 18, _ => exact h18
    | 19, _ => exact h19
    | 20, _ => exact h20
    | 21, _ => exact h21
    | 22, _ => exact h22
    | 23, _ => exact h23
    | 24, _ => exact h24
    | 25, _ => exact h25
    | 26, _ => exact h26
    | 27, _ => exact h27
    | 28, _ => exact h28
    | 29, _ => exact h29
    | 30, _ => exact h30
    | 31, _ => exact h31
    | 32, _ => exact h32
    | 33, _ => exact h33
    | 34, _ => exact h34
    | 35, _ => exact h35
    | 36, _ => exact h36
    | 37, _ => exact h37
    | 38, _ => exact h38
    | 39, _ => exact h39
    | 40, _ => exact h40
    | 41, _ => exact h41
    | 42, _ => exact h42
    | 43, _ => exact h43
    | 44, _ => exact h44
    | 45, _ => exact h45
    | 46, _ => exact h46
    | 47, _ => exact h47
    | 48, _ => exact h48
    | 49, _ => exact h49
    | 50, _ => exact h50
    | (_ + 51), h => omega
  · rw [hn] at hR ⊢
    refine hend _ w hb (Reg.gfr_defers _) (Reg.gfr_size _) ?_
    · have hv : v 50 = (Value.bool true) := hR 50 (by decide)
      exact (Reg.gfr_eval (ops := (Reg.opsOf Try.f4 11)) (a0 := a0) (v := v) (L := List.range 51) 8 50 (by kernel_rfl) (by rw [hsz]; omega)).trans hv
end Go.Proofs.Ytnpdbnphoifjlaa
