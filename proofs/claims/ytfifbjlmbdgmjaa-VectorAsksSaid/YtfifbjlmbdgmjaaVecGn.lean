/- Regions that draw their order: their obligations (printed by regen2.py). -/
import Derived.Test.YtfifbjlmbdgmjaaVecY
import Derived.Test.YtfifbjlmbdgmjaaRegS
namespace Go.Proofs.Ytfifbjlmbdgmjaa
open Go.RowKit
set_option linter.unusedVariables false
set_option linter.unusedSimpArgs false
set_option linter.unusedSectionVars false
def asks15R (aa bb nv mg mt : List Nat) (LL : List (List Nat)) (al : Option Addr) (nn cl : Nat) (ss cc p1 p2 e1 e2 xc : Int) (ga gb gd g11 g13 g15 g17 g20 g21 n : Nat) (hh dd : Bool) : Nat → Value → World → Prop
  | 0 => fun x_ _ => x_ = (Value.agg (dC p1 p2))
  | 1 => fun x_ _ => x_ = (Value.agg (dC p1 p2))
  | 2 => fun x_ _ => x_ = (Value.bool true)
  | 3 => fun x_ _ => x_ = (Value.bool true)
  | 4 => fun x_ _ => x_ = (Value.int IntKind.i64 e1)
  | 5 => fun x_ _ => x_ = (Value.int IntKind.i64 e1)
  | 6 => fun x_ _ => x_ = (Value.bool true)
  | 7 => fun x_ _ => x_ = (Value.bool true)
  | 8 => fun x_ _ => x_ = (Value.bool true)
  | 9 => fun x_ _ => x_ = (Value.agg (vC nv))
  | 10 => fun x_ _ => x_ = (Value.agg (vC nv))
  | 11 => fun x_ _ => x_ = (Value.bool true)
  | 12 => fun x_ _ => x_ = (Value.bool true)
  | 13 => fun x_ _ => x_ = (Value.bool true)
  | 14 => fun x_ _ => x_ = (Value.int IntKind.i64 e2)
  | 15 => fun x_ _ => x_ = (Value.int IntKind.i64 e2)
  | 16 => fun x_ _ => x_ = (Value.bool true)
  | 17 => fun x_ _ => x_ = (Value.bool true)
  | 18 => fun x_ _ => x_ = (Value.bool true)
  | 19 => fun x_ _ => x_ = (Value.agg (vC mg))
  | 20 => fun x_ _ => x_ = (Value.slice al nn cl)
  | 21 => fun x_ _ => x_ = (Value.agg (vC mg))
  | 22 => fun x_ _ => x_ = (Value.bool true)
  | 23 => fun x_ _ => x_ = (Value.bool true)
  | 24 => fun x_ _ => x_ = (Value.bool true)
  | 25 => fun x_ _ => x_ = (Value.agg (vC mt))
  | 26 => fun x_ _ => x_ = (Value.slice al nn cl)
  | 27 => fun x_ _ => x_ = (Value.agg (vC mt))
  | 28 => fun x_ _ => x_ = (Value.bool true)
  | 29 => fun x_ _ => x_ = (Value.bool true)
  | 30 => fun x_ _ => x_ = (Value.bool true)
  | 31 => fun x_ _ => x_ = (Value.agg (vC aa))
  | 32 => fun x_ _ => x_ = (Value.agg (dC ss cc))
  | 33 => fun x_ _ => x_ = (Value.bool hh)
  | 34 => fun x_ _ => x_ = (Value.agg (vC aa))
  | 35 => fun x_ _ => x_ = (Value.agg (dC ss cc))
  | 36 => fun x_ _ => x_ = (Value.bool hh)
  | 37 => fun x_ _ => x_ = (Value.bool true)
  | 38 => fun x_ _ => x_ = (Value.bool true)
  | 39 => fun x_ _ => x_ = (Value.bool true)
  | 40 => fun x_ _ => x_ = (Value.agg (vC aa))
  | 41 => fun x_ _ => x_ = (Value.agg (vC bb))
  | 42 => fun x_ _ => x_ = (Value.bool dd)
  | 43 => fun x_ _ => x_ = (Value.agg (vC aa))
  | 44 => fun x_ _ => x_ = (Value.agg (vC bb))
  | 45 => fun x_ _ => x_ = (Value.bool dd)
  | 46 => fun x_ _ => x_ = (Value.bool true)
  | 47 => fun x_ _ => x_ = (Value.bool true)
  | 48 => fun x_ _ => x_ = (Value.bool true)
  | 49 => fun x_ _ => x_ = (Value.agg (vC aa))
  | 50 => fun x_ _ => x_ = (Value.agg (vC bb))
  | 51 => fun x_ _ => x_ = (Value.int IntKind.i64 xc)
  | 52 => fun x_ _ => x_ = (Value.agg (vC aa))
  | 53 => fun x_ _ => x_ = (Value.agg (vC bb))
  | 54 => fun x_ _ => x_ = (Value.int IntKind.i64 xc)
  | 55 => fun x_ _ => x_ = (Value.bool true)
  | 56 => fun x_ _ => x_ = (Value.bool true)
  | 57 => fun x_ _ => x_ = (Value.bool true)
  | 58 => fun x_ _ => x_ = (Value.agg (vC aa))
  | 59 => fun x_ _ => x_ = (Value.agg (vC bb))
  | 60 => fun x_ _ => x_ = (Value.int IntKind.u64 (n : Int))
  | 61 => fun x_ _ => x_ = (Value.agg (vC aa))
  | 62 => fun x_ _ => x_ = (Value.agg (vC bb))
  | 63 => fun x_ _ => x_ = (Value.int IntKind.u64 (n : Int))
  | 64 => fun x_ _ => x_ = (Value.bool true)
  | 65 => fun x_ _ => x_ = (Value.bool true)
  | 66 => fun x_ _ => x_ = (Value.bool true)
  | _ => fun _ _ => True
theorem asks15_stable (aa bb nv mg mt : List Nat) (LL : List (List Nat)) (al : Option Addr) (nn cl : Nat) (ss cc p1 p2 e1 e2 xc : Int) (ga gb gd g11 g13 g15 g17 g20 g21 n : Nat) (hh dd : Bool) : ∀ i_ u_ w_ w_', (asks15R aa bb nv mg mt LL al nn cl ss cc p1 p2 e1 e2 xc ga gb gd g11 g13 g15 g17 g20 g21 n hh dd) i_ u_ w_ → Below w_.heap.size w_ w_' → (asks15R aa bb nv mg mt LL al nn cl ss cc p1 p2 e1 e2 xc ga gb gd g11 g13 g15 g17 g20 g21 n hh dd) i_ u_ w_' := fun i_ u_ w_ w_' h_ hb_ => by
  match i_, h_ with
  | 0, h_ => exact h_
  | 1, h_ => exact h_
  | 2, h_ => exact h_
  | 3, h_ => exact h_
  | 4, h_ => exact h_
  | 5, h_ => exact h_
  | 6, h_ => exact h_
  | 7, h_ => exact h_
  | 8, h_ => exact h_
  | 9, h_ => exact h_
  | 10, h_ => exact h_
  | 11, h_ => exact h_
  | 12, h_ => exact h_
  | 13, h_ => exact h_
  | 14, h_ => exact h_
  | 15, h_ => exact h_
  | 16, h_ => exact h_
  | 17, h_ => exact h_
  | 18, h_ => exact h_
  | 19, h_ => exact h_
  | 20, h_ => exact h_
  | 21, h_ => exact h_
  | 22, h_ => exact h_
  | 23, h_ => exact h_
  | 24, h_ => exact h_
  | 25, h_ => exact h_
  | 26, h_ => exact h_
  | 27, h_ => exact h_
  | 28, h_ => exact h_
  | 29, h_ => exact h_
  | 30, h_ => exact h_
  | 31, h_ => exact h_
  | 32, h_ => exact h_
  | 33, h_ => exact h_
  | 34, h_ => exact h_
  | 35, h_ => exact h_
  | 36, h_ => exact h_
  | 37, h_ => exact h_
  | 38, h_ => exact h_
  | 39, h_ => exact h_
  | 40, h_ => exact h_
  | 41, h_ => exact h_
  | 42, h_ => exact h_
  | 43, h_ => exact h_
  | 44, h_ => exact h_
  | 45, h_ => exact h_
  | 46, h_ => exact h_
  | 47, h_ => exact h_
  | 48, h_ => exact h_
  | 49, h_ => exact h_
  | 50, h_ => exact h_
  | 51, h_ => exact h_
  | 52, h_ => exact h_
  | 53, h_ => exact h_
  | 54, h_ => exact h_
  | 55, h_ => exact h_
  | 56, h_ => exact h_
  | 57, h_ => exact h_
  | 58, h_ => exact h_
  | 59, h_ => exact h_
  | 60, h_ => exact h_
  | 61, h_ => exact h_
  | 62, h_ => exact h_
  | 63, h_ => exact h_
  | 64, h_ => exact h_
  | 65, h_ => exact h_
  | 66, h_ => exact h_
  | (_ + 67), _ => trivial
section
variable (aa bb nv mg mt : List Nat) (LL : List (List Nat)) (al : Option Addr) (nn cl : Nat) (ss cc p1 p2 e1 e2 xc : Int) (ga gb gd g11 g13 g15 g17 g20 g21 n : Nat) (hh dd : Bool) (w0 : World) (a0 : Act)
variable (ha : aa.length = 16) (hb' : bb.length = 16) (hnv : nv.length = 16) (hmg : mg.length = 16) (hmt : mt.length = 16) (sa : small aa) (sb : small bb) (hL : LL.length = nn) (hLv : ∀ v ∈ LL, v.length = 16) (hnn : nn ≤ 1000)
variable (LR : ∀ W, Below w0.heap.size w0 W → RdC W al (vecs LL)) (f1 : foldK max LL nn = mg) (f2 : foldK min LL nn = mt) (f3 : hasV aa ss cc = hh) (f4 : decide (maxV aa bb = bb) = dd) (f5 : cmpV aa bb = xc) (f6 : lackV aa bb = n)
variable (M_ga : ∀ W, Below w0.heap.size w0 W → W.heap[ga]? = some (.cells (vC aa) 24 (0, 0)))
variable (M_gb : ∀ W, Below w0.heap.size w0 W → W.heap[gb]? = some (.cells (vC bb) 24 (0, 0)))
variable (M_g15 : ∀ W, Below w0.heap.size w0 W → W.heap[g15]? = some (.cells (vC nv) 24 (0, 0)))
variable (M_g17 : ∀ W, Below w0.heap.size w0 W → W.heap[g17]? = some (.cells (vC nv) 24 (0, 0)))
variable (M_g20 : ∀ W, Below w0.heap.size w0 W → W.heap[g20]? = some (.cells (vC mg) 24 (0, 0)))
variable (M_g21 : ∀ W, Below w0.heap.size w0 W → W.heap[g21]? = some (.cells (vC mt) 24 (0, 0)))
variable (M_gd : ∀ W, Below w0.heap.size w0 W → W.heap[gd]? = some (.cells (dC ss cc) 35 (0, 0)))
variable (M_g11 : ∀ W, Below w0.heap.size w0 W → W.heap[g11]? = some (.cells (dC p1 p2) 35 (0, 0)))
variable (M_g13 : ∀ W, Below w0.heap.size w0 W → W.heap[g13]? = some (.cells (dC p1 p2) 35 (0, 0)))
variable (i2 : a0.eval (.tmp 2) = (Value.slice al nn cl)) (i5 : a0.eval (.tmp 5) = (Value.pointer (some ⟨ga, 0, none⟩))) (i6 : a0.eval (.tmp 6) = (Value.pointer (some ⟨gb, 0, none⟩))) (i8 : a0.eval (.tmp 8) = (Value.pointer (some ⟨gd, 0, none⟩))) (i11 : a0.eval (.tmp 11) = (Value.pointer (some ⟨g11, 0, none⟩))) (i12 : a0.eval (.tmp 12) = (Value.int IntKind.i64 e1)) (i13 : a0.eval (.tmp 13) = (Value.pointer (some ⟨g13, 0, none⟩))) (i14 : a0.eval (.tmp 14) = (Value.int IntKind.i64 e1)) (i15 : a0.eval (.tmp 15) = (Value.pointer (some ⟨g15, 0, none⟩))) (i16 : a0.eval (.tmp 16) = (Value.int IntKind.i64 e2)) (i17 : a0.eval (.tmp 17) = (Value.pointer (some ⟨g17, 0, none⟩))) (i18 : a0.eval (.tmp 18) = (Value.int IntKind.i64 e2)) (i20 : a0.eval (.tmp 20) = (Value.pointer (some ⟨g20, 0, none⟩))) (i21 : a0.eval (.tmp 21) = (Value.pointer (some ⟨g21, 0, none⟩))) (hsz : a0.tmps.size = 138)
include aa bb nv mg mt LL al nn cl ss cc p1 p2 e1 e2 xc ga gb gd g11 g13 g15 g17 g20 g21 n hh dd w0 a0 ha hb' hnv hmg hmt sa sb hL hLv hnn LR f1 f2 f3 f4 f5 f6 M_ga M_gb M_g15 M_g17 M_g20 M_g21 M_gd M_g11 M_g13 i2 i5 i6 i8 i11 i12 i13 i14 i15 i16 i17 i18 i20 i21 hsz
set_option maxHeartbeats 4000000 in
set_option maxRecDepth 20000 in
theorem asks15_h0 :
    Reg.OpOK Try.prog (Reg.opsOf Try.f6 15) a0 w0 (asks15R aa bb nv mg mt LL al nn cl ss cc p1 p2 e1 e2 xc ga gb gd g11 g13 g15 g17 g20 g21 n hh dd) (fun _ _ _ _ => True) 0 := by
    refine Reg.op_ok2 (fun af => { dst := some 72, op := Op.load 35 (Operand.tmp 11), type := 35, pos := "law.go:28", after := af, guard := none }) #[] (by kernel_rfl) [] (by kernel_rfl) fun af v W hb hd => ?_
    have e11 := (Reg.gfr_eval0 (ops := (Reg.opsOf Try.f6 15)) (a0 := a0) (v := v) (L := []) 11 (by kernel_rfl)).trans i11
    refine ⟨Reg.wanted_none rfl, ?_⟩
    generalize Reg.gfr (Reg.opsOf Try.f6 15) a0 v [] = G at e11 ⊢
    generalize hρ : G.eval = ρ at e11
    have hρ' : G.eval = ρ := hρ
    exact fun K hK => wp_load_row 35 (.tmp 11) rfl g11 (by rw [hρ']; exact e11) 35 (dC p1 p2) (0, 0) _ (M_g11 W hb) Try.underlying35 rfl size_dot (hK _ _ ⟨Below.refl _ _, rfl⟩)
set_option maxHeartbeats 4000000 in
set_option maxRecDepth 20000 in
theorem asks15_h1 :
    Reg.OpOK Try.prog (Reg.opsOf Try.f6 15) a0 w0 (asks15R aa bb nv mg mt LL al nn cl ss cc p1 p2 e1 e2 xc ga gb gd g11 g13 g15 g17 g20 g21 n hh dd) (fun _ _ _ _ => True) 1 := by
    refine Reg.op_ok2 (fun af => { dst := some 73, op := Op.load 35 (Operand.tmp 13), type := 35, pos := "law.go:28", after := af, guard := none }) #[] (by kernel_rfl) [] (by kernel_rfl) fun af v W hb hd => ?_
    have e13 := (Reg.gfr_eval0 (ops := (Reg.opsOf Try.f6 15)) (a0 := a0) (v := v) (L := []) 13 (by kernel_rfl)).trans i13
    refine ⟨Reg.wanted_none rfl, ?_⟩
    generalize Reg.gfr (Reg.opsOf Try.f6 15) a0 v [] = G at e13 ⊢
    generalize hρ : G.eval = ρ at e13
    have hρ' : G.eval = ρ := hρ
    exact fun K hK => wp_load_row 35 (.tmp 13) rfl g13 (by rw [hρ']; exact e13) 35 (dC p1 p2) (0, 0) _ (M_g13 W hb) Try.underlying35 rfl size_dot (hK _ _ ⟨Below.refl _ _, rfl⟩)
set_option maxHeartbeats 4000000 in
set_option maxRecDepth 20000 in
theorem asks15_h2 :
    Reg.OpOK Try.prog (Reg.opsOf Try.f6 15) a0 w0 (asks15R aa bb nv mg mt LL al nn cl ss cc p1 p2 e1 e2 xc ga gb gd g11 g13 g15 g17 g20 g21 n hh dd) (fun _ _ _ _ => True) 2 := by
    refine Reg.op_ok2 (fun af => { dst := some 74, op := Op.binOp BinOp.eql 35 (Operand.tmp 72) (Operand.tmp 73) 35, type := 4, pos := "law.go:28", after := af, guard := none }) #[{ on := 0, ground := Ground.data }, { on := 1, ground := Ground.data }] (by kernel_rfl) [0, 1] (by kernel_rfl) fun af v W hb hd => ?_
    have d0 : v 0 = (Value.agg (dC p1 p2)) := hd 0 (by decide)
    have d1 : v 1 = (Value.agg (dC p1 p2)) := hd 1 (by decide)
    have e72 := (Reg.gfr_eval (ops := (Reg.opsOf Try.f6 15)) (a0 := a0) (v := v) (L := [0, 1]) 72 0 (by kernel_rfl) (by rw [hsz]; omega)).trans d0
    have e73 := (Reg.gfr_eval (ops := (Reg.opsOf Try.f6 15)) (a0 := a0) (v := v) (L := [0, 1]) 73 1 (by kernel_rfl) (by rw [hsz]; omega)).trans d1
    refine ⟨Reg.wanted_none rfl, ?_⟩
    generalize Reg.gfr (Reg.opsOf Try.f6 15) a0 v [0, 1] = G at e72 e73 ⊢
    generalize hρ : G.eval = ρ at e72 e73
    have hρ' : G.eval = ρ := hρ
    refine Reg.go_run (Value.bool true) W ?_ ?_
    · rw [hρ']; simp [execOp, go_sem, e72, e73, dC]
    · exact ⟨Below.refl _ _, rfl⟩
set_option maxHeartbeats 4000000 in
set_option maxRecDepth 20000 in
theorem asks15_h3 :
    Reg.OpOK Try.prog (Reg.opsOf Try.f6 15) a0 w0 (asks15R aa bb nv mg mt LL al nn cl ss cc p1 p2 e1 e2 xc ga gb gd g11 g13 g15 g17 g20 g21 n hh dd) (fun _ _ _ _ => True) 3 := by
    refine Reg.op_ok2 (fun af => { dst := some 75, op := Op.move (Operand.tmp 74), type := 4, pos := "law.go:28", after := af, guard := none }) #[{ on := 2, ground := Ground.data }] (by kernel_rfl) [2] (by kernel_rfl) fun af v W hb hd => ?_
    have d2 : v 2 = (Value.bool true) := hd 2 (by decide)
    have e74 := (Reg.gfr_eval (ops := (Reg.opsOf Try.f6 15)) (a0 := a0) (v := v) (L := [2]) 74 2 (by kernel_rfl) (by rw [hsz]; omega)).trans d2
    refine ⟨Reg.wanted_none rfl, ?_⟩
    generalize Reg.gfr (Reg.opsOf Try.f6 15) a0 v [2] = G at e74 ⊢
    generalize hρ : G.eval = ρ at e74
    have hρ' : G.eval = ρ := hρ
    refine Reg.go_run (Value.bool true) W ?_ ?_
    · rw [hρ']; simp [execOp, go_sem, e74]
    · exact ⟨Below.refl _ _, rfl⟩
set_option maxHeartbeats 4000000 in
set_option maxRecDepth 20000 in
theorem asks15_h4 :
    Reg.OpOK Try.prog (Reg.opsOf Try.f6 15) a0 w0 (asks15R aa bb nv mg mt LL al nn cl ss cc p1 p2 e1 e2 xc ga gb gd g11 g13 g15 g17 g20 g21 n hh dd) (fun _ _ _ _ => True) 4 := by
    refine Reg.op_ok2 (fun af => { dst := some 76, op := Op.move (Operand.tmp 12), type := 36, pos := "law.go:28", after := af, guard := some (3, true) }) #[{ on := 3, ground := Ground.guard }] (by kernel_rfl) [3] (by kernel_rfl) fun af v W hb hd => ?_
    have d3 : v 3 = (Value.bool true) := hd 3 (by decide)
    have e12 := (Reg.gfr_eval0 (ops := (Reg.opsOf Try.f6 15)) (a0 := a0) (v := v) (L := [3]) 12 (by kernel_rfl)).trans i12
    have e75 := (Reg.gfr_eval (ops := (Reg.opsOf Try.f6 15)) (a0 := a0) (v := v) (L := [3]) 75 3 (by kernel_rfl) (by rw [hsz]; omega)).trans d3
    refine ⟨Reg.wanted_of rfl (by kernel_rfl) e75, ?_⟩
    generalize Reg.gfr (Reg.opsOf Try.f6 15) a0 v [3] = G at e12 ⊢
    generalize hρ : G.eval = ρ at e12
    have hρ' : G.eval = ρ := hρ
    refine Reg.go_run (Value.int IntKind.i64 e1) W ?_ ?_
    · rw [hρ']; simp [execOp, go_sem, e12]
    · exact ⟨Below.refl _ _, rfl⟩
set_option maxHeartbeats 4000000 in
set_option maxRecDepth 20000 in
theorem asks15_h5 :
    Reg.OpOK Try.prog (Reg.opsOf Try.f6 15) a0 w0 (asks15R aa bb nv mg mt LL al nn cl ss cc p1 p2 e1 e2 xc ga gb gd g11 g13 g15 g17 g20 g21 n hh dd) (fun _ _ _ _ => True) 5 := by
    refine Reg.op_ok2 (fun af => { dst := some 77, op := Op.move (Operand.tmp 14), type := 3, pos := "law.go:28", after := af, guard := some (3, true) }) #[{ on := 3, ground := Ground.guard }] (by kernel_rfl) [3] (by kernel_rfl) fun af v W hb hd => ?_
    have d3 : v 3 = (Value.bool true) := hd 3 (by decide)
    have e14 := (Reg.gfr_eval0 (ops := (Reg.opsOf Try.f6 15)) (a0 := a0) (v := v) (L := [3]) 14 (by kernel_rfl)).trans i14
    have e75 := (Reg.gfr_eval (ops := (Reg.opsOf Try.f6 15)) (a0 := a0) (v := v) (L := [3]) 75 3 (by kernel_rfl) (by rw [hsz]; omega)).trans d3
    refine ⟨Reg.wanted_of rfl (by kernel_rfl) e75, ?_⟩
    generalize Reg.gfr (Reg.opsOf Try.f6 15) a0 v [3] = G at e14 ⊢
    generalize hρ : G.eval = ρ at e14
    have hρ' : G.eval = ρ := hρ
    refine Reg.go_run (Value.int IntKind.i64 e1) W ?_ ?_
    · rw [hρ']; simp [execOp, go_sem, e14]
    · exact ⟨Below.refl _ _, rfl⟩
set_option maxHeartbeats 4000000 in
set_option maxRecDepth 20000 in
theorem asks15_h6 :
    Reg.OpOK Try.prog (Reg.opsOf Try.f6 15) a0 w0 (asks15R aa bb nv mg mt LL al nn cl ss cc p1 p2 e1 e2 xc ga gb gd g11 g13 g15 g17 g20 g21 n hh dd) (fun _ _ _ _ => True) 6 := by
    refine Reg.op_ok2 (fun af => { dst := some 78, op := Op.binOp BinOp.eql 3 (Operand.tmp 76) (Operand.tmp 77) 3, type := 4, pos := "law.go:28", after := af, guard := some (3, true) }) #[{ on := 4, ground := Ground.data }, { on := 5, ground := Ground.data }, { on := 3, ground := Ground.guard }] (by kernel_rfl) [4, 5, 3] (by kernel_rfl) fun af v W hb hd => ?_
    have d3 : v 3 = (Value.bool true) := hd 3 (by decide)
    have d4 : v 4 = (Value.int IntKind.i64 e1) := hd 4 (by decide)
    have d5 : v 5 = (Value.int IntKind.i64 e1) := hd 5 (by decide)
    have e76 := (Reg.gfr_eval (ops := (Reg.opsOf Try.f6 15)) (a0 := a0) (v := v) (L := [4, 5, 3]) 76 4 (by kernel_rfl) (by rw [hsz]; omega)).trans d4
    have e77 := (Reg.gfr_eval (ops := (Reg.opsOf Try.f6 15)) (a0 := a0) (v := v) (L := [4, 5, 3]) 77 5 (by kernel_rfl) (by rw [hsz]; omega)).trans d5
    have e75 := (Reg.gfr_eval (ops := (Reg.opsOf Try.f6 15)) (a0 := a0) (v := v) (L := [4, 5, 3]) 75 3 (by kernel_rfl) (by rw [hsz]; omega)).trans d3
    refine ⟨Reg.wanted_of rfl (by kernel_rfl) e75, ?_⟩
    generalize Reg.gfr (Reg.opsOf Try.f6 15) a0 v [4, 5, 3] = G at e76 e77 ⊢
    generalize hρ : G.eval = ρ at e76 e77
    have hρ' : G.eval = ρ := hρ
    refine Reg.go_run (Value.bool true) W ?_ ?_
    · rw [hρ']; simp [execOp, go_sem, e76, e77]
    · exact ⟨Below.refl _ _, rfl⟩
set_option maxHeartbeats 4000000 in
set_option maxRecDepth 20000 in
theorem asks15_h7 :
    Reg.OpOK Try.prog (Reg.opsOf Try.f6 15) a0 w0 (asks15R aa bb nv mg mt LL al nn cl ss cc p1 p2 e1 e2 xc ga gb gd g11 g13 g15 g17 g20 g21 n hh dd) (fun _ _ _ _ => True) 7 := by
    refine Reg.op_ok2 (fun af => { dst := some 79, op := Op.pick (Operand.tmp 75) (Operand.tmp 78) (Operand.const (Value.bool false)), type := 4, pos := "law.go:28", after := af, guard := none }) #[{ on := 3, ground := Ground.data }, { on := 6, ground := Ground.data }] (by kernel_rfl) [3, 6] (by kernel_rfl) fun af v W hb hd => ?_
    have d3 : v 3 = (Value.bool true) := hd 3 (by decide)
    have d6 : v 6 = (Value.bool true) := hd 6 (by decide)
    have e75 := (Reg.gfr_eval (ops := (Reg.opsOf Try.f6 15)) (a0 := a0) (v := v) (L := [3, 6]) 75 3 (by kernel_rfl) (by rw [hsz]; omega)).trans d3
    have e78 := (Reg.gfr_eval (ops := (Reg.opsOf Try.f6 15)) (a0 := a0) (v := v) (L := [3, 6]) 78 6 (by kernel_rfl) (by rw [hsz]; omega)).trans d6
    refine ⟨Reg.wanted_none rfl, ?_⟩
    have eC : ∀ x, (Reg.gfr (Reg.opsOf Try.f6 15) a0 v [3, 6]).eval (.const x) = x := fun _ => rfl
    generalize Reg.gfr (Reg.opsOf Try.f6 15) a0 v [3, 6] = G at e75 e78 eC ⊢
    generalize hρ : G.eval = ρ at e75 e78 eC
    have hρ' : G.eval = ρ := hρ
    refine Reg.go_run (Value.bool true) W ?_ ?_
    · rw [hρ']; simp [execOp, go_sem, e75, e78, eC]
    · exact ⟨Below.refl _ _, rfl⟩
set_option maxHeartbeats 4000000 in
set_option maxRecDepth 20000 in
theorem asks15_h8 :
    Reg.OpOK Try.prog (Reg.opsOf Try.f6 15) a0 w0 (asks15R aa bb nv mg mt LL al nn cl ss cc p1 p2 e1 e2 xc ga gb gd g11 g13 g15 g17 g20 g21 n hh dd) (fun _ _ _ _ => True) 8 := by
    refine Reg.op_ok2 (fun af => { dst := some 80, op := Op.move (Operand.tmp 79), type := 4, pos := "law.go:28", after := af, guard := none }) #[{ on := 7, ground := Ground.data }, { on := 3, ground := Ground.chain }] (by kernel_rfl) [7, 3] (by kernel_rfl) fun af v W hb hd => ?_
    have d7 : v 7 = (Value.bool true) := hd 7 (by decide)
    have e79 := (Reg.gfr_eval (ops := (Reg.opsOf Try.f6 15)) (a0 := a0) (v := v) (L := [7, 3]) 79 7 (by kernel_rfl) (by rw [hsz]; omega)).trans d7
    refine ⟨Reg.wanted_none rfl, ?_⟩
    generalize Reg.gfr (Reg.opsOf Try.f6 15) a0 v [7, 3] = G at e79 ⊢
    generalize hρ : G.eval = ρ at e79
    have hρ' : G.eval = ρ := hρ
    refine Reg.go_run (Value.bool true) W ?_ ?_
    · rw [hρ']; simp [execOp, go_sem, e79]
    · exact ⟨Below.refl _ _, rfl⟩
set_option maxHeartbeats 4000000 in
set_option maxRecDepth 20000 in
theorem asks15_h9 :
    Reg.OpOK Try.prog (Reg.opsOf Try.f6 15) a0 w0 (asks15R aa bb nv mg mt LL al nn cl ss cc p1 p2 e1 e2 xc ga gb gd g11 g13 g15 g17 g20 g21 n hh dd) (fun _ _ _ _ => True) 9 := by
    refine Reg.op_ok2 (fun af => { dst := some 81, op := Op.load 24 (Operand.tmp 15), type := 24, pos := "law.go:28", after := af, guard := some (8, true) }) #[{ on := 8, ground := Ground.guard }] (by kernel_rfl) [8] (by kernel_rfl) fun af v W hb hd => ?_
    have d8 : v 8 = (Value.bool true) := hd 8 (by decide)
    have e15 := (Reg.gfr_eval0 (ops := (Reg.opsOf Try.f6 15)) (a0 := a0) (v := v) (L := [8]) 15 (by kernel_rfl)).trans i15
    have e80 := (Reg.gfr_eval (ops := (Reg.opsOf Try.f6 15)) (a0 := a0) (v := v) (L := [8]) 80 8 (by kernel_rfl) (by rw [hsz]; omega)).trans d8
    refine ⟨Reg.wanted_of rfl (by kernel_rfl) e80, ?_⟩
    generalize Reg.gfr (Reg.opsOf Try.f6 15) a0 v [8] = G at e15 ⊢
    generalize hρ : G.eval = ρ at e15
    have hρ' : G.eval = ρ := hρ
    exact fun K hK => wp_load_row 24 (.tmp 15) rfl g15 (by rw [hρ']; exact e15) 24 (vC nv) (0, 0) _ (M_g15 W hb) Try.underlying24 rfl (vec_size hnv) (hK _ _ ⟨Below.refl _ _, rfl⟩)
set_option maxHeartbeats 4000000 in
set_option maxRecDepth 20000 in
theorem asks15_h10 :
    Reg.OpOK Try.prog (Reg.opsOf Try.f6 15) a0 w0 (asks15R aa bb nv mg mt LL al nn cl ss cc p1 p2 e1 e2 xc ga gb gd g11 g13 g15 g17 g20 g21 n hh dd) (fun _ _ _ _ => True) 10 := by
    refine Reg.op_ok2 (fun af => { dst := some 82, op := Op.load 24 (Operand.tmp 17), type := 24, pos := "law.go:28", after := af, guard := some (8, true) }) #[{ on := 8, ground := Ground.guard }] (by kernel_rfl) [8] (by kernel_rfl) fun af v W hb hd => ?_
    have d8 : v 8 = (Value.bool true) := hd 8 (by decide)
    have e17 := (Reg.gfr_eval0 (ops := (Reg.opsOf Try.f6 15)) (a0 := a0) (v := v) (L := [8]) 17 (by kernel_rfl)).trans i17
    have e80 := (Reg.gfr_eval (ops := (Reg.opsOf Try.f6 15)) (a0 := a0) (v := v) (L := [8]) 80 8 (by kernel_rfl) (by rw [hsz]; omega)).trans d8
    refine ⟨Reg.wanted_of rfl (by kernel_rfl) e80, ?_⟩
    generalize Reg.gfr (Reg.opsOf Try.f6 15) a0 v [8] = G at e17 ⊢
    generalize hρ : G.eval = ρ at e17
    have hρ' : G.eval = ρ := hρ
    exact fun K hK => wp_load_row 24 (.tmp 17) rfl g17 (by rw [hρ']; exact e17) 24 (vC nv) (0, 0) _ (M_g17 W hb) Try.underlying24 rfl (vec_size hnv) (hK _ _ ⟨Below.refl _ _, rfl⟩)
set_option maxHeartbeats 4000000 in
set_option maxRecDepth 20000 in
theorem asks15_h11 :
    Reg.OpOK Try.prog (Reg.opsOf Try.f6 15) a0 w0 (asks15R aa bb nv mg mt LL al nn cl ss cc p1 p2 e1 e2 xc ga gb gd g11 g13 g15 g17 g20 g21 n hh dd) (fun _ _ _ _ => True) 11 := by
    refine Reg.op_ok2 (fun af => { dst := some 83, op := Op.binOp BinOp.eql 24 (Operand.tmp 81) (Operand.tmp 82) 24, type := 4, pos := "law.go:28", after := af, guard := some (8, true) }) #[{ on := 9, ground := Ground.data }, { on := 10, ground := Ground.data }, { on := 8, ground := Ground.guard }] (by kernel_rfl) [9, 10, 8] (by kernel_rfl) fun af v W hb hd => ?_
    have d8 : v 8 = (Value.bool true) := hd 8 (by decide)
    have d9 : v 9 = (Value.agg (vC nv)) := hd 9 (by decide)
    have d10 : v 10 = (Value.agg (vC nv)) := hd 10 (by decide)
    have e81 := (Reg.gfr_eval (ops := (Reg.opsOf Try.f6 15)) (a0 := a0) (v := v) (L := [9, 10, 8]) 81 9 (by kernel_rfl) (by rw [hsz]; omega)).trans d9
    have e82 := (Reg.gfr_eval (ops := (Reg.opsOf Try.f6 15)) (a0 := a0) (v := v) (L := [9, 10, 8]) 82 10 (by kernel_rfl) (by rw [hsz]; omega)).trans d10
    have e80 := (Reg.gfr_eval (ops := (Reg.opsOf Try.f6 15)) (a0 := a0) (v := v) (L := [9, 10, 8]) 80 8 (by kernel_rfl) (by rw [hsz]; omega)).trans d8
    refine ⟨Reg.wanted_of rfl (by kernel_rfl) e80, ?_⟩
    generalize Reg.gfr (Reg.opsOf Try.f6 15) a0 v [9, 10, 8] = G at e81 e82 ⊢
    generalize hρ : G.eval = ρ at e81 e82
    have hρ' : G.eval = ρ := hρ
    refine Reg.go_run (Value.bool true) W ?_ ?_
    · rw [hρ']; simp [execOp, go_sem, e81, e82, run_eq_vec W nv nv hnv hnv]
    · exact ⟨Below.refl _ _, rfl⟩
set_option maxHeartbeats 4000000 in
set_option maxRecDepth 20000 in
theorem asks15_h12 :
    Reg.OpOK Try.prog (Reg.opsOf Try.f6 15) a0 w0 (asks15R aa bb nv mg mt LL al nn cl ss cc p1 p2 e1 e2 xc ga gb gd g11 g13 g15 g17 g20 g21 n hh dd) (fun _ _ _ _ => True) 12 := by
    refine Reg.op_ok2 (fun af => { dst := some 84, op := Op.pick (Operand.tmp 80) (Operand.tmp 83) (Operand.const (Value.bool false)), type := 4, pos := "law.go:28", after := af, guard := none }) #[{ on := 8, ground := Ground.data }, { on := 11, ground := Ground.data }] (by kernel_rfl) [8, 11] (by kernel_rfl) fun af v W hb hd => ?_
    have d8 : v 8 = (Value.bool true) := hd 8 (by decide)
    have d11 : v 11 = (Value.bool true) := hd 11 (by decide)
    have e80 := (Reg.gfr_eval (ops := (Reg.opsOf Try.f6 15)) (a0 := a0) (v := v) (L := [8, 11]) 80 8 (by kernel_rfl) (by rw [hsz]; omega)).trans d8
    have e83 := (Reg.gfr_eval (ops := (Reg.opsOf Try.f6 15)) (a0 := a0) (v := v) (L := [8, 11]) 83 11 (by kernel_rfl) (by rw [hsz]; omega)).trans d11
    refine ⟨Reg.wanted_none rfl, ?_⟩
    have eC : ∀ x, (Reg.gfr (Reg.opsOf Try.f6 15) a0 v [8, 11]).eval (.const x) = x := fun _ => rfl
    generalize Reg.gfr (Reg.opsOf Try.f6 15) a0 v [8, 11] = G at e80 e83 eC ⊢
    generalize hρ : G.eval = ρ at e80 e83 eC
    have hρ' : G.eval = ρ := hρ
    refine Reg.go_run (Value.bool true) W ?_ ?_
    · rw [hρ']; simp [execOp, go_sem, e80, e83, eC]
    · exact ⟨Below.refl _ _, rfl⟩
set_option maxHeartbeats 4000000 in
set_option maxRecDepth 20000 in
theorem asks15_h13 :
    Reg.OpOK Try.prog (Reg.opsOf Try.f6 15) a0 w0 (asks15R aa bb nv mg mt LL al nn cl ss cc p1 p2 e1 e2 xc ga gb gd g11 g13 g15 g17 g20 g21 n hh dd) (fun _ _ _ _ => True) 13 := by
    refine Reg.op_ok2 (fun af => { dst := some 85, op := Op.move (Operand.tmp 84), type := 4, pos := "law.go:28", after := af, guard := none }) #[{ on := 12, ground := Ground.data }, { on := 8, ground := Ground.chain }] (by kernel_rfl) [12, 8] (by kernel_rfl) fun af v W hb hd => ?_
    have d12 : v 12 = (Value.bool true) := hd 12 (by decide)
    have e84 := (Reg.gfr_eval (ops := (Reg.opsOf Try.f6 15)) (a0 := a0) (v := v) (L := [12, 8]) 84 12 (by kernel_rfl) (by rw [hsz]; omega)).trans d12
    refine ⟨Reg.wanted_none rfl, ?_⟩
    generalize Reg.gfr (Reg.opsOf Try.f6 15) a0 v [12, 8] = G at e84 ⊢
    generalize hρ : G.eval = ρ at e84
    have hρ' : G.eval = ρ := hρ
    refine Reg.go_run (Value.bool true) W ?_ ?_
    · rw [hρ']; simp [execOp, go_sem, e84]
    · exact ⟨Below.refl _ _, rfl⟩
set_option maxHeartbeats 4000000 in
set_option maxRecDepth 20000 in
theorem asks15_h14 :
    Reg.OpOK Try.prog (Reg.opsOf Try.f6 15) a0 w0 (asks15R aa bb nv mg mt LL al nn cl ss cc p1 p2 e1 e2 xc ga gb gd g11 g13 g15 g17 g20 g21 n hh dd) (fun _ _ _ _ => True) 14 := by
    refine Reg.op_ok2 (fun af => { dst := some 86, op := Op.move (Operand.tmp 16), type := 36, pos := "law.go:28", after := af, guard := some (13, true) }) #[{ on := 13, ground := Ground.guard }] (by kernel_rfl) [13] (by kernel_rfl) fun af v W hb hd => ?_
    have d13 : v 13 = (Value.bool true) := hd 13 (by decide)
    have e16 := (Reg.gfr_eval0 (ops := (Reg.opsOf Try.f6 15)) (a0 := a0) (v := v) (L := [13]) 16 (by kernel_rfl)).trans i16
    have e85 := (Reg.gfr_eval (ops := (Reg.opsOf Try.f6 15)) (a0 := a0) (v := v) (L := [13]) 85 13 (by kernel_rfl) (by rw [hsz]; omega)).trans d13
    refine ⟨Reg.wanted_of rfl (by kernel_rfl) e85, ?_⟩
    generalize Reg.gfr (Reg.opsOf Try.f6 15) a0 v [13] = G at e16 ⊢
    generalize hρ : G.eval = ρ at e16
    have hρ' : G.eval = ρ := hρ
    refine Reg.go_run (Value.int IntKind.i64 e2) W ?_ ?_
    · rw [hρ']; simp [execOp, go_sem, e16]
    · exact ⟨Below.refl _ _, rfl⟩
set_option maxHeartbeats 4000000 in
set_option maxRecDepth 20000 in
theorem asks15_h15 :
    Reg.OpOK Try.prog (Reg.opsOf Try.f6 15) a0 w0 (asks15R aa bb nv mg mt LL al nn cl ss cc p1 p2 e1 e2 xc ga gb gd g11 g13 g15 g17 g20 g21 n hh dd) (fun _ _ _ _ => True) 15 := by
    refine Reg.op_ok2 (fun af => { dst := some 87, op := Op.move (Operand.tmp 18), type := 3, pos := "law.go:28", after := af, guard := some (13, true) }) #[{ on := 13, ground := Ground.guard }] (by kernel_rfl) [13] (by kernel_rfl) fun af v W hb hd => ?_
    have d13 : v 13 = (Value.bool true) := hd 13 (by decide)
    have e18 := (Reg.gfr_eval0 (ops := (Reg.opsOf Try.f6 15)) (a0 := a0) (v := v) (L := [13]) 18 (by kernel_rfl)).trans i18
    have e85 := (Reg.gfr_eval (ops := (Reg.opsOf Try.f6 15)) (a0 := a0) (v := v) (L := [13]) 85 13 (by kernel_rfl) (by rw [hsz]; omega)).trans d13
    refine ⟨Reg.wanted_of rfl (by kernel_rfl) e85, ?_⟩
    generalize Reg.gfr (Reg.opsOf Try.f6 15) a0 v [13] = G at e18 ⊢
    generalize hρ : G.eval = ρ at e18
    have hρ' : G.eval = ρ := hρ
    refine Reg.go_run (Value.int IntKind.i64 e2) W ?_ ?_
    · rw [hρ']; simp [execOp, go_sem, e18]
    · exact ⟨Below.refl _ _, rfl⟩
set_option maxHeartbeats 4000000 in
set_option maxRecDepth 20000 in
theorem asks15_h16 :
    Reg.OpOK Try.prog (Reg.opsOf Try.f6 15) a0 w0 (asks15R aa bb nv mg mt LL al nn cl ss cc p1 p2 e1 e2 xc ga gb gd g11 g13 g15 g17 g20 g21 n hh dd) (fun _ _ _ _ => True) 16 := by
    refine Reg.op_ok2 (fun af => { dst := some 88, op := Op.binOp BinOp.eql 3 (Operand.tmp 86) (Operand.tmp 87) 3, type := 4, pos := "law.go:28", after := af, guard := some (13, true) }) #[{ on := 14, ground := Ground.data }, { on := 15, ground := Ground.data }, { on := 13, ground := Ground.guard }] (by kernel_rfl) [14, 15, 13] (by kernel_rfl) fun af v W hb hd => ?_
    have d13 : v 13 = (Value.bool true) := hd 13 (by decide)
    have d14 : v 14 = (Value.int IntKind.i64 e2) := hd 14 (by decide)
    have d15 : v 15 = (Value.int IntKind.i64 e2) := hd 15 (by decide)
    have e86 := (Reg.gfr_eval (ops := (Reg.opsOf Try.f6 15)) (a0 := a0) (v := v) (L := [14, 15, 13]) 86 14 (by kernel_rfl) (by rw [hsz]; omega)).trans d14
    have e87 := (Reg.gfr_eval (ops := (Reg.opsOf Try.f6 15)) (a0 := a0) (v := v) (L := [14, 15, 13]) 87 15 (by kernel_rfl) (by rw [hsz]; omega)).trans d15
    have e85 := (Reg.gfr_eval (ops := (Reg.opsOf Try.f6 15)) (a0 := a0) (v := v) (L := [14, 15, 13]) 85 13 (by kernel_rfl) (by rw [hsz]; omega)).trans d13
    refine ⟨Reg.wanted_of rfl (by kernel_rfl) e85, ?_⟩
    generalize Reg.gfr (Reg.opsOf Try.f6 15) a0 v [14, 15, 13] = G at e86 e87 ⊢
    generalize hρ : G.eval = ρ at e86 e87
    have hρ' : G.eval = ρ := hρ
    refine Reg.go_run (Value.bool true) W ?_ ?_
    · rw [hρ']; simp [execOp, go_sem, e86, e87]
    · exact ⟨Below.refl _ _, rfl⟩
set_option maxHeartbeats 4000000 in
set_option maxRecDepth 20000 in
theorem asks15_h17 :
    Reg.OpOK Try.prog (Reg.opsOf Try.f6 15) a0 w0 (asks15R aa bb nv mg mt LL al nn cl ss cc p1 p2 e1 e2 xc ga gb gd g11 g13 g15 g17 g20 g21 n hh dd) (fun _ _ _ _ => True) 17 := by
    refine Reg.op_ok2 (fun af => { dst := some 89, op := Op.pick (Operand.tmp 85) (Operand.tmp 88) (Operand.const (Value.bool false)), type := 4, pos := "law.go:28", after := af, guard := none }) #[{ on := 13, ground := Ground.data }, { on := 16, ground := Ground.data }] (by kernel_rfl) [13, 16] (by kernel_rfl) fun af v W hb hd => ?_
    have d13 : v 13 = (Value.bool true) := hd 13 (by decide)
    have d16 : v 16 = (Value.bool true) := hd 16 (by decide)
    have e85 := (Reg.gfr_eval (ops := (Reg.opsOf Try.f6 15)) (a0 := a0) (v := v) (L := [13, 16]) 85 13 (by kernel_rfl) (by rw [hsz]; omega)).trans d13
    have e88 := (Reg.gfr_eval (ops := (Reg.opsOf Try.f6 15)) (a0 := a0) (v := v) (L := [13, 16]) 88 16 (by kernel_rfl) (by rw [hsz]; omega)).trans d16
    refine ⟨Reg.wanted_none rfl, ?_⟩
    have eC : ∀ x, (Reg.gfr (Reg.opsOf Try.f6 15) a0 v [13, 16]).eval (.const x) = x := fun _ => rfl
    generalize Reg.gfr (Reg.opsOf Try.f6 15) a0 v [13, 16] = G at e85 e88 eC ⊢
    generalize hρ : G.eval = ρ at e85 e88 eC
    have hρ' : G.eval = ρ := hρ
    refine Reg.go_run (Value.bool true) W ?_ ?_
    · rw [hρ']; simp [execOp, go_sem, e85, e88, eC]
    · exact ⟨Below.refl _ _, rfl⟩
set_option maxHeartbeats 4000000 in
set_option maxRecDepth 20000 in
theorem asks15_h18 :
    Reg.OpOK Try.prog (Reg.opsOf Try.f6 15) a0 w0 (asks15R aa bb nv mg mt LL al nn cl ss cc p1 p2 e1 e2 xc ga gb gd g11 g13 g15 g17 g20 g21 n hh dd) (fun _ _ _ _ => True) 18 := by
    refine Reg.op_ok2 (fun af => { dst := some 90, op := Op.move (Operand.tmp 89), type := 4, pos := "law.go:28", after := af, guard := none }) #[{ on := 17, ground := Ground.data }, { on := 13, ground := Ground.chain }] (by kernel_rfl) [17, 13] (by kernel_rfl) fun af v W hb hd => ?_
    have d17 : v 17 = (Value.bool true) := hd 17 (by decide)
    have e89 := (Reg.gfr_eval (ops := (Reg.opsOf Try.f6 15)) (a0 := a0) (v := v) (L := [17, 13]) 89 17 (by kernel_rfl) (by rw [hsz]; omega)).trans d17
    refine ⟨Reg.wanted_none rfl, ?_⟩
    generalize Reg.gfr (Reg.opsOf Try.f6 15) a0 v [17, 13] = G at e89 ⊢
    generalize hρ : G.eval = ρ at e89
    have hρ' : G.eval = ρ := hρ
    refine Reg.go_run (Value.bool true) W ?_ ?_
    · rw [hρ']; simp [execOp, go_sem, e89]
    · exact ⟨Below.refl _ _, rfl⟩
set_option maxHeartbeats 4000000 in
set_option maxRecDepth 20000 in
theorem asks15_h19 :
    Reg.OpOK Try.prog (Reg.opsOf Try.f6 15) a0 w0 (asks15R aa bb nv mg mt LL al nn cl ss cc p1 p2 e1 e2 xc ga gb gd g11 g13 g15 g17 g20 g21 n hh dd) (fun _ _ _ _ => True) 19 := by
    refine Reg.op_ok2 (fun af => { dst := some 91, op := Op.load 24 (Operand.tmp 20), type := 24, pos := "law.go:28", after := af, guard := some (18, true) }) #[{ on := 18, ground := Ground.guard }] (by kernel_rfl) [18] (by kernel_rfl) fun af v W hb hd => ?_
    have d18 : v 18 = (Value.bool true) := hd 18 (by decide)
    have e20 := (Reg.gfr_eval0 (ops := (Reg.opsOf Try.f6 15)) (a0 := a0) (v := v) (L := [18]) 20 (by kernel_rfl)).trans i20
    have e90 := (Reg.gfr_eval (ops := (Reg.opsOf Try.f6 15)) (a0 := a0) (v := v) (L := [18]) 90 18 (by kernel_rfl) (by rw [hsz]; omega)).trans d18
    refine ⟨Reg.wanted_of rfl (by kernel_rfl) e90, ?_⟩
    generalize Reg.gfr (Reg.opsOf Try.f6 15) a0 v [18] = G at e20 ⊢
    generalize hρ : G.eval = ρ at e20
    have hρ' : G.eval = ρ := hρ
    exact fun K hK => wp_load_row 24 (.tmp 20) rfl g20 (by rw [hρ']; exact e20) 24 (vC mg) (0, 0) _ (M_g20 W hb) Try.underlying24 rfl (vec_size hmg) (hK _ _ ⟨Below.refl _ _, rfl⟩)
set_option maxHeartbeats 4000000 in
set_option maxRecDepth 20000 in
theorem asks15_h20 :
    Reg.OpOK Try.prog (Reg.opsOf Try.f6 15) a0 w0 (asks15R aa bb nv mg mt LL al nn cl ss cc p1 p2 e1 e2 xc ga gb gd g11 g13 g15 g17 g20 g21 n hh dd) (fun _ _ _ _ => True) 20 := by
    refine Reg.op_ok2 (fun af => { dst := some 92, op := Op.move (Operand.tmp 2), type := 43, pos := "law.go:28", after := af, guard := some (18, true) }) #[{ on := 18, ground := Ground.guard }] (by kernel_rfl) [18] (by kernel_rfl) fun af v W hb hd => ?_
    have d18 : v 18 = (Value.bool true) := hd 18 (by decide)
    have e2 := (Reg.gfr_eval0 (ops := (Reg.opsOf Try.f6 15)) (a0 := a0) (v := v) (L := [18]) 2 (by kernel_rfl)).trans i2
    have e90 := (Reg.gfr_eval (ops := (Reg.opsOf Try.f6 15)) (a0 := a0) (v := v) (L := [18]) 90 18 (by kernel_rfl) (by rw [hsz]; omega)).trans d18
    refine ⟨Reg.wanted_of rfl (by kernel_rfl) e90, ?_⟩
    generalize Reg.gfr (Reg.opsOf Try.f6 15) a0 v [18] = G at e2 ⊢
    generalize hρ : G.eval = ρ at e2
    have hρ' : G.eval = ρ := hρ
    refine Reg.go_run (Value.slice al nn cl) W ?_ ?_
    · rw [hρ']; simp [execOp, go_sem, e2]
    · exact ⟨Below.refl _ _, rfl⟩
set_option maxHeartbeats 4000000 in
set_option maxRecDepth 20000 in
theorem asks15_h21 :
    Reg.OpOK Try.prog (Reg.opsOf Try.f6 15) a0 w0 (asks15R aa bb nv mg mt LL al nn cl ss cc p1 p2 e1 e2 xc ga gb gd g11 g13 g15 g17 g20 g21 n hh dd) (fun _ _ _ _ => True) 21 := by
    refine Reg.op_ok2 (fun af => { dst := some 93, op := Op.call { callee := Callee.value (Operand.func 22), args := #[Operand.tmp 92], argTypes := #[43] }, type := 24, pos := "law.go:28", after := af, guard := some (18, true) }) #[{ on := 20, ground := Ground.data }, { on := 18, ground := Ground.chain }, { on := 18, ground := Ground.guard }] (by kernel_rfl) [20, 18, 18] (by kernel_rfl) fun af v W hb hd => ?_
    have d18 : v 18 = (Value.bool true) := hd 18 (by decide)
    have d20 : v 20 = (Value.slice al nn cl) := hd 20 (by decide)
    have e92 := (Reg.gfr_eval (ops := (Reg.opsOf Try.f6 15)) (a0 := a0) (v := v) (L := [20, 18, 18]) 92 20 (by kernel_rfl) (by rw [hsz]; omega)).trans d20
    have e90 := (Reg.gfr_eval (ops := (Reg.opsOf Try.f6 15)) (a0 := a0) (v := v) (L := [20, 18, 18]) 90 18 (by kernel_rfl) (by rw [hsz]; omega)).trans d18
    refine ⟨Reg.wanted_of rfl (by kernel_rfl) e90, ?_⟩
    have eF : ∀ f, (Reg.gfr (Reg.opsOf Try.f6 15) a0 v [20, 18, 18]).eval (.func f) = .func (.func f) #[] #[] := fun _ => rfl
    generalize Reg.gfr (Reg.opsOf Try.f6 15) a0 v [20, 18, 18] = G at e92 eF ⊢
    generalize hρ : G.eval = ρ at e92 eF
    have hρ' : G.eval = ρ := hρ
    refine Reg.go_call 22 #[(Value.slice al nn cl)] (by rw [hρ']; simp [execOp, go_sem, e92, eF]) ((rmerge_row al nn cl LL hL hLv hnn W (LR W hb)).mono fun e w' he => ?_)
    obtain ⟨rfl, hbb⟩ := he
    exact ⟨_, rfl, hbb, (show _ = _ from by rw [f1] <;> rfl)⟩
set_option maxHeartbeats 4000000 in
set_option maxRecDepth 20000 in
theorem asks15_h22 :
    Reg.OpOK Try.prog (Reg.opsOf Try.f6 15) a0 w0 (asks15R aa bb nv mg mt LL al nn cl ss cc p1 p2 e1 e2 xc ga gb gd g11 g13 g15 g17 g20 g21 n hh dd) (fun _ _ _ _ => True) 22 := by
    refine Reg.op_ok2 (fun af => { dst := some 94, op := Op.binOp BinOp.eql 24 (Operand.tmp 91) (Operand.tmp 93) 24, type := 4, pos := "law.go:28", after := af, guard := some (18, true) }) #[{ on := 19, ground := Ground.data }, { on := 21, ground := Ground.data }, { on := 18, ground := Ground.guard }] (by kernel_rfl) [19, 21, 18] (by kernel_rfl) fun af v W hb hd => ?_
    have d18 : v 18 = (Value.bool true) := hd 18 (by decide)
    have d19 : v 19 = (Value.agg (vC mg)) := hd 19 (by decide)
    have d21 : v 21 = (Value.agg (vC mg)) := hd 21 (by decide)
    have e91 := (Reg.gfr_eval (ops := (Reg.opsOf Try.f6 15)) (a0 := a0) (v := v) (L := [19, 21, 18]) 91 19 (by kernel_rfl) (by rw [hsz]; omega)).trans d19
    have e93 := (Reg.gfr_eval (ops := (Reg.opsOf Try.f6 15)) (a0 := a0) (v := v) (L := [19, 21, 18]) 93 21 (by kernel_rfl) (by rw [hsz]; omega)).trans d21
    have e90 := (Reg.gfr_eval (ops := (Reg.opsOf Try.f6 15)) (a0 := a0) (v := v) (L := [19, 21, 18]) 90 18 (by kernel_rfl) (by rw [hsz]; omega)).trans d18
    refine ⟨Reg.wanted_of rfl (by kernel_rfl) e90, ?_⟩
    generalize Reg.gfr (Reg.opsOf Try.f6 15) a0 v [19, 21, 18] = G at e91 e93 ⊢
    generalize hρ : G.eval = ρ at e91 e93
    have hρ' : G.eval = ρ := hρ
    refine Reg.go_run (Value.bool true) W ?_ ?_
    · rw [hρ']; simp [execOp, go_sem, e91, e93, run_eq_vec W mg mg hmg hmg]
    · exact ⟨Below.refl _ _, rfl⟩
set_option maxHeartbeats 4000000 in
set_option maxRecDepth 20000 in
theorem asks15_h23 :
    Reg.OpOK Try.prog (Reg.opsOf Try.f6 15) a0 w0 (asks15R aa bb nv mg mt LL al nn cl ss cc p1 p2 e1 e2 xc ga gb gd g11 g13 g15 g17 g20 g21 n hh dd) (fun _ _ _ _ => True) 23 := by
    refine Reg.op_ok2 (fun af => { dst := some 95, op := Op.pick (Operand.tmp 90) (Operand.tmp 94) (Operand.const (Value.bool false)), type := 4, pos := "law.go:28", after := af, guard := none }) #[{ on := 18, ground := Ground.data }, { on := 22, ground := Ground.data }] (by kernel_rfl) [18, 22] (by kernel_rfl) fun af v W hb hd => ?_
    have d18 : v 18 = (Value.bool true) := hd 18 (by decide)
    have d22 : v 22 = (Value.bool true) := hd 22 (by decide)
    have e90 := (Reg.gfr_eval (ops := (Reg.opsOf Try.f6 15)) (a0 := a0) (v := v) (L := [18, 22]) 90 18 (by kernel_rfl) (by rw [hsz]; omega)).trans d18
    have e94 := (Reg.gfr_eval (ops := (Reg.opsOf Try.f6 15)) (a0 := a0) (v := v) (L := [18, 22]) 94 22 (by kernel_rfl) (by rw [hsz]; omega)).trans d22
    refine ⟨Reg.wanted_none rfl, ?_⟩
    have eC : ∀ x, (Reg.gfr (Reg.opsOf Try.f6 15) a0 v [18, 22]).eval (.const x) = x := fun _ => rfl
    generalize Reg.gfr (Reg.opsOf Try.f6 15) a0 v [18, 22] = G at e90 e94 eC ⊢
    generalize hρ : G.eval = ρ at e90 e94 eC
    have hρ' : G.eval = ρ := hρ
    refine Reg.go_run (Value.bool true) W ?_ ?_
    · rw [hρ']; simp [execOp, go_sem, e90, e94, eC]
    · exact ⟨Below.refl _ _, rfl⟩
set_option maxHeartbeats 4000000 in
set_option maxRecDepth 20000 in
theorem asks15_h24 :
    Reg.OpOK Try.prog (Reg.opsOf Try.f6 15) a0 w0 (asks15R aa bb nv mg mt LL al nn cl ss cc p1 p2 e1 e2 xc ga gb gd g11 g13 g15 g17 g20 g21 n hh dd) (fun _ _ _ _ => True) 24 := by
    refine Reg.op_ok2 (fun af => { dst := some 96, op := Op.move (Operand.tmp 95), type := 4, pos := "law.go:28", after := af, guard := none }) #[{ on := 23, ground := Ground.data }, { on := 21, ground := Ground.chain }] (by kernel_rfl) [23, 21] (by kernel_rfl) fun af v W hb hd => ?_
    have d23 : v 23 = (Value.bool true) := hd 23 (by decide)
    have e95 := (Reg.gfr_eval (ops := (Reg.opsOf Try.f6 15)) (a0 := a0) (v := v) (L := [23, 21]) 95 23 (by kernel_rfl) (by rw [hsz]; omega)).trans d23
    refine ⟨Reg.wanted_none rfl, ?_⟩
    generalize Reg.gfr (Reg.opsOf Try.f6 15) a0 v [23, 21] = G at e95 ⊢
    generalize hρ : G.eval = ρ at e95
    have hρ' : G.eval = ρ := hρ
    refine Reg.go_run (Value.bool true) W ?_ ?_
    · rw [hρ']; simp [execOp, go_sem, e95]
    · exact ⟨Below.refl _ _, rfl⟩
set_option maxHeartbeats 4000000 in
set_option maxRecDepth 20000 in
theorem asks15_h25 :
    Reg.OpOK Try.prog (Reg.opsOf Try.f6 15) a0 w0 (asks15R aa bb nv mg mt LL al nn cl ss cc p1 p2 e1 e2 xc ga gb gd g11 g13 g15 g17 g20 g21 n hh dd) (fun _ _ _ _ => True) 25 := by
    refine Reg.op_ok2 (fun af => { dst := some 97, op := Op.load 24 (Operand.tmp 21), type := 24, pos := "law.go:28", after := af, guard := some (24, true) }) #[{ on := 24, ground := Ground.guard }] (by kernel_rfl) [24] (by kernel_rfl) fun af v W hb hd => ?_
    have d24 : v 24 = (Value.bool true) := hd 24 (by decide)
    have e21 := (Reg.gfr_eval0 (ops := (Reg.opsOf Try.f6 15)) (a0 := a0) (v := v) (L := [24]) 21 (by kernel_rfl)).trans i21
    have e96 := (Reg.gfr_eval (ops := (Reg.opsOf Try.f6 15)) (a0 := a0) (v := v) (L := [24]) 96 24 (by kernel_rfl) (by rw [hsz]; omega)).trans d24
    refine ⟨Reg.wanted_of rfl (by kernel_rfl) e96, ?_⟩
    generalize Reg.gfr (Reg.opsOf Try.f6 15) a0 v [24] = G at e21 ⊢
    generalize hρ : G.eval = ρ at e21
    have hρ' : G.eval = ρ := hρ
    exact fun K hK => wp_load_row 24 (.tmp 21) rfl g21 (by rw [hρ']; exact e21) 24 (vC mt) (0, 0) _ (M_g21 W hb) Try.underlying24 rfl (vec_size hmt) (hK _ _ ⟨Below.refl _ _, rfl⟩)
set_option maxHeartbeats 4000000 in
set_option maxRecDepth 20000 in
theorem asks15_h26 :
    Reg.OpOK Try.prog (Reg.opsOf Try.f6 15) a0 w0 (asks15R aa bb nv mg mt LL al nn cl ss cc p1 p2 e1 e2 xc ga gb gd g11 g13 g15 g17 g20 g21 n hh dd) (fun _ _ _ _ => True) 26 := by
    refine Reg.op_ok2 (fun af => { dst := some 98, op := Op.move (Operand.tmp 2), type := 43, pos := "law.go:28", after := af, guard := some (24, true) }) #[{ on := 24, ground := Ground.guard }] (by kernel_rfl) [24] (by kernel_rfl) fun af v W hb hd => ?_
    have d24 : v 24 = (Value.bool true) := hd 24 (by decide)
    have e2 := (Reg.gfr_eval0 (ops := (Reg.opsOf Try.f6 15)) (a0 := a0) (v := v) (L := [24]) 2 (by kernel_rfl)).trans i2
    have e96 := (Reg.gfr_eval (ops := (Reg.opsOf Try.f6 15)) (a0 := a0) (v := v) (L := [24]) 96 24 (by kernel_rfl) (by rw [hsz]; omega)).trans d24
    refine ⟨Reg.wanted_of rfl (by kernel_rfl) e96, ?_⟩
    generalize Reg.gfr (Reg.opsOf Try.f6 15) a0 v [24] = G at e2 ⊢
    generalize hρ : G.eval = ρ at e2
    have hρ' : G.eval = ρ := hρ
    refine Reg.go_run (Value.slice al nn cl) W ?_ ?_
    · rw [hρ']; simp [execOp, go_sem, e2]
    · exact ⟨Below.refl _ _, rfl⟩
set_option maxHeartbeats 4000000 in
set_option maxRecDepth 20000 in
theorem asks15_h27 :
    Reg.OpOK Try.prog (Reg.opsOf Try.f6 15) a0 w0 (asks15R aa bb nv mg mt LL al nn cl ss cc p1 p2 e1 e2 xc ga gb gd g11 g13 g15 g17 g20 g21 n hh dd) (fun _ _ _ _ => True) 27 := by
    refine Reg.op_ok2 (fun af => { dst := some 99, op := Op.call { callee := Callee.value (Operand.func 23), args := #[Operand.tmp 98], argTypes := #[43] }, type := 24, pos := "law.go:28", after := af, guard := some (24, true) }) #[{ on := 26, ground := Ground.data }, { on := 24, ground := Ground.chain }, { on := 24, ground := Ground.guard }] (by kernel_rfl) [26, 24, 24] (by kernel_rfl) fun af v W hb hd => ?_
    have d24 : v 24 = (Value.bool true) := hd 24 (by decide)
    have d26 : v 26 = (Value.slice al nn cl) := hd 26 (by decide)
    have e98 := (Reg.gfr_eval (ops := (Reg.opsOf Try.f6 15)) (a0 := a0) (v := v) (L := [26, 24, 24]) 98 26 (by kernel_rfl) (by rw [hsz]; omega)).trans d26
    have e96 := (Reg.gfr_eval (ops := (Reg.opsOf Try.f6 15)) (a0 := a0) (v := v) (L := [26, 24, 24]) 96 24 (by kernel_rfl) (by rw [hsz]; omega)).trans d24
    refine ⟨Reg.wanted_of rfl (by kernel_rfl) e96, ?_⟩
    have eF : ∀ f, (Reg.gfr (Reg.opsOf Try.f6 15) a0 v [26, 24, 24]).eval (.func f) = .func (.func f) #[] #[] := fun _ => rfl
    generalize Reg.gfr (Reg.opsOf Try.f6 15) a0 v [26, 24, 24] = G at e98 eF ⊢
    generalize hρ : G.eval = ρ at e98 eF
    have hρ' : G.eval = ρ := hρ
    refine Reg.go_call 23 #[(Value.slice al nn cl)] (by rw [hρ']; simp [execOp, go_sem, e98, eF]) ((rmeet_row al nn cl LL hL hLv hnn W (LR W hb)).mono fun e w' he => ?_)
    obtain ⟨rfl, hbb⟩ := he
    exact ⟨_, rfl, hbb, (show _ = _ from by rw [f2] <;> rfl)⟩
set_option maxHeartbeats 4000000 in
set_option maxRecDepth 20000 in
theorem asks15_h28 :
    Reg.OpOK Try.prog (Reg.opsOf Try.f6 15) a0 w0 (asks15R aa bb nv mg mt LL al nn cl ss cc p1 p2 e1 e2 xc ga gb gd g11 g13 g15 g17 g20 g21 n hh dd) (fun _ _ _ _ => True) 28 := by
    refine Reg.op_ok2 (fun af => { dst := some 100, op := Op.binOp BinOp.eql 24 (Operand.tmp 97) (Operand.tmp 99) 24, type := 4, pos := "law.go:28", after := af, guard := some (24, true) }) #[{ on := 25, ground := Ground.data }, { on := 27, ground := Ground.data }, { on := 24, ground := Ground.guard }] (by kernel_rfl) [25, 27, 24] (by kernel_rfl) fun af v W hb hd => ?_
    have d24 : v 24 = (Value.bool true) := hd 24 (by decide)
    have d25 : v 25 = (Value.agg (vC mt)) := hd 25 (by decide)
    have d27 : v 27 = (Value.agg (vC mt)) := hd 27 (by decide)
    have e97 := (Reg.gfr_eval (ops := (Reg.opsOf Try.f6 15)) (a0 := a0) (v := v) (L := [25, 27, 24]) 97 25 (by kernel_rfl) (by rw [hsz]; omega)).trans d25
    have e99 := (Reg.gfr_eval (ops := (Reg.opsOf Try.f6 15)) (a0 := a0) (v := v) (L := [25, 27, 24]) 99 27 (by kernel_rfl) (by rw [hsz]; omega)).trans d27
    have e96 := (Reg.gfr_eval (ops := (Reg.opsOf Try.f6 15)) (a0 := a0) (v := v) (L := [25, 27, 24]) 96 24 (by kernel_rfl) (by rw [hsz]; omega)).trans d24
    refine ⟨Reg.wanted_of rfl (by kernel_rfl) e96, ?_⟩
    generalize Reg.gfr (Reg.opsOf Try.f6 15) a0 v [25, 27, 24] = G at e97 e99 ⊢
    generalize hρ : G.eval = ρ at e97 e99
    have hρ' : G.eval = ρ := hρ
    refine Reg.go_run (Value.bool true) W ?_ ?_
    · rw [hρ']; simp [execOp, go_sem, e97, e99, run_eq_vec W mt mt hmt hmt]
    · exact ⟨Below.refl _ _, rfl⟩
set_option maxHeartbeats 4000000 in
set_option maxRecDepth 20000 in
theorem asks15_h29 :
    Reg.OpOK Try.prog (Reg.opsOf Try.f6 15) a0 w0 (asks15R aa bb nv mg mt LL al nn cl ss cc p1 p2 e1 e2 xc ga gb gd g11 g13 g15 g17 g20 g21 n hh dd) (fun _ _ _ _ => True) 29 := by
    refine Reg.op_ok2 (fun af => { dst := some 101, op := Op.pick (Operand.tmp 96) (Operand.tmp 100) (Operand.const (Value.bool false)), type := 4, pos := "law.go:28", after := af, guard := none }) #[{ on := 24, ground := Ground.data }, { on := 28, ground := Ground.data }] (by kernel_rfl) [24, 28] (by kernel_rfl) fun af v W hb hd => ?_
    have d24 : v 24 = (Value.bool true) := hd 24 (by decide)
    have d28 : v 28 = (Value.bool true) := hd 28 (by decide)
    have e96 := (Reg.gfr_eval (ops := (Reg.opsOf Try.f6 15)) (a0 := a0) (v := v) (L := [24, 28]) 96 24 (by kernel_rfl) (by rw [hsz]; omega)).trans d24
    have e100 := (Reg.gfr_eval (ops := (Reg.opsOf Try.f6 15)) (a0 := a0) (v := v) (L := [24, 28]) 100 28 (by kernel_rfl) (by rw [hsz]; omega)).trans d28
    refine ⟨Reg.wanted_none rfl, ?_⟩
    have eC : ∀ x, (Reg.gfr (Reg.opsOf Try.f6 15) a0 v [24, 28]).eval (.const x) = x := fun _ => rfl
    generalize Reg.gfr (Reg.opsOf Try.f6 15) a0 v [24, 28] = G at e96 e100 eC ⊢
    generalize hρ : G.eval = ρ at e96 e100 eC
    have hρ' : G.eval = ρ := hρ
    refine Reg.go_run (Value.bool true) W ?_ ?_
    · rw [hρ']; simp [execOp, go_sem, e96, e100, eC]
    · exact ⟨Below.refl _ _, rfl⟩
set_option maxHeartbeats 4000000 in
set_option maxRecDepth 20000 in
theorem asks15_h30 :
    Reg.OpOK Try.prog (Reg.opsOf Try.f6 15) a0 w0 (asks15R aa bb nv mg mt LL al nn cl ss cc p1 p2 e1 e2 xc ga gb gd g11 g13 g15 g17 g20 g21 n hh dd) (fun _ _ _ _ => True) 30 := by
    refine Reg.op_ok2 (fun af => { dst := some 102, op := Op.move (Operand.tmp 101), type := 4, pos := "law.go:28", after := af, guard := none }) #[{ on := 29, ground := Ground.data }, { on := 27, ground := Ground.chain }] (by kernel_rfl) [29, 27] (by kernel_rfl) fun af v W hb hd => ?_
    have d29 : v 29 = (Value.bool true) := hd 29 (by decide)
    have e101 := (Reg.gfr_eval (ops := (Reg.opsOf Try.f6 15)) (a0 := a0) (v := v) (L := [29, 27]) 101 29 (by kernel_rfl) (by rw [hsz]; omega)).trans d29
    refine ⟨Reg.wanted_none rfl, ?_⟩
    generalize Reg.gfr (Reg.opsOf Try.f6 15) a0 v [29, 27] = G at e101 ⊢
    generalize hρ : G.eval = ρ at e101
    have hρ' : G.eval = ρ := hρ
    refine Reg.go_run (Value.bool true) W ?_ ?_
    · rw [hρ']; simp [execOp, go_sem, e101]
    · exact ⟨Below.refl _ _, rfl⟩
set_option maxHeartbeats 4000000 in
set_option maxRecDepth 20000 in
theorem asks15_h31 :
    Reg.OpOK Try.prog (Reg.opsOf Try.f6 15) a0 w0 (asks15R aa bb nv mg mt LL al nn cl ss cc p1 p2 e1 e2 xc ga gb gd g11 g13 g15 g17 g20 g21 n hh dd) (fun _ _ _ _ => True) 31 := by
    refine Reg.op_ok2 (fun af => { dst := some 103, op := Op.load 24 (Operand.tmp 5), type := 24, pos := "law.go:28", after := af, guard := some (30, true) }) #[{ on := 30, ground := Ground.guard }] (by kernel_rfl) [30] (by kernel_rfl) fun af v W hb hd => ?_
    have d30 : v 30 = (Value.bool true) := hd 30 (by decide)
    have e5 := (Reg.gfr_eval0 (ops := (Reg.opsOf Try.f6 15)) (a0 := a0) (v := v) (L := [30]) 5 (by kernel_rfl)).trans i5
    have e102 := (Reg.gfr_eval (ops := (Reg.opsOf Try.f6 15)) (a0 := a0) (v := v) (L := [30]) 102 30 (by kernel_rfl) (by rw [hsz]; omega)).trans d30
    refine ⟨Reg.wanted_of rfl (by kernel_rfl) e102, ?_⟩
    generalize Reg.gfr (Reg.opsOf Try.f6 15) a0 v [30] = G at e5 ⊢
    generalize hρ : G.eval = ρ at e5
    have hρ' : G.eval = ρ := hρ
    exact fun K hK => wp_load_row 24 (.tmp 5) rfl ga (by rw [hρ']; exact e5) 24 (vC aa) (0, 0) _ (M_ga W hb) Try.underlying24 rfl (vec_size ha) (hK _ _ ⟨Below.refl _ _, rfl⟩)
set_option maxHeartbeats 4000000 in
set_option maxRecDepth 20000 in
theorem asks15_h32 :
    Reg.OpOK Try.prog (Reg.opsOf Try.f6 15) a0 w0 (asks15R aa bb nv mg mt LL al nn cl ss cc p1 p2 e1 e2 xc ga gb gd g11 g13 g15 g17 g20 g21 n hh dd) (fun _ _ _ _ => True) 32 := by
    refine Reg.op_ok2 (fun af => { dst := some 104, op := Op.load 35 (Operand.tmp 8), type := 35, pos := "law.go:28", after := af, guard := some (30, true) }) #[{ on := 30, ground := Ground.guard }] (by kernel_rfl) [30] (by kernel_rfl) fun af v W hb hd => ?_
    have d30 : v 30 = (Value.bool true) := hd 30 (by decide)
    have e8 := (Reg.gfr_eval0 (ops := (Reg.opsOf Try.f6 15)) (a0 := a0) (v := v) (L := [30]) 8 (by kernel_rfl)).trans i8
    have e102 := (Reg.gfr_eval (ops := (Reg.opsOf Try.f6 15)) (a0 := a0) (v := v) (L := [30]) 102 30 (by kernel_rfl) (by rw [hsz]; omega)).trans d30
    refine ⟨Reg.wanted_of rfl (by kernel_rfl) e102, ?_⟩
    generalize Reg.gfr (Reg.opsOf Try.f6 15) a0 v [30] = G at e8 ⊢
    generalize hρ : G.eval = ρ at e8
    have hρ' : G.eval = ρ := hρ
    exact fun K hK => wp_load_row 35 (.tmp 8) rfl gd (by rw [hρ']; exact e8) 35 (dC ss cc) (0, 0) _ (M_gd W hb) Try.underlying35 rfl size_dot (hK _ _ ⟨Below.refl _ _, rfl⟩)
set_option maxHeartbeats 4000000 in
set_option maxRecDepth 20000 in
theorem asks15_h33 :
    Reg.OpOK Try.prog (Reg.opsOf Try.f6 15) a0 w0 (asks15R aa bb nv mg mt LL al nn cl ss cc p1 p2 e1 e2 xc ga gb gd g11 g13 g15 g17 g20 g21 n hh dd) (fun _ _ _ _ => True) 33 := by
    refine Reg.op_ok2 (fun af => { dst := some 105, op := Op.call { callee := Callee.value (Operand.func 18), args := #[Operand.tmp 103, Operand.tmp 104], argTypes := #[24, 35] }, type := 4, pos := "law.go:28", after := af, guard := some (30, true) }) #[{ on := 31, ground := Ground.data }, { on := 32, ground := Ground.data }, { on := 30, ground := Ground.chain }, { on := 30, ground := Ground.guard }] (by kernel_rfl) [31, 32, 30, 30] (by kernel_rfl) fun af v W hb hd => ?_
    have d30 : v 30 = (Value.bool true) := hd 30 (by decide)
    have d31 : v 31 = (Value.agg (vC aa)) := hd 31 (by decide)
    have d32 : v 32 = (Value.agg (dC ss cc)) := hd 32 (by decide)
    have e103 := (Reg.gfr_eval (ops := (Reg.opsOf Try.f6 15)) (a0 := a0) (v := v) (L := [31, 32, 30, 30]) 103 31 (by kernel_rfl) (by rw [hsz]; omega)).trans d31
    have e104 := (Reg.gfr_eval (ops := (Reg.opsOf Try.f6 15)) (a0 := a0) (v := v) (L := [31, 32, 30, 30]) 104 32 (by kernel_rfl) (by rw [hsz]; omega)).trans d32
    have e102 := (Reg.gfr_eval (ops := (Reg.opsOf Try.f6 15)) (a0 := a0) (v := v) (L := [31, 32, 30, 30]) 102 30 (by kernel_rfl) (by rw [hsz]; omega)).trans d30
    refine ⟨Reg.wanted_of rfl (by kernel_rfl) e102, ?_⟩
    have eF : ∀ f, (Reg.gfr (Reg.opsOf Try.f6 15) a0 v [31, 32, 30, 30]).eval (.func f) = .func (.func f) #[] #[] := fun _ => rfl
    generalize Reg.gfr (Reg.opsOf Try.f6 15) a0 v [31, 32, 30, 30] = G at e103 e104 eF ⊢
    generalize hρ : G.eval = ρ at e103 e104 eF
    have hρ' : G.eval = ρ := hρ
    refine Reg.go_call 18 #[(Value.agg (vC aa)), (Value.agg (dC ss cc))] (by rw [hρ']; simp [execOp, go_sem, e103, e104, eF]) ((has_any aa ha sa ss cc W).mono fun e w' he => ?_)
    obtain ⟨rfl, hbb⟩ := he
    exact ⟨_, rfl, hbb, (show _ = _ from by rw [f3] <;> rfl)⟩
set_option maxHeartbeats 4000000 in
set_option maxRecDepth 20000 in
theorem asks15_h34 :
    Reg.OpOK Try.prog (Reg.opsOf Try.f6 15) a0 w0 (asks15R aa bb nv mg mt LL al nn cl ss cc p1 p2 e1 e2 xc ga gb gd g11 g13 g15 g17 g20 g21 n hh dd) (fun _ _ _ _ => True) 34 := by
    refine Reg.op_ok2 (fun af => { dst := some 106, op := Op.load 24 (Operand.tmp 5), type := 24, pos := "law.go:28", after := af, guard := some (30, true) }) #[{ on := 30, ground := Ground.guard }] (by kernel_rfl) [30] (by kernel_rfl) fun af v W hb hd => ?_
    have d30 : v 30 = (Value.bool true) := hd 30 (by decide)
    have e5 := (Reg.gfr_eval0 (ops := (Reg.opsOf Try.f6 15)) (a0 := a0) (v := v) (L := [30]) 5 (by kernel_rfl)).trans i5
    have e102 := (Reg.gfr_eval (ops := (Reg.opsOf Try.f6 15)) (a0 := a0) (v := v) (L := [30]) 102 30 (by kernel_rfl) (by rw [hsz]; omega)).trans d30
    refine ⟨Reg.wanted_of rfl (by kernel_rfl) e102, ?_⟩
    generalize Reg.gfr (Reg.opsOf Try.f6 15) a0 v [30] = G at e5 ⊢
    generalize hρ : G.eval = ρ at e5
    have hρ' : G.eval = ρ := hρ
    exact fun K hK => wp_load_row 24 (.tmp 5) rfl ga (by rw [hρ']; exact e5) 24 (vC aa) (0, 0) _ (M_ga W hb) Try.underlying24 rfl (vec_size ha) (hK _ _ ⟨Below.refl _ _, rfl⟩)
set_option maxHeartbeats 4000000 in
set_option maxRecDepth 20000 in
theorem asks15_h35 :
    Reg.OpOK Try.prog (Reg.opsOf Try.f6 15) a0 w0 (asks15R aa bb nv mg mt LL al nn cl ss cc p1 p2 e1 e2 xc ga gb gd g11 g13 g15 g17 g20 g21 n hh dd) (fun _ _ _ _ => True) 35 := by
    refine Reg.op_ok2 (fun af => { dst := some 107, op := Op.load 35 (Operand.tmp 8), type := 35, pos := "law.go:28", after := af, guard := some (30, true) }) #[{ on := 30, ground := Ground.guard }] (by kernel_rfl) [30] (by kernel_rfl) fun af v W hb hd => ?_
    have d30 : v 30 = (Value.bool true) := hd 30 (by decide)
    have e8 := (Reg.gfr_eval0 (ops := (Reg.opsOf Try.f6 15)) (a0 := a0) (v := v) (L := [30]) 8 (by kernel_rfl)).trans i8
    have e102 := (Reg.gfr_eval (ops := (Reg.opsOf Try.f6 15)) (a0 := a0) (v := v) (L := [30]) 102 30 (by kernel_rfl) (by rw [hsz]; omega)).trans d30
    refine ⟨Reg.wanted_of rfl (by kernel_rfl) e102, ?_⟩
    generalize Reg.gfr (Reg.opsOf Try.f6 15) a0 v [30] = G at e8 ⊢
    generalize hρ : G.eval = ρ at e8
    have hρ' : G.eval = ρ := hρ
    exact fun K hK => wp_load_row 35 (.tmp 8) rfl gd (by rw [hρ']; exact e8) 35 (dC ss cc) (0, 0) _ (M_gd W hb) Try.underlying35 rfl size_dot (hK _ _ ⟨Below.refl _ _, rfl⟩)
set_option maxHeartbeats 4000000 in
set_option maxRecDepth 20000 in
theorem asks15_h36 :
    Reg.OpOK Try.prog (Reg.opsOf Try.f6 15) a0 w0 (asks15R aa bb nv mg mt LL al nn cl ss cc p1 p2 e1 e2 xc ga gb gd g11 g13 g15 g17 g20 g21 n hh dd) (fun _ _ _ _ => True) 36 := by
    refine Reg.op_ok2 (fun af => { dst := some 108, op := Op.call { callee := Callee.value (Operand.func 24), args := #[Operand.tmp 106, Operand.tmp 107], argTypes := #[24, 35] }, type := 4, pos := "law.go:28", after := af, guard := some (30, true) }) #[{ on := 34, ground := Ground.data }, { on := 35, ground := Ground.data }, { on := 33, ground := Ground.chain }, { on := 30, ground := Ground.guard }] (by kernel_rfl) [34, 35, 33, 30] (by kernel_rfl) fun af v W hb hd => ?_
    have d30 : v 30 = (Value.bool true) := hd 30 (by decide)
    have d34 : v 34 = (Value.agg (vC aa)) := hd 34 (by decide)
    have d35 : v 35 = (Value.agg (dC ss cc)) := hd 35 (by decide)
    have e106 := (Reg.gfr_eval (ops := (Reg.opsOf Try.f6 15)) (a0 := a0) (v := v) (L := [34, 35, 33, 30]) 106 34 (by kernel_rfl) (by rw [hsz]; omega)).trans d34
    have e107 := (Reg.gfr_eval (ops := (Reg.opsOf Try.f6 15)) (a0 := a0) (v := v) (L := [34, 35, 33, 30]) 107 35 (by kernel_rfl) (by rw [hsz]; omega)).trans d35
    have e102 := (Reg.gfr_eval (ops := (Reg.opsOf Try.f6 15)) (a0 := a0) (v := v) (L := [34, 35, 33, 30]) 102 30 (by kernel_rfl) (by rw [hsz]; omega)).trans d30
    refine ⟨Reg.wanted_of rfl (by kernel_rfl) e102, ?_⟩
    have eF : ∀ f, (Reg.gfr (Reg.opsOf Try.f6 15) a0 v [34, 35, 33, 30]).eval (.func f) = .func (.func f) #[] #[] := fun _ => rfl
    generalize Reg.gfr (Reg.opsOf Try.f6 15) a0 v [34, 35, 33, 30] = G at e106 e107 eF ⊢
    generalize hρ : G.eval = ρ at e106 e107 eF
    have hρ' : G.eval = ρ := hρ
    refine Reg.go_call 24 #[(Value.agg (vC aa)), (Value.agg (dC ss cc))] (by rw [hρ']; simp [execOp, go_sem, e106, e107, eF]) ((rhas_any aa ha sa ss cc W).mono fun e w' he => ?_)
    obtain ⟨rfl, hbb⟩ := he
    exact ⟨_, rfl, hbb, (show _ = _ from by rw [f3] <;> rfl)⟩
set_option maxHeartbeats 4000000 in
set_option maxRecDepth 20000 in
theorem asks15_h37 :
    Reg.OpOK Try.prog (Reg.opsOf Try.f6 15) a0 w0 (asks15R aa bb nv mg mt LL al nn cl ss cc p1 p2 e1 e2 xc ga gb gd g11 g13 g15 g17 g20 g21 n hh dd) (fun _ _ _ _ => True) 37 := by
    refine Reg.op_ok2 (fun af => { dst := some 109, op := Op.binOp BinOp.eql 4 (Operand.tmp 105) (Operand.tmp 108) 4, type := 4, pos := "law.go:28", after := af, guard := some (30, true) }) #[{ on := 33, ground := Ground.data }, { on := 36, ground := Ground.data }, { on := 30, ground := Ground.guard }] (by kernel_rfl) [33, 36, 30] (by kernel_rfl) fun af v W hb hd => ?_
    have d30 : v 30 = (Value.bool true) := hd 30 (by decide)
    have d33 : v 33 = (Value.bool hh) := hd 33 (by decide)
    have d36 : v 36 = (Value.bool hh) := hd 36 (by decide)
    have e105 := (Reg.gfr_eval (ops := (Reg.opsOf Try.f6 15)) (a0 := a0) (v := v) (L := [33, 36, 30]) 105 33 (by kernel_rfl) (by rw [hsz]; omega)).trans d33
    have e108 := (Reg.gfr_eval (ops := (Reg.opsOf Try.f6 15)) (a0 := a0) (v := v) (L := [33, 36, 30]) 108 36 (by kernel_rfl) (by rw [hsz]; omega)).trans d36
    have e102 := (Reg.gfr_eval (ops := (Reg.opsOf Try.f6 15)) (a0 := a0) (v := v) (L := [33, 36, 30]) 102 30 (by kernel_rfl) (by rw [hsz]; omega)).trans d30
    refine ⟨Reg.wanted_of rfl (by kernel_rfl) e102, ?_⟩
    generalize Reg.gfr (Reg.opsOf Try.f6 15) a0 v [33, 36, 30] = G at e105 e108 ⊢
    generalize hρ : G.eval = ρ at e105 e108
    have hρ' : G.eval = ρ := hρ
    refine Reg.go_run (Value.bool true) W ?_ ?_
    · rw [hρ']; simp [execOp, go_sem, e105, e108]
    · exact ⟨Below.refl _ _, rfl⟩
set_option maxHeartbeats 4000000 in
set_option maxRecDepth 20000 in
theorem asks15_h38 :
    Reg.OpOK Try.prog (Reg.opsOf Try.f6 15) a0 w0 (asks15R aa bb nv mg mt LL al nn cl ss cc p1 p2 e1 e2 xc ga gb gd g11 g13 g15 g17 g20 g21 n hh dd) (fun _ _ _ _ => True) 38 := by
    refine Reg.op_ok2 (fun af => { dst := some 110, op := Op.pick (Operand.tmp 102) (Operand.tmp 109) (Operand.const (Value.bool false)), type := 4, pos := "law.go:28", after := af, guard := none }) #[{ on := 30, ground := Ground.data }, { on := 37, ground := Ground.data }] (by kernel_rfl) [30, 37] (by kernel_rfl) fun af v W hb hd => ?_
    have d30 : v 30 = (Value.bool true) := hd 30 (by decide)
    have d37 : v 37 = (Value.bool true) := hd 37 (by decide)
    have e102 := (Reg.gfr_eval (ops := (Reg.opsOf Try.f6 15)) (a0 := a0) (v := v) (L := [30, 37]) 102 30 (by kernel_rfl) (by rw [hsz]; omega)).trans d30
    have e109 := (Reg.gfr_eval (ops := (Reg.opsOf Try.f6 15)) (a0 := a0) (v := v) (L := [30, 37]) 109 37 (by kernel_rfl) (by rw [hsz]; omega)).trans d37
    refine ⟨Reg.wanted_none rfl, ?_⟩
    have eC : ∀ x, (Reg.gfr (Reg.opsOf Try.f6 15) a0 v [30, 37]).eval (.const x) = x := fun _ => rfl
    generalize Reg.gfr (Reg.opsOf Try.f6 15) a0 v [30, 37] = G at e102 e109 eC ⊢
    generalize hρ : G.eval = ρ at e102 e109 eC
    have hρ' : G.eval = ρ := hρ
    refine Reg.go_run (Value.bool true) W ?_ ?_
    · rw [hρ']; simp [execOp, go_sem, e102, e109, eC]
    · exact ⟨Below.refl _ _, rfl⟩
set_option maxHeartbeats 4000000 in
set_option maxRecDepth 20000 in
theorem asks15_h39 :
    Reg.OpOK Try.prog (Reg.opsOf Try.f6 15) a0 w0 (asks15R aa bb nv mg mt LL al nn cl ss cc p1 p2 e1 e2 xc ga gb gd g11 g13 g15 g17 g20 g21 n hh dd) (fun _ _ _ _ => True) 39 := by
    refine Reg.op_ok2 (fun af => { dst := some 111, op := Op.move (Operand.tmp 110), type := 4, pos := "law.go:28", after := af, guard := none }) #[{ on := 38, ground := Ground.data }, { on := 36, ground := Ground.chain }] (by kernel_rfl) [38, 36] (by kernel_rfl) fun af v W hb hd => ?_
    have d38 : v 38 = (Value.bool true) := hd 38 (by decide)
    have e110 := (Reg.gfr_eval (ops := (Reg.opsOf Try.f6 15)) (a0 := a0) (v := v) (L := [38, 36]) 110 38 (by kernel_rfl) (by rw [hsz]; omega)).trans d38
    refine ⟨Reg.wanted_none rfl, ?_⟩
    generalize Reg.gfr (Reg.opsOf Try.f6 15) a0 v [38, 36] = G at e110 ⊢
    generalize hρ : G.eval = ρ at e110
    have hρ' : G.eval = ρ := hρ
    refine Reg.go_run (Value.bool true) W ?_ ?_
    · rw [hρ']; simp [execOp, go_sem, e110]
    · exact ⟨Below.refl _ _, rfl⟩
set_option maxHeartbeats 4000000 in
set_option maxRecDepth 20000 in
theorem asks15_h40 :
    Reg.OpOK Try.prog (Reg.opsOf Try.f6 15) a0 w0 (asks15R aa bb nv mg mt LL al nn cl ss cc p1 p2 e1 e2 xc ga gb gd g11 g13 g15 g17 g20 g21 n hh dd) (fun _ _ _ _ => True) 40 := by
    refine Reg.op_ok2 (fun af => { dst := some 112, op := Op.load 24 (Operand.tmp 5), type := 24, pos := "law.go:28", after := af, guard := some (39, true) }) #[{ on := 39, ground := Ground.guard }] (by kernel_rfl) [39] (by kernel_rfl) fun af v W hb hd => ?_
    have d39 : v 39 = (Value.bool true) := hd 39 (by decide)
    have e5 := (Reg.gfr_eval0 (ops := (Reg.opsOf Try.f6 15)) (a0 := a0) (v := v) (L := [39]) 5 (by kernel_rfl)).trans i5
    have e111 := (Reg.gfr_eval (ops := (Reg.opsOf Try.f6 15)) (a0 := a0) (v := v) (L := [39]) 111 39 (by kernel_rfl) (by rw [hsz]; omega)).trans d39
    refine ⟨Reg.wanted_of rfl (by kernel_rfl) e111, ?_⟩
    generalize Reg.gfr (Reg.opsOf Try.f6 15) a0 v [39] = G at e5 ⊢
    generalize hρ : G.eval = ρ at e5
    have hρ' : G.eval = ρ := hρ
    exact fun K hK => wp_load_row 24 (.tmp 5) rfl ga (by rw [hρ']; exact e5) 24 (vC aa) (0, 0) _ (M_ga W hb) Try.underlying24 rfl (vec_size ha) (hK _ _ ⟨Below.refl _ _, rfl⟩)
set_option maxHeartbeats 4000000 in
set_option maxRecDepth 20000 in
theorem asks15_h41 :
    Reg.OpOK Try.prog (Reg.opsOf Try.f6 15) a0 w0 (asks15R aa bb nv mg mt LL al nn cl ss cc p1 p2 e1 e2 xc ga gb gd g11 g13 g15 g17 g20 g21 n hh dd) (fun _ _ _ _ => True) 41 := by
    refine Reg.op_ok2 (fun af => { dst := some 113, op := Op.load 24 (Operand.tmp 6), type := 24, pos := "law.go:28", after := af, guard := some (39, true) }) #[{ on := 39, ground := Ground.guard }] (by kernel_rfl) [39] (by kernel_rfl) fun af v W hb hd => ?_
    have d39 : v 39 = (Value.bool true) := hd 39 (by decide)
    have e6 := (Reg.gfr_eval0 (ops := (Reg.opsOf Try.f6 15)) (a0 := a0) (v := v) (L := [39]) 6 (by kernel_rfl)).trans i6
    have e111 := (Reg.gfr_eval (ops := (Reg.opsOf Try.f6 15)) (a0 := a0) (v := v) (L := [39]) 111 39 (by kernel_rfl) (by rw [hsz]; omega)).trans d39
    refine ⟨Reg.wanted_of rfl (by kernel_rfl) e111, ?_⟩
    generalize Reg.gfr (Reg.opsOf Try.f6 15) a0 v [39] = G at e6 ⊢
    generalize hρ : G.eval = ρ at e6
    have hρ' : G.eval = ρ := hρ
    exact fun K hK => wp_load_row 24 (.tmp 6) rfl gb (by rw [hρ']; exact e6) 24 (vC bb) (0, 0) _ (M_gb W hb) Try.underlying24 rfl (vec_size hb') (hK _ _ ⟨Below.refl _ _, rfl⟩)
set_option maxHeartbeats 4000000 in
set_option maxRecDepth 20000 in
theorem asks15_h42 :
    Reg.OpOK Try.prog (Reg.opsOf Try.f6 15) a0 w0 (asks15R aa bb nv mg mt LL al nn cl ss cc p1 p2 e1 e2 xc ga gb gd g11 g13 g15 g17 g20 g21 n hh dd) (fun _ _ _ _ => True) 42 := by
    refine Reg.op_ok2 (fun af => { dst := some 114, op := Op.call { callee := Callee.value (Operand.func 13), args := #[Operand.tmp 112, Operand.tmp 113], argTypes := #[24, 24] }, type := 4, pos := "law.go:28", after := af, guard := some (39, true) }) #[{ on := 40, ground := Ground.data }, { on := 41, ground := Ground.data }, { on := 39, ground := Ground.chain }, { on := 39, ground := Ground.guard }] (by kernel_rfl) [40, 41, 39, 39] (by kernel_rfl) fun af v W hb hd => ?_
    have d39 : v 39 = (Value.bool true) := hd 39 (by decide)
    have d40 : v 40 = (Value.agg (vC aa)) := hd 40 (by decide)
    have d41 : v 41 = (Value.agg (vC bb)) := hd 41 (by decide)
    have e112 := (Reg.gfr_eval (ops := (Reg.opsOf Try.f6 15)) (a0 := a0) (v := v) (L := [40, 41, 39, 39]) 112 40 (by kernel_rfl) (by rw [hsz]; omega)).trans d40
    have e113 := (Reg.gfr_eval (ops := (Reg.opsOf Try.f6 15)) (a0 := a0) (v := v) (L := [40, 41, 39, 39]) 113 41 (by kernel_rfl) (by rw [hsz]; omega)).trans d41
    have e111 := (Reg.gfr_eval (ops := (Reg.opsOf Try.f6 15)) (a0 := a0) (v := v) (L := [40, 41, 39, 39]) 111 39 (by kernel_rfl) (by rw [hsz]; omega)).trans d39
    refine ⟨Reg.wanted_of rfl (by kernel_rfl) e111, ?_⟩
    have eF : ∀ f, (Reg.gfr (Reg.opsOf Try.f6 15) a0 v [40, 41, 39, 39]).eval (.func f) = .func (.func f) #[] #[] := fun _ => rfl
    generalize Reg.gfr (Reg.opsOf Try.f6 15) a0 v [40, 41, 39, 39] = G at e112 e113 eF ⊢
    generalize hρ : G.eval = ρ at e112 e113 eF
    have hρ' : G.eval = ρ := hρ
    refine Reg.go_call 13 #[(Value.agg (vC aa)), (Value.agg (vC bb))] (by rw [hρ']; simp [execOp, go_sem, e112, e113, eF]) ((atmost_any aa bb ha hb' W).mono fun e w' he => ?_)
    obtain ⟨rfl, hbb⟩ := he
    exact ⟨_, rfl, hbb, (show _ = _ from by rw [f4] <;> rfl)⟩
set_option maxHeartbeats 4000000 in
set_option maxRecDepth 20000 in
theorem asks15_h43 :
    Reg.OpOK Try.prog (Reg.opsOf Try.f6 15) a0 w0 (asks15R aa bb nv mg mt LL al nn cl ss cc p1 p2 e1 e2 xc ga gb gd g11 g13 g15 g17 g20 g21 n hh dd) (fun _ _ _ _ => True) 43 := by
    refine Reg.op_ok2 (fun af => { dst := some 115, op := Op.load 24 (Operand.tmp 5), type := 24, pos := "law.go:28", after := af, guard := some (39, true) }) #[{ on := 39, ground := Ground.guard }] (by kernel_rfl) [39] (by kernel_rfl) fun af v W hb hd => ?_
    have d39 : v 39 = (Value.bool true) := hd 39 (by decide)
    have e5 := (Reg.gfr_eval0 (ops := (Reg.opsOf Try.f6 15)) (a0 := a0) (v := v) (L := [39]) 5 (by kernel_rfl)).trans i5
    have e111 := (Reg.gfr_eval (ops := (Reg.opsOf Try.f6 15)) (a0 := a0) (v := v) (L := [39]) 111 39 (by kernel_rfl) (by rw [hsz]; omega)).trans d39
    refine ⟨Reg.wanted_of rfl (by kernel_rfl) e111, ?_⟩
    generalize Reg.gfr (Reg.opsOf Try.f6 15) a0 v [39] = G at e5 ⊢
    generalize hρ : G.eval = ρ at e5
    have hρ' : G.eval = ρ := hρ
    exact fun K hK => wp_load_row 24 (.tmp 5) rfl ga (by rw [hρ']; exact e5) 24 (vC aa) (0, 0) _ (M_ga W hb) Try.underlying24 rfl (vec_size ha) (hK _ _ ⟨Below.refl _ _, rfl⟩)
set_option maxHeartbeats 4000000 in
set_option maxRecDepth 20000 in
theorem asks15_h44 :
    Reg.OpOK Try.prog (Reg.opsOf Try.f6 15) a0 w0 (asks15R aa bb nv mg mt LL al nn cl ss cc p1 p2 e1 e2 xc ga gb gd g11 g13 g15 g17 g20 g21 n hh dd) (fun _ _ _ _ => True) 44 := by
    refine Reg.op_ok2 (fun af => { dst := some 116, op := Op.load 24 (Operand.tmp 6), type := 24, pos := "law.go:28", after := af, guard := some (39, true) }) #[{ on := 39, ground := Ground.guard }] (by kernel_rfl) [39] (by kernel_rfl) fun af v W hb hd => ?_
    have d39 : v 39 = (Value.bool true) := hd 39 (by decide)
    have e6 := (Reg.gfr_eval0 (ops := (Reg.opsOf Try.f6 15)) (a0 := a0) (v := v) (L := [39]) 6 (by kernel_rfl)).trans i6
    have e111 := (Reg.gfr_eval (ops := (Reg.opsOf Try.f6 15)) (a0 := a0) (v := v) (L := [39]) 111 39 (by kernel_rfl) (by rw [hsz]; omega)).trans d39
    refine ⟨Reg.wanted_of rfl (by kernel_rfl) e111, ?_⟩
    generalize Reg.gfr (Reg.opsOf Try.f6 15) a0 v [39] = G at e6 ⊢
    generalize hρ : G.eval = ρ at e6
    have hρ' : G.eval = ρ := hρ
    exact fun K hK => wp_load_row 24 (.tmp 6) rfl gb (by rw [hρ']; exact e6) 24 (vC bb) (0, 0) _ (M_gb W hb) Try.underlying24 rfl (vec_size hb') (hK _ _ ⟨Below.refl _ _, rfl⟩)
set_option maxHeartbeats 4000000 in
set_option maxRecDepth 20000 in
theorem asks15_h45 :
    Reg.OpOK Try.prog (Reg.opsOf Try.f6 15) a0 w0 (asks15R aa bb nv mg mt LL al nn cl ss cc p1 p2 e1 e2 xc ga gb gd g11 g13 g15 g17 g20 g21 n hh dd) (fun _ _ _ _ => True) 45 := by
    refine Reg.op_ok2 (fun af => { dst := some 117, op := Op.call { callee := Callee.value (Operand.func 16), args := #[Operand.tmp 115, Operand.tmp 116], argTypes := #[24, 24] }, type := 4, pos := "law.go:28", after := af, guard := some (39, true) }) #[{ on := 43, ground := Ground.data }, { on := 44, ground := Ground.data }, { on := 42, ground := Ground.chain }, { on := 39, ground := Ground.guard }] (by kernel_rfl) [43, 44, 42, 39] (by kernel_rfl) fun af v W hb hd => ?_
    have d39 : v 39 = (Value.bool true) := hd 39 (by decide)
    have d43 : v 43 = (Value.agg (vC aa)) := hd 43 (by decide)
    have d44 : v 44 = (Value.agg (vC bb)) := hd 44 (by decide)
    have e115 := (Reg.gfr_eval (ops := (Reg.opsOf Try.f6 15)) (a0 := a0) (v := v) (L := [43, 44, 42, 39]) 115 43 (by kernel_rfl) (by rw [hsz]; omega)).trans d43
    have e116 := (Reg.gfr_eval (ops := (Reg.opsOf Try.f6 15)) (a0 := a0) (v := v) (L := [43, 44, 42, 39]) 116 44 (by kernel_rfl) (by rw [hsz]; omega)).trans d44
    have e111 := (Reg.gfr_eval (ops := (Reg.opsOf Try.f6 15)) (a0 := a0) (v := v) (L := [43, 44, 42, 39]) 111 39 (by kernel_rfl) (by rw [hsz]; omega)).trans d39
    refine ⟨Reg.wanted_of rfl (by kernel_rfl) e111, ?_⟩
    have eF : ∀ f, (Reg.gfr (Reg.opsOf Try.f6 15) a0 v [43, 44, 42, 39]).eval (.func f) = .func (.func f) #[] #[] := fun _ => rfl
    generalize Reg.gfr (Reg.opsOf Try.f6 15) a0 v [43, 44, 42, 39] = G at e115 e116 eF ⊢
    generalize hρ : G.eval = ρ at e115 e116 eF
    have hρ' : G.eval = ρ := hρ
    refine Reg.go_call 16 #[(Value.agg (vC aa)), (Value.agg (vC bb))] (by rw [hρ']; simp [execOp, go_sem, e115, e116, eF]) ((ratmost_any aa bb ha hb' W).mono fun e w' he => ?_)
    obtain ⟨rfl, hbb⟩ := he
    exact ⟨_, rfl, hbb, (show _ = _ from by rw [f4] <;> rfl)⟩
set_option maxHeartbeats 4000000 in
set_option maxRecDepth 20000 in
theorem asks15_h46 :
    Reg.OpOK Try.prog (Reg.opsOf Try.f6 15) a0 w0 (asks15R aa bb nv mg mt LL al nn cl ss cc p1 p2 e1 e2 xc ga gb gd g11 g13 g15 g17 g20 g21 n hh dd) (fun _ _ _ _ => True) 46 := by
    refine Reg.op_ok2 (fun af => { dst := some 118, op := Op.binOp BinOp.eql 4 (Operand.tmp 114) (Operand.tmp 117) 4, type := 4, pos := "law.go:28", after := af, guard := some (39, true) }) #[{ on := 42, ground := Ground.data }, { on := 45, ground := Ground.data }, { on := 39, ground := Ground.guard }] (by kernel_rfl) [42, 45, 39] (by kernel_rfl) fun af v W hb hd => ?_
    have d39 : v 39 = (Value.bool true) := hd 39 (by decide)
    have d42 : v 42 = (Value.bool dd) := hd 42 (by decide)
    have d45 : v 45 = (Value.bool dd) := hd 45 (by decide)
    have e114 := (Reg.gfr_eval (ops := (Reg.opsOf Try.f6 15)) (a0 := a0) (v := v) (L := [42, 45, 39]) 114 42 (by kernel_rfl) (by rw [hsz]; omega)).trans d42
    have e117 := (Reg.gfr_eval (ops := (Reg.opsOf Try.f6 15)) (a0 := a0) (v := v) (L := [42, 45, 39]) 117 45 (by kernel_rfl) (by rw [hsz]; omega)).trans d45
    have e111 := (Reg.gfr_eval (ops := (Reg.opsOf Try.f6 15)) (a0 := a0) (v := v) (L := [42, 45, 39]) 111 39 (by kernel_rfl) (by rw [hsz]; omega)).trans d39
    refine ⟨Reg.wanted_of rfl (by kernel_rfl) e111, ?_⟩
    generalize Reg.gfr (Reg.opsOf Try.f6 15) a0 v [42, 45, 39] = G at e114 e117 ⊢
    generalize hρ : G.eval = ρ at e114 e117
    have hρ' : G.eval = ρ := hρ
    refine Reg.go_run (Value.bool true) W ?_ ?_
    · rw [hρ']; simp [execOp, go_sem, e114, e117]
    · exact ⟨Below.refl _ _, rfl⟩
set_option maxHeartbeats 4000000 in
set_option maxRecDepth 20000 in
theorem asks15_h47 :
    Reg.OpOK Try.prog (Reg.opsOf Try.f6 15) a0 w0 (asks15R aa bb nv mg mt LL al nn cl ss cc p1 p2 e1 e2 xc ga gb gd g11 g13 g15 g17 g20 g21 n hh dd) (fun _ _ _ _ => True) 47 := by
    refine Reg.op_ok2 (fun af => { dst := some 119, op := Op.pick (Operand.tmp 111) (Operand.tmp 118) (Operand.const (Value.bool false)), type := 4, pos := "law.go:28", after := af, guard := none }) #[{ on := 39, ground := Ground.data }, { on := 46, ground := Ground.data }] (by kernel_rfl) [39, 46] (by kernel_rfl) fun af v W hb hd => ?_
    have d39 : v 39 = (Value.bool true) := hd 39 (by decide)
    have d46 : v 46 = (Value.bool true) := hd 46 (by decide)
    have e111 := (Reg.gfr_eval (ops := (Reg.opsOf Try.f6 15)) (a0 := a0) (v := v) (L := [39, 46]) 111 39 (by kernel_rfl) (by rw [hsz]; omega)).trans d39
    have e118 := (Reg.gfr_eval (ops := (Reg.opsOf Try.f6 15)) (a0 := a0) (v := v) (L := [39, 46]) 118 46 (by kernel_rfl) (by rw [hsz]; omega)).trans d46
    refine ⟨Reg.wanted_none rfl, ?_⟩
    have eC : ∀ x, (Reg.gfr (Reg.opsOf Try.f6 15) a0 v [39, 46]).eval (.const x) = x := fun _ => rfl
    generalize Reg.gfr (Reg.opsOf Try.f6 15) a0 v [39, 46] = G at e111 e118 eC ⊢
    generalize hρ : G.eval = ρ at e111 e118 eC
    have hρ' : G.eval = ρ := hρ
    refine Reg.go_run (Value.bool true) W ?_ ?_
    · rw [hρ']; simp [execOp, go_sem, e111, e118, eC]
    · exact ⟨Below.refl _ _, rfl⟩
set_option maxHeartbeats 4000000 in
set_option maxRecDepth 20000 in
theorem asks15_h48 :
    Reg.OpOK Try.prog (Reg.opsOf Try.f6 15) a0 w0 (asks15R aa bb nv mg mt LL al nn cl ss cc p1 p2 e1 e2 xc ga gb gd g11 g13 g15 g17 g20 g21 n hh dd) (fun _ _ _ _ => True) 48 := by
    refine Reg.op_ok2 (fun af => { dst := some 120, op := Op.move (Operand.tmp 119), type := 4, pos := "law.go:28", after := af, guard := none }) #[{ on := 47, ground := Ground.data }, { on := 45, ground := Ground.chain }] (by kernel_rfl) [47, 45] (by kernel_rfl) fun af v W hb hd => ?_
    have d47 : v 47 = (Value.bool true) := hd 47 (by decide)
    have e119 := (Reg.gfr_eval (ops := (Reg.opsOf Try.f6 15)) (a0 := a0) (v := v) (L := [47, 45]) 119 47 (by kernel_rfl) (by rw [hsz]; omega)).trans d47
    refine ⟨Reg.wanted_none rfl, ?_⟩
    generalize Reg.gfr (Reg.opsOf Try.f6 15) a0 v [47, 45] = G at e119 ⊢
    generalize hρ : G.eval = ρ at e119
    have hρ' : G.eval = ρ := hρ
    refine Reg.go_run (Value.bool true) W ?_ ?_
    · rw [hρ']; simp [execOp, go_sem, e119]
    · exact ⟨Below.refl _ _, rfl⟩
set_option maxHeartbeats 4000000 in
set_option maxRecDepth 20000 in
theorem asks15_h49 :
    Reg.OpOK Try.prog (Reg.opsOf Try.f6 15) a0 w0 (asks15R aa bb nv mg mt LL al nn cl ss cc p1 p2 e1 e2 xc ga gb gd g11 g13 g15 g17 g20 g21 n hh dd) (fun _ _ _ _ => True) 49 := by
    refine Reg.op_ok2 (fun af => { dst := some 121, op := Op.load 24 (Operand.tmp 5), type := 24, pos := "law.go:28", after := af, guard := some (48, true) }) #[{ on := 48, ground := Ground.guard }] (by kernel_rfl) [48] (by kernel_rfl) fun af v W hb hd => ?_
    have d48 : v 48 = (Value.bool true) := hd 48 (by decide)
    have e5 := (Reg.gfr_eval0 (ops := (Reg.opsOf Try.f6 15)) (a0 := a0) (v := v) (L := [48]) 5 (by kernel_rfl)).trans i5
    have e120 := (Reg.gfr_eval (ops := (Reg.opsOf Try.f6 15)) (a0 := a0) (v := v) (L := [48]) 120 48 (by kernel_rfl) (by rw [hsz]; omega)).trans d48
    refine ⟨Reg.wanted_of rfl (by kernel_rfl) e120, ?_⟩
    generalize Reg.gfr (Reg.opsOf Try.f6 15) a0 v [48] = G at e5 ⊢
    generalize hρ : G.eval = ρ at e5
    have hρ' : G.eval = ρ := hρ
    exact fun K hK => wp_load_row 24 (.tmp 5) rfl ga (by rw [hρ']; exact e5) 24 (vC aa) (0, 0) _ (M_ga W hb) Try.underlying24 rfl (vec_size ha) (hK _ _ ⟨Below.refl _ _, rfl⟩)
set_option maxHeartbeats 4000000 in
set_option maxRecDepth 20000 in
theorem asks15_h50 :
    Reg.OpOK Try.prog (Reg.opsOf Try.f6 15) a0 w0 (asks15R aa bb nv mg mt LL al nn cl ss cc p1 p2 e1 e2 xc ga gb gd g11 g13 g15 g17 g20 g21 n hh dd) (fun _ _ _ _ => True) 50 := by
    refine Reg.op_ok2 (fun af => { dst := some 122, op := Op.load 24 (Operand.tmp 6), type := 24, pos := "law.go:28", after := af, guard := some (48, true) }) #[{ on := 48, ground := Ground.guard }] (by kernel_rfl) [48] (by kernel_rfl) fun af v W hb hd => ?_
    have d48 : v 48 = (Value.bool true) := hd 48 (by decide)
    have e6 := (Reg.gfr_eval0 (ops := (Reg.opsOf Try.f6 15)) (a0 := a0) (v := v) (L := [48]) 6 (by kernel_rfl)).trans i6
    have e120 := (Reg.gfr_eval (ops := (Reg.opsOf Try.f6 15)) (a0 := a0) (v := v) (L := [48]) 120 48 (by kernel_rfl) (by rw [hsz]; omega)).trans d48
    refine ⟨Reg.wanted_of rfl (by kernel_rfl) e120, ?_⟩
    generalize Reg.gfr (Reg.opsOf Try.f6 15) a0 v [48] = G at e6 ⊢
    generalize hρ : G.eval = ρ at e6
    have hρ' : G.eval = ρ := hρ
    exact fun K hK => wp_load_row 24 (.tmp 6) rfl gb (by rw [hρ']; exact e6) 24 (vC bb) (0, 0) _ (M_gb W hb) Try.underlying24 rfl (vec_size hb') (hK _ _ ⟨Below.refl _ _, rfl⟩)
set_option maxHeartbeats 4000000 in
set_option maxRecDepth 20000 in
theorem asks15_h51 :
    Reg.OpOK Try.prog (Reg.opsOf Try.f6 15) a0 w0 (asks15R aa bb nv mg mt LL al nn cl ss cc p1 p2 e1 e2 xc ga gb gd g11 g13 g15 g17 g20 g21 n hh dd) (fun _ _ _ _ => True) 51 := by
    refine Reg.op_ok2 (fun af => { dst := some 123, op := Op.call { callee := Callee.value (Operand.func 14), args := #[Operand.tmp 121, Operand.tmp 122], argTypes := #[24, 24] }, type := 3, pos := "law.go:28", after := af, guard := some (48, true) }) #[{ on := 49, ground := Ground.data }, { on := 50, ground := Ground.data }, { on := 48, ground := Ground.chain }, { on := 48, ground := Ground.guard }] (by kernel_rfl) [49, 50, 48, 48] (by kernel_rfl) fun af v W hb hd => ?_
    have d48 : v 48 = (Value.bool true) := hd 48 (by decide)
    have d49 : v 49 = (Value.agg (vC aa)) := hd 49 (by decide)
    have d50 : v 50 = (Value.agg (vC bb)) := hd 50 (by decide)
    have e121 := (Reg.gfr_eval (ops := (Reg.opsOf Try.f6 15)) (a0 := a0) (v := v) (L := [49, 50, 48, 48]) 121 49 (by kernel_rfl) (by rw [hsz]; omega)).trans d49
    have e122 := (Reg.gfr_eval (ops := (Reg.opsOf Try.f6 15)) (a0 := a0) (v := v) (L := [49, 50, 48, 48]) 122 50 (by kernel_rfl) (by rw [hsz]; omega)).trans d50
    have e120 := (Reg.gfr_eval (ops := (Reg.opsOf Try.f6 15)) (a0 := a0) (v := v) (L := [49, 50, 48, 48]) 120 48 (by kernel_rfl) (by rw [hsz]; omega)).trans d48
    refine ⟨Reg.wanted_of rfl (by kernel_rfl) e120, ?_⟩
    have eF : ∀ f, (Reg.gfr (Reg.opsOf Try.f6 15) a0 v [49, 50, 48, 48]).eval (.func f) = .func (.func f) #[] #[] := fun _ => rfl
    generalize Reg.gfr (Reg.opsOf Try.f6 15) a0 v [49, 50, 48, 48] = G at e121 e122 eF ⊢
    generalize hρ : G.eval = ρ at e121 e122 eF
    have hρ' : G.eval = ρ := hρ
    refine Reg.go_call 14 #[(Value.agg (vC aa)), (Value.agg (vC bb))] (by rw [hρ']; simp [execOp, go_sem, e121, e122, eF]) ((compare_any aa bb ha hb' W).mono fun e w' he => ?_)
    obtain ⟨rfl, hbb⟩ := he
    exact ⟨_, rfl, hbb, (show _ = _ from by rw [f5] <;> rfl)⟩
set_option maxHeartbeats 4000000 in
set_option maxRecDepth 20000 in
theorem asks15_h52 :
    Reg.OpOK Try.prog (Reg.opsOf Try.f6 15) a0 w0 (asks15R aa bb nv mg mt LL al nn cl ss cc p1 p2 e1 e2 xc ga gb gd g11 g13 g15 g17 g20 g21 n hh dd) (fun _ _ _ _ => True) 52 := by
    refine Reg.op_ok2 (fun af => { dst := some 124, op := Op.load 24 (Operand.tmp 5), type := 24, pos := "law.go:28", after := af, guard := some (48, true) }) #[{ on := 48, ground := Ground.guard }] (by kernel_rfl) [48] (by kernel_rfl) fun af v W hb hd => ?_
    have d48 : v 48 = (Value.bool true) := hd 48 (by decide)
    have e5 := (Reg.gfr_eval0 (ops := (Reg.opsOf Try.f6 15)) (a0 := a0) (v := v) (L := [48]) 5 (by kernel_rfl)).trans i5
    have e120 := (Reg.gfr_eval (ops := (Reg.opsOf Try.f6 15)) (a0 := a0) (v := v) (L := [48]) 120 48 (by kernel_rfl) (by rw [hsz]; omega)).trans d48
    refine ⟨Reg.wanted_of rfl (by kernel_rfl) e120, ?_⟩
    generalize Reg.gfr (Reg.opsOf Try.f6 15) a0 v [48] = G at e5 ⊢
    generalize hρ : G.eval = ρ at e5
    have hρ' : G.eval = ρ := hρ
    exact fun K hK => wp_load_row 24 (.tmp 5) rfl ga (by rw [hρ']; exact e5) 24 (vC aa) (0, 0) _ (M_ga W hb) Try.underlying24 rfl (vec_size ha) (hK _ _ ⟨Below.refl _ _, rfl⟩)
set_option maxHeartbeats 4000000 in
set_option maxRecDepth 20000 in
theorem asks15_h53 :
    Reg.OpOK Try.prog (Reg.opsOf Try.f6 15) a0 w0 (asks15R aa bb nv mg mt LL al nn cl ss cc p1 p2 e1 e2 xc ga gb gd g11 g13 g15 g17 g20 g21 n hh dd) (fun _ _ _ _ => True) 53 := by
    refine Reg.op_ok2 (fun af => { dst := some 125, op := Op.load 24 (Operand.tmp 6), type := 24, pos := "law.go:28", after := af, guard := some (48, true) }) #[{ on := 48, ground := Ground.guard }] (by kernel_rfl) [48] (by kernel_rfl) fun af v W hb hd => ?_
    have d48 : v 48 = (Value.bool true) := hd 48 (by decide)
    have e6 := (Reg.gfr_eval0 (ops := (Reg.opsOf Try.f6 15)) (a0 := a0) (v := v) (L := [48]) 6 (by kernel_rfl)).trans i6
    have e120 := (Reg.gfr_eval (ops := (Reg.opsOf Try.f6 15)) (a0 := a0) (v := v) (L := [48]) 120 48 (by kernel_rfl) (by rw [hsz]; omega)).trans d48
    refine ⟨Reg.wanted_of rfl (by kernel_rfl) e120, ?_⟩
    generalize Reg.gfr (Reg.opsOf Try.f6 15) a0 v [48] = G at e6 ⊢
    generalize hρ : G.eval = ρ at e6
    have hρ' : G.eval = ρ := hρ
    exact fun K hK => wp_load_row 24 (.tmp 6) rfl gb (by rw [hρ']; exact e6) 24 (vC bb) (0, 0) _ (M_gb W hb) Try.underlying24 rfl (vec_size hb') (hK _ _ ⟨Below.refl _ _, rfl⟩)
set_option maxHeartbeats 4000000 in
set_option maxRecDepth 20000 in
theorem asks15_h54 :
    Reg.OpOK Try.prog (Reg.opsOf Try.f6 15) a0 w0 (asks15R aa bb nv mg mt LL al nn cl ss cc p1 p2 e1 e2 xc ga gb gd g11 g13 g15 g17 g20 g21 n hh dd) (fun _ _ _ _ => True) 54 := by
    refine Reg.op_ok2 (fun af => { dst := some 126, op := Op.call { callee := Callee.value (Operand.func 25), args := #[Operand.tmp 124, Operand.tmp 125], argTypes := #[24, 24] }, type := 3, pos := "law.go:28", after := af, guard := some (48, true) }) #[{ on := 52, ground := Ground.data }, { on := 53, ground := Ground.data }, { on := 51, ground := Ground.chain }, { on := 48, ground := Ground.guard }] (by kernel_rfl) [52, 53, 51, 48] (by kernel_rfl) fun af v W hb hd => ?_
    have d48 : v 48 = (Value.bool true) := hd 48 (by decide)
    have d52 : v 52 = (Value.agg (vC aa)) := hd 52 (by decide)
    have d53 : v 53 = (Value.agg (vC bb)) := hd 53 (by decide)
    have e124 := (Reg.gfr_eval (ops := (Reg.opsOf Try.f6 15)) (a0 := a0) (v := v) (L := [52, 53, 51, 48]) 124 52 (by kernel_rfl) (by rw [hsz]; omega)).trans d52
    have e125 := (Reg.gfr_eval (ops := (Reg.opsOf Try.f6 15)) (a0 := a0) (v := v) (L := [52, 53, 51, 48]) 125 53 (by kernel_rfl) (by rw [hsz]; omega)).trans d53
    have e120 := (Reg.gfr_eval (ops := (Reg.opsOf Try.f6 15)) (a0 := a0) (v := v) (L := [52, 53, 51, 48]) 120 48 (by kernel_rfl) (by rw [hsz]; omega)).trans d48
    refine ⟨Reg.wanted_of rfl (by kernel_rfl) e120, ?_⟩
    have eF : ∀ f, (Reg.gfr (Reg.opsOf Try.f6 15) a0 v [52, 53, 51, 48]).eval (.func f) = .func (.func f) #[] #[] := fun _ => rfl
    generalize Reg.gfr (Reg.opsOf Try.f6 15) a0 v [52, 53, 51, 48] = G at e124 e125 eF ⊢
    generalize hρ : G.eval = ρ at e124 e125 eF
    have hρ' : G.eval = ρ := hρ
    refine Reg.go_call 25 #[(Value.agg (vC aa)), (Value.agg (vC bb))] (by rw [hρ']; simp [execOp, go_sem, e124, e125, eF]) ((rcompare_any aa bb ha hb' W).mono fun e w' he => ?_)
    obtain ⟨rfl, hbb⟩ := he
    exact ⟨_, rfl, hbb, (show _ = _ from by rw [f5] <;> rfl)⟩
set_option maxHeartbeats 4000000 in
set_option maxRecDepth 20000 in
theorem asks15_h55 :
    Reg.OpOK Try.prog (Reg.opsOf Try.f6 15) a0 w0 (asks15R aa bb nv mg mt LL al nn cl ss cc p1 p2 e1 e2 xc ga gb gd g11 g13 g15 g17 g20 g21 n hh dd) (fun _ _ _ _ => True) 55 := by
    refine Reg.op_ok2 (fun af => { dst := some 127, op := Op.binOp BinOp.eql 3 (Operand.tmp 123) (Operand.tmp 126) 3, type := 4, pos := "law.go:28", after := af, guard := some (48, true) }) #[{ on := 51, ground := Ground.data }, { on := 54, ground := Ground.data }, { on := 48, ground := Ground.guard }] (by kernel_rfl) [51, 54, 48] (by kernel_rfl) fun af v W hb hd => ?_
    have d48 : v 48 = (Value.bool true) := hd 48 (by decide)
    have d51 : v 51 = (Value.int IntKind.i64 xc) := hd 51 (by decide)
    have d54 : v 54 = (Value.int IntKind.i64 xc) := hd 54 (by decide)
    have e123 := (Reg.gfr_eval (ops := (Reg.opsOf Try.f6 15)) (a0 := a0) (v := v) (L := [51, 54, 48]) 123 51 (by kernel_rfl) (by rw [hsz]; omega)).trans d51
    have e126 := (Reg.gfr_eval (ops := (Reg.opsOf Try.f6 15)) (a0 := a0) (v := v) (L := [51, 54, 48]) 126 54 (by kernel_rfl) (by rw [hsz]; omega)).trans d54
    have e120 := (Reg.gfr_eval (ops := (Reg.opsOf Try.f6 15)) (a0 := a0) (v := v) (L := [51, 54, 48]) 120 48 (by kernel_rfl) (by rw [hsz]; omega)).trans d48
    refine ⟨Reg.wanted_of rfl (by kernel_rfl) e120, ?_⟩
    generalize Reg.gfr (Reg.opsOf Try.f6 15) a0 v [51, 54, 48] = G at e123 e126 ⊢
    generalize hρ : G.eval = ρ at e123 e126
    have hρ' : G.eval = ρ := hρ
    refine Reg.go_run (Value.bool true) W ?_ ?_
    · rw [hρ']; simp [execOp, go_sem, e123, e126]
    · exact ⟨Below.refl _ _, rfl⟩
set_option maxHeartbeats 4000000 in
set_option maxRecDepth 20000 in
theorem asks15_h56 :
    Reg.OpOK Try.prog (Reg.opsOf Try.f6 15) a0 w0 (asks15R aa bb nv mg mt LL al nn cl ss cc p1 p2 e1 e2 xc ga gb gd g11 g13 g15 g17 g20 g21 n hh dd) (fun _ _ _ _ => True) 56 := by
    refine Reg.op_ok2 (fun af => { dst := some 128, op := Op.pick (Operand.tmp 120) (Operand.tmp 127) (Operand.const (Value.bool false)), type := 4, pos := "law.go:28", after := af, guard := none }) #[{ on := 48, ground := Ground.data }, { on := 55, ground := Ground.data }] (by kernel_rfl) [48, 55] (by kernel_rfl) fun af v W hb hd => ?_
    have d48 : v 48 = (Value.bool true) := hd 48 (by decide)
    have d55 : v 55 = (Value.bool true) := hd 55 (by decide)
    have e120 := (Reg.gfr_eval (ops := (Reg.opsOf Try.f6 15)) (a0 := a0) (v := v) (L := [48, 55]) 120 48 (by kernel_rfl) (by rw [hsz]; omega)).trans d48
    have e127 := (Reg.gfr_eval (ops := (Reg.opsOf Try.f6 15)) (a0 := a0) (v := v) (L := [48, 55]) 127 55 (by kernel_rfl) (by rw [hsz]; omega)).trans d55
    refine ⟨Reg.wanted_none rfl, ?_⟩
    have eC : ∀ x, (Reg.gfr (Reg.opsOf Try.f6 15) a0 v [48, 55]).eval (.const x) = x := fun _ => rfl
    generalize Reg.gfr (Reg.opsOf Try.f6 15) a0 v [48, 55] = G at e120 e127 eC ⊢
    generalize hρ : G.eval = ρ at e120 e127 eC
    have hρ' : G.eval = ρ := hρ
    refine Reg.go_run (Value.bool true) W ?_ ?_
    · rw [hρ']; simp [execOp, go_sem, e120, e127, eC]
    · exact ⟨Below.refl _ _, rfl⟩
set_option maxHeartbeats 4000000 in
set_option maxRecDepth 20000 in
theorem asks15_h57 :
    Reg.OpOK Try.prog (Reg.opsOf Try.f6 15) a0 w0 (asks15R aa bb nv mg mt LL al nn cl ss cc p1 p2 e1 e2 xc ga gb gd g11 g13 g15 g17 g20 g21 n hh dd) (fun _ _ _ _ => True) 57 := by
    refine Reg.op_ok2 (fun af => { dst := some 129, op := Op.move (Operand.tmp 128), type := 4, pos := "law.go:28", after := af, guard := none }) #[{ on := 56, ground := Ground.data }, { on := 54, ground := Ground.chain }] (by kernel_rfl) [56, 54] (by kernel_rfl) fun af v W hb hd => ?_
    have d56 : v 56 = (Value.bool true) := hd 56 (by decide)
    have e128 := (Reg.gfr_eval (ops := (Reg.opsOf Try.f6 15)) (a0 := a0) (v := v) (L := [56, 54]) 128 56 (by kernel_rfl) (by rw [hsz]; omega)).trans d56
    refine ⟨Reg.wanted_none rfl, ?_⟩
    generalize Reg.gfr (Reg.opsOf Try.f6 15) a0 v [56, 54] = G at e128 ⊢
    generalize hρ : G.eval = ρ at e128
    have hρ' : G.eval = ρ := hρ
    refine Reg.go_run (Value.bool true) W ?_ ?_
    · rw [hρ']; simp [execOp, go_sem, e128]
    · exact ⟨Below.refl _ _, rfl⟩
set_option maxHeartbeats 4000000 in
set_option maxRecDepth 20000 in
theorem asks15_h58 :
    Reg.OpOK Try.prog (Reg.opsOf Try.f6 15) a0 w0 (asks15R aa bb nv mg mt LL al nn cl ss cc p1 p2 e1 e2 xc ga gb gd g11 g13 g15 g17 g20 g21 n hh dd) (fun _ _ _ _ => True) 58 := by
    refine Reg.op_ok2 (fun af => { dst := some 130, op := Op.load 24 (Operand.tmp 5), type := 24, pos := "law.go:28", after := af, guard := some (57, true) }) #[{ on := 57, ground := Ground.guard }] (by kernel_rfl) [57] (by kernel_rfl) fun af v W hb hd => ?_
    have d57 : v 57 = (Value.bool true) := hd 57 (by decide)
    have e5 := (Reg.gfr_eval0 (ops := (Reg.opsOf Try.f6 15)) (a0 := a0) (v := v) (L := [57]) 5 (by kernel_rfl)).trans i5
    have e129 := (Reg.gfr_eval (ops := (Reg.opsOf Try.f6 15)) (a0 := a0) (v := v) (L := [57]) 129 57 (by kernel_rfl) (by rw [hsz]; omega)).trans d57
    refine ⟨Reg.wanted_of rfl (by kernel_rfl) e129, ?_⟩
    generalize Reg.gfr (Reg.opsOf Try.f6 15) a0 v [57] = G at e5 ⊢
    generalize hρ : G.eval = ρ at e5
    have hρ' : G.eval = ρ := hρ
    exact fun K hK => wp_load_row 24 (.tmp 5) rfl ga (by rw [hρ']; exact e5) 24 (vC aa) (0, 0) _ (M_ga W hb) Try.underlying24 rfl (vec_size ha) (hK _ _ ⟨Below.refl _ _, rfl⟩)
set_option maxHeartbeats 4000000 in
set_option maxRecDepth 20000 in
theorem asks15_h59 :
    Reg.OpOK Try.prog (Reg.opsOf Try.f6 15) a0 w0 (asks15R aa bb nv mg mt LL al nn cl ss cc p1 p2 e1 e2 xc ga gb gd g11 g13 g15 g17 g20 g21 n hh dd) (fun _ _ _ _ => True) 59 := by
    refine Reg.op_ok2 (fun af => { dst := some 131, op := Op.load 24 (Operand.tmp 6), type := 24, pos := "law.go:28", after := af, guard := some (57, true) }) #[{ on := 57, ground := Ground.guard }] (by kernel_rfl) [57] (by kernel_rfl) fun af v W hb hd => ?_
    have d57 : v 57 = (Value.bool true) := hd 57 (by decide)
    have e6 := (Reg.gfr_eval0 (ops := (Reg.opsOf Try.f6 15)) (a0 := a0) (v := v) (L := [57]) 6 (by kernel_rfl)).trans i6
    have e129 := (Reg.gfr_eval (ops := (Reg.opsOf Try.f6 15)) (a0 := a0) (v := v) (L := [57]) 129 57 (by kernel_rfl) (by rw [hsz]; omega)).trans d57
    refine ⟨Reg.wanted_of rfl (by kernel_rfl) e129, ?_⟩
    generalize Reg.gfr (Reg.opsOf Try.f6 15) a0 v [57] = G at e6 ⊢
    generalize hρ : G.eval = ρ at e6
    have hρ' : G.eval = ρ := hρ
    exact fun K hK => wp_load_row 24 (.tmp 6) rfl gb (by rw [hρ']; exact e6) 24 (vC bb) (0, 0) _ (M_gb W hb) Try.underlying24 rfl (vec_size hb') (hK _ _ ⟨Below.refl _ _, rfl⟩)
set_option maxHeartbeats 4000000 in
set_option maxRecDepth 20000 in
theorem asks15_h60 :
    Reg.OpOK Try.prog (Reg.opsOf Try.f6 15) a0 w0 (asks15R aa bb nv mg mt LL al nn cl ss cc p1 p2 e1 e2 xc ga gb gd g11 g13 g15 g17 g20 g21 n hh dd) (fun _ _ _ _ => True) 60 := by
    refine Reg.op_ok2 (fun af => { dst := some 132, op := Op.call { callee := Callee.value (Operand.func 15), args := #[Operand.tmp 130, Operand.tmp 131], argTypes := #[24, 24] }, type := 31, pos := "law.go:28", after := af, guard := some (57, true) }) #[{ on := 58, ground := Ground.data }, { on := 59, ground := Ground.data }, { on := 57, ground := Ground.chain }, { on := 57, ground := Ground.guard }] (by kernel_rfl) [58, 59, 57, 57] (by kernel_rfl) fun af v W hb hd => ?_
    have d57 : v 57 = (Value.bool true) := hd 57 (by decide)
    have d58 : v 58 = (Value.agg (vC aa)) := hd 58 (by decide)
    have d59 : v 59 = (Value.agg (vC bb)) := hd 59 (by decide)
    have e130 := (Reg.gfr_eval (ops := (Reg.opsOf Try.f6 15)) (a0 := a0) (v := v) (L := [58, 59, 57, 57]) 130 58 (by kernel_rfl) (by rw [hsz]; omega)).trans d58
    have e131 := (Reg.gfr_eval (ops := (Reg.opsOf Try.f6 15)) (a0 := a0) (v := v) (L := [58, 59, 57, 57]) 131 59 (by kernel_rfl) (by rw [hsz]; omega)).trans d59
    have e129 := (Reg.gfr_eval (ops := (Reg.opsOf Try.f6 15)) (a0 := a0) (v := v) (L := [58, 59, 57, 57]) 129 57 (by kernel_rfl) (by rw [hsz]; omega)).trans d57
    refine ⟨Reg.wanted_of rfl (by kernel_rfl) e129, ?_⟩
    have eF : ∀ f, (Reg.gfr (Reg.opsOf Try.f6 15) a0 v [58, 59, 57, 57]).eval (.func f) = .func (.func f) #[] #[] := fun _ => rfl
    generalize Reg.gfr (Reg.opsOf Try.f6 15) a0 v [58, 59, 57, 57] = G at e130 e131 eF ⊢
    generalize hρ : G.eval = ρ at e130 e131 eF
    have hρ' : G.eval = ρ := hρ
    refine Reg.go_call 15 #[(Value.agg (vC aa)), (Value.agg (vC bb))] (by rw [hρ']; simp [execOp, go_sem, e130, e131, eF]) ((lacks_any aa bb ha hb' sa sb W).mono fun e w' he => ?_)
    obtain ⟨rfl, hbb⟩ := he
    exact ⟨_, rfl, hbb, (show _ = _ from by rw [f6] <;> rfl)⟩
set_option maxHeartbeats 4000000 in
set_option maxRecDepth 20000 in
theorem asks15_h61 :
    Reg.OpOK Try.prog (Reg.opsOf Try.f6 15) a0 w0 (asks15R aa bb nv mg mt LL al nn cl ss cc p1 p2 e1 e2 xc ga gb gd g11 g13 g15 g17 g20 g21 n hh dd) (fun _ _ _ _ => True) 61 := by
    refine Reg.op_ok2 (fun af => { dst := some 133, op := Op.load 24 (Operand.tmp 5), type := 24, pos := "law.go:28", after := af, guard := some (57, true) }) #[{ on := 57, ground := Ground.guard }] (by kernel_rfl) [57] (by kernel_rfl) fun af v W hb hd => ?_
    have d57 : v 57 = (Value.bool true) := hd 57 (by decide)
    have e5 := (Reg.gfr_eval0 (ops := (Reg.opsOf Try.f6 15)) (a0 := a0) (v := v) (L := [57]) 5 (by kernel_rfl)).trans i5
    have e129 := (Reg.gfr_eval (ops := (Reg.opsOf Try.f6 15)) (a0 := a0) (v := v) (L := [57]) 129 57 (by kernel_rfl) (by rw [hsz]; omega)).trans d57
    refine ⟨Reg.wanted_of rfl (by kernel_rfl) e129, ?_⟩
    generalize Reg.gfr (Reg.opsOf Try.f6 15) a0 v [57] = G at e5 ⊢
    generalize hρ : G.eval = ρ at e5
    have hρ' : G.eval = ρ := hρ
    exact fun K hK => wp_load_row 24 (.tmp 5) rfl ga (by rw [hρ']; exact e5) 24 (vC aa) (0, 0) _ (M_ga W hb) Try.underlying24 rfl (vec_size ha) (hK _ _ ⟨Below.refl _ _, rfl⟩)
set_option maxHeartbeats 4000000 in
set_option maxRecDepth 20000 in
theorem asks15_h62 :
    Reg.OpOK Try.prog (Reg.opsOf Try.f6 15) a0 w0 (asks15R aa bb nv mg mt LL al nn cl ss cc p1 p2 e1 e2 xc ga gb gd g11 g13 g15 g17 g20 g21 n hh dd) (fun _ _ _ _ => True) 62 := by
    refine Reg.op_ok2 (fun af => { dst := some 134, op := Op.load 24 (Operand.tmp 6), type := 24, pos := "law.go:28", after := af, guard := some (57, true) }) #[{ on := 57, ground := Ground.guard }] (by kernel_rfl) [57] (by kernel_rfl) fun af v W hb hd => ?_
    have d57 : v 57 = (Value.bool true) := hd 57 (by decide)
    have e6 := (Reg.gfr_eval0 (ops := (Reg.opsOf Try.f6 15)) (a0 := a0) (v := v) (L := [57]) 6 (by kernel_rfl)).trans i6
    have e129 := (Reg.gfr_eval (ops := (Reg.opsOf Try.f6 15)) (a0 := a0) (v := v) (L := [57]) 129 57 (by kernel_rfl) (by rw [hsz]; omega)).trans d57
    refine ⟨Reg.wanted_of rfl (by kernel_rfl) e129, ?_⟩
    generalize Reg.gfr (Reg.opsOf Try.f6 15) a0 v [57] = G at e6 ⊢
    generalize hρ : G.eval = ρ at e6
    have hρ' : G.eval = ρ := hρ
    exact fun K hK => wp_load_row 24 (.tmp 6) rfl gb (by rw [hρ']; exact e6) 24 (vC bb) (0, 0) _ (M_gb W hb) Try.underlying24 rfl (vec_size hb') (hK _ _ ⟨Below.refl _ _, rfl⟩)
set_option maxHeartbeats 4000000 in
set_option maxRecDepth 20000 in
theorem asks15_h63 :
    Reg.OpOK Try.prog (Reg.opsOf Try.f6 15) a0 w0 (asks15R aa bb nv mg mt LL al nn cl ss cc p1 p2 e1 e2 xc ga gb gd g11 g13 g15 g17 g20 g21 n hh dd) (fun _ _ _ _ => True) 63 := by
    refine Reg.op_ok2 (fun af => { dst := some 135, op := Op.call { callee := Callee.value (Operand.func 26), args := #[Operand.tmp 133, Operand.tmp 134], argTypes := #[24, 24] }, type := 31, pos := "law.go:28", after := af, guard := some (57, true) }) #[{ on := 61, ground := Ground.data }, { on := 62, ground := Ground.data }, { on := 60, ground := Ground.chain }, { on := 57, ground := Ground.guard }] (by kernel_rfl) [61, 62, 60, 57] (by kernel_rfl) fun af v W hb hd => ?_
    have d57 : v 57 = (Value.bool true) := hd 57 (by decide)
    have d61 : v 61 = (Value.agg (vC aa)) := hd 61 (by decide)
    have d62 : v 62 = (Value.agg (vC bb)) := hd 62 (by decide)
    have e133 := (Reg.gfr_eval (ops := (Reg.opsOf Try.f6 15)) (a0 := a0) (v := v) (L := [61, 62, 60, 57]) 133 61 (by kernel_rfl) (by rw [hsz]; omega)).trans d61
    have e134 := (Reg.gfr_eval (ops := (Reg.opsOf Try.f6 15)) (a0 := a0) (v := v) (L := [61, 62, 60, 57]) 134 62 (by kernel_rfl) (by rw [hsz]; omega)).trans d62
    have e129 := (Reg.gfr_eval (ops := (Reg.opsOf Try.f6 15)) (a0 := a0) (v := v) (L := [61, 62, 60, 57]) 129 57 (by kernel_rfl) (by rw [hsz]; omega)).trans d57
    refine ⟨Reg.wanted_of rfl (by kernel_rfl) e129, ?_⟩
    have eF : ∀ f, (Reg.gfr (Reg.opsOf Try.f6 15) a0 v [61, 62, 60, 57]).eval (.func f) = .func (.func f) #[] #[] := fun _ => rfl
    generalize Reg.gfr (Reg.opsOf Try.f6 15) a0 v [61, 62, 60, 57] = G at e133 e134 eF ⊢
    generalize hρ : G.eval = ρ at e133 e134 eF
    have hρ' : G.eval = ρ := hρ
    refine Reg.go_call 26 #[(Value.agg (vC aa)), (Value.agg (vC bb))] (by rw [hρ']; simp [execOp, go_sem, e133, e134, eF]) ((rlacks_any aa bb ha hb' sa sb W).mono fun e w' he => ?_)
    obtain ⟨rfl, hbb⟩ := he
    exact ⟨_, rfl, hbb, (show _ = _ from by rw [f6] <;> rfl)⟩
set_option maxHeartbeats 4000000 in
set_option maxRecDepth 20000 in
theorem asks15_h64 :
    Reg.OpOK Try.prog (Reg.opsOf Try.f6 15) a0 w0 (asks15R aa bb nv mg mt LL al nn cl ss cc p1 p2 e1 e2 xc ga gb gd g11 g13 g15 g17 g20 g21 n hh dd) (fun _ _ _ _ => True) 64 := by
    refine Reg.op_ok2 (fun af => { dst := some 136, op := Op.binOp BinOp.eql 31 (Operand.tmp 132) (Operand.tmp 135) 31, type := 4, pos := "law.go:28", after := af, guard := some (57, true) }) #[{ on := 60, ground := Ground.data }, { on := 63, ground := Ground.data }, { on := 57, ground := Ground.guard }] (by kernel_rfl) [60, 63, 57] (by kernel_rfl) fun af v W hb hd => ?_
    have d57 : v 57 = (Value.bool true) := hd 57 (by decide)
    have d60 : v 60 = (Value.int IntKind.u64 (n : Int)) := hd 60 (by decide)
    have d63 : v 63 = (Value.int IntKind.u64 (n : Int)) := hd 63 (by decide)
    have e132 := (Reg.gfr_eval (ops := (Reg.opsOf Try.f6 15)) (a0 := a0) (v := v) (L := [60, 63, 57]) 132 60 (by kernel_rfl) (by rw [hsz]; omega)).trans d60
    have e135 := (Reg.gfr_eval (ops := (Reg.opsOf Try.f6 15)) (a0 := a0) (v := v) (L := [60, 63, 57]) 135 63 (by kernel_rfl) (by rw [hsz]; omega)).trans d63
    have e129 := (Reg.gfr_eval (ops := (Reg.opsOf Try.f6 15)) (a0 := a0) (v := v) (L := [60, 63, 57]) 129 57 (by kernel_rfl) (by rw [hsz]; omega)).trans d57
    refine ⟨Reg.wanted_of rfl (by kernel_rfl) e129, ?_⟩
    generalize Reg.gfr (Reg.opsOf Try.f6 15) a0 v [60, 63, 57] = G at e132 e135 ⊢
    generalize hρ : G.eval = ρ at e132 e135
    have hρ' : G.eval = ρ := hρ
    refine Reg.go_run (Value.bool true) W ?_ ?_
    · rw [hρ']; simp [execOp, go_sem, e132, e135]
    · exact ⟨Below.refl _ _, rfl⟩
set_option maxHeartbeats 4000000 in
set_option maxRecDepth 20000 in
theorem asks15_h65 :
    Reg.OpOK Try.prog (Reg.opsOf Try.f6 15) a0 w0 (asks15R aa bb nv mg mt LL al nn cl ss cc p1 p2 e1 e2 xc ga gb gd g11 g13 g15 g17 g20 g21 n hh dd) (fun _ _ _ _ => True) 65 := by
    refine Reg.op_ok2 (fun af => { dst := some 137, op := Op.pick (Operand.tmp 129) (Operand.tmp 136) (Operand.const (Value.bool false)), type := 4, pos := "law.go:28", after := af, guard := none }) #[{ on := 57, ground := Ground.data }, { on := 64, ground := Ground.data }] (by kernel_rfl) [57, 64] (by kernel_rfl) fun af v W hb hd => ?_
    have d57 : v 57 = (Value.bool true) := hd 57 (by decide)
    have d64 : v 64 = (Value.bool true) := hd 64 (by decide)
    have e129 := (Reg.gfr_eval (ops := (Reg.opsOf Try.f6 15)) (a0 := a0) (v := v) (L := [57, 64]) 129 57 (by kernel_rfl) (by rw [hsz]; omega)).trans d57
    have e136 := (Reg.gfr_eval (ops := (Reg.opsOf Try.f6 15)) (a0 := a0) (v := v) (L := [57, 64]) 136 64 (by kernel_rfl) (by rw [hsz]; omega)).trans d64
    refine ⟨Reg.wanted_none rfl, ?_⟩
    have eC : ∀ x, (Reg.gfr (Reg.opsOf Try.f6 15) a0 v [57, 64]).eval (.const x) = x := fun _ => rfl
    generalize Reg.gfr (Reg.opsOf Try.f6 15) a0 v [57, 64] = G at e129 e136 eC ⊢
    generalize hρ : G.eval = ρ at e129 e136 eC
    have hρ' : G.eval = ρ := hρ
    refine Reg.go_run (Value.bool true) W ?_ ?_
    · rw [hρ']; simp [execOp, go_sem, e129, e136, eC]
    · exact ⟨Below.refl _ _, rfl⟩
set_option maxHeartbeats 4000000 in
set_option maxRecDepth 20000 in
theorem asks15_h66 :
    Reg.OpOK Try.prog (Reg.opsOf Try.f6 15) a0 w0 (asks15R aa bb nv mg mt LL al nn cl ss cc p1 p2 e1 e2 xc ga gb gd g11 g13 g15 g17 g20 g21 n hh dd) (fun _ _ _ _ => True) 66 := by
    refine Reg.op_ok2 (fun af => { dst := some 10, op := Op.assign (Operand.tmp 137), type := 4, pos := "law.go:28", after := af, guard := none }) ([{ on := 65, ground := Ground.data }, { on := 63, ground := Ground.chain }, { on := 0, ground := Ground.phase }, { on := 1, ground := Ground.phase }, { on := 2, ground := Ground.phase }, { on := 3, ground := Ground.phase }, { on := 4, ground := Ground.phase }, { on := 5, ground := Ground.phase }, { on := 6, ground := Ground.phase }, { on := 7, ground := Ground.phase }, { on := 8, ground := Ground.phase }, { on := 9, ground := Ground.phase }, { on := 10, ground := Ground.phase }, { on := 11, ground := Ground.phase }, { on := 12, ground := Ground.phase }, { on := 13, ground := Ground.phase }, { on := 14, ground := Ground.phase }, { on := 15, ground := Ground.phase }, { on := 16, ground := Ground.phase }, { on := 17, ground := Ground.phase }, { on := 18, ground := Ground.phase }, { on := 19, ground := Ground.phase }, { on := 20, ground := Ground.phase }, { on := 21, ground := Ground.phase }, { on := 22, ground := Ground.phase }, { on := 23, ground := Ground.phase }, { on := 24, ground := Ground.phase }, { on := 25, ground := Ground.phase }, { on := 26, ground := Ground.phase }, { on := 27, ground := Ground.phase }, { on := 28, ground := Ground.phase }, { on := 29, ground := Ground.phase }, { on := 30, ground := Ground.phase }, { on := 31, ground := Ground.phase }].append [{ on := 32, ground := Ground.phase }, { on := 33, ground := Ground.phase }, { on := 34, ground := Ground.phase }, { on := 35, ground := Ground.phase }, { on := 36, ground := Ground.phase }, { on := 37, ground := Ground.phase }, { on := 38, ground := Ground.phase }, { on := 39, ground := Ground.phase }, { on := 40, ground := Ground.phase }, { on := 41, ground := Ground.phase }, { on := 42, ground := Ground.phase }, { on := 43, ground := Ground.phase }, { on := 44, ground := Ground.phase }, { on := 45, ground := Ground.phase }, { on := 46, ground := Ground.phase }, { on := 47, ground := Ground.phase }, { on := 48, ground := Ground.phase }, { on := 49, ground := Ground.phase }, { on := 50, ground := Ground.phase }, { on := 51, ground := Ground.phase }, { on := 52, ground := Ground.phase }, { on := 53, ground := Ground.phase }, { on := 54, ground := Ground.phase }, { on := 55, ground := Ground.phase }, { on := 56, ground := Ground.phase }, { on := 57, ground := Ground.phase }, { on := 58, ground := Ground.phase }, { on := 59, ground := Ground.phase }, { on := 60, ground := Ground.phase }, { on := 61, ground := Ground.phase }, { on := 62, ground := Ground.phase }, { on := 63, ground := Ground.phase }, { on := 64, ground := Ground.phase }, { on := 65, ground := Ground.phase }]).toArray (by kernel_rfl) [65, 63, 0, 1, 2, 3, 4, 5, 6, 7, 8, 9, 10, 11, 12, 13, 14, 15, 16, 17, 18, 19, 20, 21, 22, 23, 24, 25, 26, 27, 28, 29, 30, 31, 32, 33, 34, 35, 36, 37, 38, 39, 40, 41, 42, 43, 44, 45, 46, 47, 48, 49, 50, 51, 52, 53, 54, 55, 56, 57, 58, 59, 60, 61, 62, 63, 64, 65] (by kernel_rfl) fun af v W hb hd => ?_
    have d65 : v 65 = (Value.bool true) := hd 65 (by decide)
    have e137 := (Reg.gfr_eval (ops := (Reg.opsOf Try.f6 15)) (a0 := a0) (v := v) (L := [65, 63, 0, 1, 2, 3, 4, 5, 6, 7, 8, 9, 10, 11, 12, 13, 14, 15, 16, 17, 18, 19, 20, 21, 22, 23, 24, 25, 26, 27, 28, 29, 30, 31, 32, 33, 34, 35, 36, 37, 38, 39, 40, 41, 42, 43, 44, 45, 46, 47, 48, 49, 50, 51, 52, 53, 54, 55, 56, 57, 58, 59, 60, 61, 62, 63, 64, 65]) 137 65 (by kernel_rfl) (by rw [hsz]; omega)).trans d65
    refine ⟨Reg.wanted_none rfl, ?_⟩
    generalize Reg.gfr (Reg.opsOf Try.f6 15) a0 v [65, 63, 0, 1, 2, 3, 4, 5, 6, 7, 8, 9, 10, 11, 12, 13, 14, 15, 16, 17, 18, 19, 20, 21, 22, 23, 24, 25, 26, 27, 28, 29, 30, 31, 32, 33, 34, 35, 36, 37, 38, 39, 40, 41, 42, 43, 44, 45, 46, 47, 48, 49, 50, 51, 52, 53, 54, 55, 56, 57, 58, 59, 60, 61, 62, 63, 64, 65] = G at e137 ⊢
    generalize hρ : G.eval = ρ at e137
    have hρ' : G.eval = ρ := hρ
    refine Reg.go_run (Value.bool true) W ?_ ?_
    · rw [hρ']; simp [execOp, go_sem, e137]
    · exact ⟨Below.refl _ _, rfl⟩
end
set_option maxHeartbeats 4000000 in
set_option maxRecDepth 20000 in
theorem asks15 (aa bb nv mg mt : List Nat) (LL : List (List Nat)) (al : Option Addr) (nn cl : Nat) (ss cc p1 p2 e1 e2 xc : Int) (ga gb gd g11 g13 g15 g17 g20 g21 n : Nat) (hh dd : Bool) (w0 : World) {s0 s1 s3 s4 s7 s9 s10 s19 s22 s23 s24 s25 s26 s27 s28 s29 s30 s31 s32 s33 s34 s35 s36 s37 s38 s39 s40 s41 s42 s43 s44 s45 s46 s47 s48 s49 s50 s51 s52 s53 s54 s55 s56 s57 s58 s59 s60 s61 s62 s63 s64 s65 s66 s67 s68 s69 s70 s71 s72 s73 s74 s75 s76 s77 s78 s79 s80 s81 s82 s83 s84 s85 s86 s87 s88 s89 s90 s91 s92 s93 s94 s95 s96 s97 s98 s99 s100 s101 s102 s103 s104 s105 s106 s107 s108 s109 s110 s111 s112 s113 s114 s115 s116 s117 s118 s119 s120 s121 s122 s123 s124 s125 s126 s127 s128 s129 s130 s131 s132 s133 s134 s135 s136 s137 : Value}
    (ha : aa.length = 16) (hb' : bb.length = 16) (hnv : nv.length = 16) (hmg : mg.length = 16) (hmt : mt.length = 16) (sa : small aa) (sb : small bb) (hL : LL.length = nn) (hLv : ∀ v ∈ LL, v.length = 16) (hnn : nn ≤ 1000)
    (LR : ∀ W, Below w0.heap.size w0 W → RdC W al (vecs LL)) (f1 : foldK max LL nn = mg) (f2 : foldK min LL nn = mt) (f3 : hasV aa ss cc = hh) (f4 : decide (maxV aa bb = bb) = dd) (f5 : cmpV aa bb = xc) (f6 : lackV aa bb = n)
    (M_ga : ∀ W, Below w0.heap.size w0 W → W.heap[ga]? = some (.cells (vC aa) 24 (0, 0)))
    (M_gb : ∀ W, Below w0.heap.size w0 W → W.heap[gb]? = some (.cells (vC bb) 24 (0, 0)))
    (M_g15 : ∀ W, Below w0.heap.size w0 W → W.heap[g15]? = some (.cells (vC nv) 24 (0, 0)))
    (M_g17 : ∀ W, Below w0.heap.size w0 W → W.heap[g17]? = some (.cells (vC nv) 24 (0, 0)))
    (M_g20 : ∀ W, Below w0.heap.size w0 W → W.heap[g20]? = some (.cells (vC mg) 24 (0, 0)))
    (M_g21 : ∀ W, Below w0.heap.size w0 W → W.heap[g21]? = some (.cells (vC mt) 24 (0, 0)))
    (M_gd : ∀ W, Below w0.heap.size w0 W → W.heap[gd]? = some (.cells (dC ss cc) 35 (0, 0)))
    (M_g11 : ∀ W, Below w0.heap.size w0 W → W.heap[g11]? = some (.cells (dC p1 p2) 35 (0, 0)))
    (M_g13 : ∀ W, Below w0.heap.size w0 W → W.heap[g13]? = some (.cells (dC p1 p2) 35 (0, 0)))
    {Q : Exit → Act → World → Prop}
    (hend : ∀ (w : World), Below w0.heap.size w0 w → Q .normal { tmps := #[s0, s1, (Value.slice al nn cl), s3, s4, (Value.pointer (some ⟨ga, 0, none⟩)), (Value.pointer (some ⟨gb, 0, none⟩)), s7, (Value.pointer (some ⟨gd, 0, none⟩)), s9, (Value.bool true), (Value.pointer (some ⟨g11, 0, none⟩)), (Value.int IntKind.i64 e1), (Value.pointer (some ⟨g13, 0, none⟩)), (Value.int IntKind.i64 e1), (Value.pointer (some ⟨g15, 0, none⟩)), (Value.int IntKind.i64 e2), (Value.pointer (some ⟨g17, 0, none⟩)), (Value.int IntKind.i64 e2), s19, (Value.pointer (some ⟨g20, 0, none⟩)), (Value.pointer (some ⟨g21, 0, none⟩)), s22, s23, s24, s25, s26, s27, s28, s29, s30, s31, s32, s33, s34, s35, s36, s37, s38, s39, s40, s41, s42, s43, s44, s45, s46, s47, s48, s49, s50, s51, s52, s53, s54, s55, s56, s57, s58, s59, s60, s61, s62, s63, s64, s65, s66, s67, s68, s69, s70, s71, (Value.agg (dC p1 p2)), (Value.agg (dC p1 p2)), (Value.bool true), (Value.bool true), (Value.int IntKind.i64 e1), (Value.int IntKind.i64 e1), (Value.bool true), (Value.bool true), (Value.bool true), (Value.agg (vC nv)), (Value.agg (vC nv)), (Value.bool true), (Value.bool true), (Value.bool true), (Value.int IntKind.i64 e2), (Value.int IntKind.i64 e2), (Value.bool true), (Value.bool true), (Value.bool true), (Value.agg (vC mg)), (Value.slice al nn cl), (Value.agg (vC mg)), (Value.bool true), (Value.bool true), (Value.bool true), (Value.agg (vC mt)), (Value.slice al nn cl), (Value.agg (vC mt)), (Value.bool true), (Value.bool true), (Value.bool true), (Value.agg (vC aa)), (Value.agg (dC ss cc)), (Value.bool hh), (Value.agg (vC aa)), (Value.agg (dC ss cc)), (Value.bool hh), (Value.bool true), (Value.bool true), (Value.bool true), (Value.agg (vC aa)), (Value.agg (vC bb)), (Value.bool dd), (Value.agg (vC aa)), (Value.agg (vC bb)), (Value.bool dd), (Value.bool true), (Value.bool true), (Value.bool true), (Value.agg (vC aa)), (Value.agg (vC bb)), (Value.int IntKind.i64 xc), (Value.agg (vC aa)), (Value.agg (vC bb)), (Value.int IntKind.i64 xc), (Value.bool true), (Value.bool true), (Value.bool true), (Value.agg (vC aa)), (Value.agg (vC bb)), (Value.int IntKind.u64 (n : Int)), (Value.agg (vC aa)), (Value.agg (vC bb)), (Value.int IntKind.u64 (n : Int)), (Value.bool true), (Value.bool true)], defers := [] } w) :
    (Code.region 15 (Reg.opsOf Try.f6 15) true).wp Try.prog Q { tmps := #[s0, s1, (Value.slice al nn cl), s3, s4, (Value.pointer (some ⟨ga, 0, none⟩)), (Value.pointer (some ⟨gb, 0, none⟩)), s7, (Value.pointer (some ⟨gd, 0, none⟩)), s9, s10, (Value.pointer (some ⟨g11, 0, none⟩)), (Value.int IntKind.i64 e1), (Value.pointer (some ⟨g13, 0, none⟩)), (Value.int IntKind.i64 e1), (Value.pointer (some ⟨g15, 0, none⟩)), (Value.int IntKind.i64 e2), (Value.pointer (some ⟨g17, 0, none⟩)), (Value.int IntKind.i64 e2), s19, (Value.pointer (some ⟨g20, 0, none⟩)), (Value.pointer (some ⟨g21, 0, none⟩)), s22, s23, s24, s25, s26, s27, s28, s29, s30, s31, s32, s33, s34, s35, s36, s37, s38, s39, s40, s41, s42, s43, s44, s45, s46, s47, s48, s49, s50, s51, s52, s53, s54, s55, s56, s57, s58, s59, s60, s61, s62, s63, s64, s65, s66, s67, s68, s69, s70, s71, s72, s73, s74, s75, s76, s77, s78, s79, s80, s81, s82, s83, s84, s85, s86, s87, s88, s89, s90, s91, s92, s93, s94, s95, s96, s97, s98, s99, s100, s101, s102, s103, s104, s105, s106, s107, s108, s109, s110, s111, s112, s113, s114, s115, s116, s117, s118, s119, s120, s121, s122, s123, s124, s125, s126, s127, s128, s129, s130, s131, s132, s133, s134, s135, s136, s137], defers := [] } w0 := by
  obtain ⟨a0, ha0⟩ : ∃ a0 : Act, a0 = { tmps := #[s0, s1, (Value.slice al nn cl), s3, s4, (Value.pointer (some ⟨ga, 0, none⟩)), (Value.pointer (some ⟨gb, 0, none⟩)), s7, (Value.pointer (some ⟨gd, 0, none⟩)), s9, s10, (Value.pointer (some ⟨g11, 0, none⟩)), (Value.int IntKind.i64 e1), (Value.pointer (some ⟨g13, 0, none⟩)), (Value.int IntKind.i64 e1), (Value.pointer (some ⟨g15, 0, none⟩)), (Value.int IntKind.i64 e2), (Value.pointer (some ⟨g17, 0, none⟩)), (Value.int IntKind.i64 e2), s19, (Value.pointer (some ⟨g20, 0, none⟩)), (Value.pointer (some ⟨g21, 0, none⟩)), s22, s23, s24, s25, s26, s27, s28, s29, s30, s31, s32, s33, s34, s35, s36, s37, s38, s39, s40, s41, s42, s43, s44, s45, s46, s47, s48, s49, s50, s51, s52, s53, s54, s55, s56, s57, s58, s59, s60, s61, s62, s63, s64, s65, s66, s67, s68, s69, s70, s71, s72, s73, s74, s75, s76, s77, s78, s79, s80, s81, s82, s83, s84, s85, s86, s87, s88, s89, s90, s91, s92, s93, s94, s95, s96, s97, s98, s99, s100, s101, s102, s103, s104, s105, s106, s107, s108, s109, s110, s111, s112, s113, s114, s115, s116, s117, s118, s119, s120, s121, s122, s123, s124, s125, s126, s127, s128, s129, s130, s131, s132, s133, s134, s135, s136, s137], defers := [] } := ⟨_, rfl⟩
  have hfin : ∀ v : Nat → Value, Reg.gfr (Reg.opsOf Try.f6 15) a0 v (List.range 67) = { tmps := #[s0, s1, (Value.slice al nn cl), s3, s4, (Value.pointer (some ⟨ga, 0, none⟩)), (Value.pointer (some ⟨gb, 0, none⟩)), s7, (Value.pointer (some ⟨gd, 0, none⟩)), s9, v 66, (Value.pointer (some ⟨g11, 0, none⟩)), (Value.int IntKind.i64 e1), (Value.pointer (some ⟨g13, 0, none⟩)), (Value.int IntKind.i64 e1), (Value.pointer (some ⟨g15, 0, none⟩)), (Value.int IntKind.i64 e2), (Value.pointer (some ⟨g17, 0, none⟩)), (Value.int IntKind.i64 e2), s19, (Value.pointer (some ⟨g20, 0, none⟩)), (Value.pointer (some ⟨g21, 0, none⟩)), s22, s23, s24, s25, s26, s27, s28, s29, s30, s31, s32, s33, s34, s35, s36, s37, s38, s39, s40, s41, s42, s43, s44, s45, s46, s47, s48, s49, s50, s51, s52, s53, s54, s55, s56, s57, s58, s59, s60, s61, s62, s63, s64, s65, s66, s67, s68, s69, s70, s71, v 0, v 1, v 2, v 3, v 4, v 5, v 6, v 7, v 8, v 9, v 10, v 11, v 12, v 13, v 14, v 15, v 16, v 17, v 18, v 19, v 20, v 21, v 22, v 23, v 24, v 25, v 26, v 27, v 28, v 29, v 30, v 31, v 32, v 33, v 34, v 35, v 36, v 37, v 38, v 39, v 40, v 41, v 42, v 43, v 44, v 45, v 46, v 47, v 48, v 49, v 50, v 51, v 52, v 53, v 54, v 55, v 56, v 57, v 58, v 59, v 60, v 61, v 62, v 63, v 64, v 65], defers := [] } := fun v => by rw [ha0]; kernel_rfl
  rw [← ha0]
  have i2 : a0.eval (.tmp 2) = (Value.slice al nn cl) := by rw [ha0]; rfl
  have i5 : a0.eval (.tmp 5) = (Value.pointer (some ⟨ga, 0, none⟩)) := by rw [ha0]; rfl
  have i6 : a0.eval (.tmp 6) = (Value.pointer (some ⟨gb, 0, none⟩)) := by rw [ha0]; rfl
  have i8 : a0.eval (.tmp 8) = (Value.pointer (some ⟨gd, 0, none⟩)) := by rw [ha0]; rfl
  have i11 : a0.eval (.tmp 11) = (Value.pointer (some ⟨g11, 0, none⟩)) := by rw [ha0]; rfl
  have i12 : a0.eval (.tmp 12) = (Value.int IntKind.i64 e1) := by rw [ha0]; rfl
  have i13 : a0.eval (.tmp 13) = (Value.pointer (some ⟨g13, 0, none⟩)) := by rw [ha0]; rfl
  have i14 : a0.eval (.tmp 14) = (Value.int IntKind.i64 e1) := by rw [ha0]; rfl
  have i15 : a0.eval (.tmp 15) = (Value.pointer (some ⟨g15, 0, none⟩)) := by rw [ha0]; rfl
  have i16 : a0.eval (.tmp 16) = (Value.int IntKind.i64 e2) := by rw [ha0]; rfl
  have i17 : a0.eval (.tmp 17) = (Value.pointer (some ⟨g17, 0, none⟩)) := by rw [ha0]; rfl
  have i18 : a0.eval (.tmp 18) = (Value.int IntKind.i64 e2) := by rw [ha0]; rfl
  have i20 : a0.eval (.tmp 20) = (Value.pointer (some ⟨g20, 0, none⟩)) := by rw [ha0]; rfl
  have i21 : a0.eval (.tmp 21) = (Value.pointer (some ⟨g21, 0, none⟩)) := by rw [ha0]; rfl
  have hsz : a0.tmps.size = 138 := by rw [ha0]; rfl
  clear ha0
  have hn : (Reg.opsOf Try.f6 15).size = 67 := by kernel_rfl
  have h0 := asks15_h0 aa bb nv mg mt LL al nn cl ss cc p1 p2 e1 e2 xc ga gb gd g11 g13 g15 g17 g20 g21 n hh dd w0 a0 ha hb' hnv hmg hmt sa sb hL hLv hnn LR f1 f2 f3 f4 f5 f6 M_ga M_gb M_g15 M_g17 M_g20 M_g21 M_gd M_g11 M_g13 i2 i5 i6 i8 i11 i12 i13 i14 i15 i16 i17 i18 i20 i21 hsz
  have h1 := asks15_h1 aa bb nv mg mt LL al nn cl ss cc p1 p2 e1 e2 xc ga gb gd g11 g13 g15 g17 g20 g21 n hh dd w0 a0 ha hb' hnv hmg hmt sa sb hL hLv hnn LR f1 f2 f3 f4 f5 f6 M_ga M_gb M_g15 M_g17 M_g20 M_g21 M_gd M_g11 M_g13 i2 i5 i6 i8 i11 i12 i13 i14 i15 i16 i17 i18 i20 i21 hsz
  have h2 := asks15_h2 aa bb nv mg mt LL al nn cl ss cc p1 p2 e1 e2 xc ga gb gd g11 g13 g15 g17 g20 g21 n hh dd w0 a0 ha hb' hnv hmg hmt sa sb hL hLv hnn LR f1 f2 f3 f4 f5 f6 M_ga M_gb M_g15 M_g17 M_g20 M_g21 M_gd M_g11 M_g13 i2 i5 i6 i8 i11 i12 i13 i14 i15 i16 i17 i18 i20 i21 hsz
  have h3 := asks15_h3 aa bb nv mg mt LL al nn cl ss cc p1 p2 e1 e2 xc ga gb gd g11 g13 g15 g17 g20 g21 n hh dd w0 a0 ha hb' hnv hmg hmt sa sb hL hLv hnn LR f1 f2 f3 f4 f5 f6 M_ga M_gb M_g15 M_g17 M_g20 M_g21 M_gd M_g11 M_g13 i2 i5 i6 i8 i11 i12 i13 i14 i15 i16 i17 i18 i20 i21 hsz
  have h4 := asks15_h4 aa bb nv mg mt LL al nn cl ss cc p1 p2 e1 e2 xc ga gb gd g11 g13 g15 g17 g20 g21 n hh dd w0 a0 ha hb' hnv hmg hmt sa sb hL hLv hnn LR f1 f2 f3 f4 f5 f6 M_ga M_gb M_g15 M_g17 M_g20 M_g21 M_gd M_g11 M_g13 i2 i5 i6 i8 i11 i12 i13 i14 i15 i16 i17 i18 i20 i21 hsz
  have h5 := asks15_h5 aa bb nv mg mt LL al nn cl ss cc p1 p2 e1 e2 xc ga gb gd g11 g13 g15 g17 g20 g21 n hh dd w0 a0 ha hb' hnv hmg hmt sa sb hL hLv hnn LR f1 f2 f3 f4 f5 f6 M_ga M_gb M_g15 M_g17 M_g20 M_g21 M_gd M_g11 M_g13 i2 i5 i6 i8 i11 i12 i13 i14 i15 i16 i17 i18 i20 i21 hsz
  have h6 := asks15_h6 aa bb nv mg mt LL al nn cl ss cc p1 p2 e1 e2 xc ga gb gd g11 g13 g15 g17 g20 g21 n hh dd w0 a0 ha hb' hnv hmg hmt sa sb hL hLv hnn LR f1 f2 f3 f4 f5 f6 M_ga M_gb M_g15 M_g17 M_g20 M_g21 M_gd M_g11 M_g13 i2 i5 i6 i8 i11 i12 i13 i14 i15 i16 i17 i18 i20 i21 hsz
  have h7 := asks15_h7 aa bb nv mg mt LL al nn cl ss cc p1 p2 e1 e2 xc ga gb gd g11 g13 g15 g17 g20 g21 n hh dd w0 a0 ha hb' hnv hmg hmt sa sb hL hLv hnn LR f1 f2 f3 f4 f5 f6 M_ga M_gb M_g15 M_g17 M_g20 M_g21 M_gd M_g11 M_g13 i2 i5 i6 i8 i11 i12 i13 i14 i15 i16 i17 i18 i20 i21 hsz
  have h8 := asks15_h8 aa bb nv mg mt LL al nn cl ss cc p1 p2 e1 e2 xc ga gb gd g11 g13 g15 g17 g20 g21 n hh dd w0 a0 ha hb' hnv hmg hmt sa sb hL hLv hnn LR f1 f2 f3 f4 f5 f6 M_ga M_gb M_g15 M_g17 M_g20 M_g21 M_gd M_g11 M_g13 i2 i5 i6 i8 i11 i12 i13 i14 i15 i16 i17 i18 i20 i21 hsz
  have h9 := asks15_h9 aa bb nv mg mt LL al nn cl ss cc p1 p2 e1 e2 xc ga gb gd g11 g13 g15 g17 g20 g21 n hh dd w0 a0 ha hb' hnv hmg hmt sa sb hL hLv hnn LR f1 f2 f3 f4 f5 f6 M_ga M_gb M_g15 M_g17 M_g20 M_g21 M_gd M_g11 M_g13 i2 i5 i6 i8 i11 i12 i13 i14 i15 i16 i17 i18 i20 i21 hsz
  have h10 := asks15_h10 aa bb nv mg mt LL al nn cl ss cc p1 p2 e1 e2 xc ga gb gd g11 g13 g15 g17 g20 g21 n hh dd w0 a0 ha hb' hnv hmg hmt sa sb hL hLv hnn LR f1 f2 f3 f4 f5 f6 M_ga M_gb M_g15 M_g17 M_g20 M_g21 M_gd M_g11 M_g13 i2 i5 i6 i8 i11 i12 i13 i14 i15 i16 i17 i18 i20 i21 hsz
  have h11 := asks15_h11 aa bb nv mg mt LL al nn cl ss cc p1 p2 e1 e2 xc ga gb gd g11 g13 g15 g17 g20 g21 n hh dd w0 a0 ha hb' hnv hmg hmt sa sb hL hLv hnn LR f1 f2 f3 f4 f5 f6 M_ga M_gb M_g15 M_g17 M_g20 M_g21 M_gd M_g11 M_g13 i2 i5 i6 i8 i11 i12 i13 i14 i15 i16 i17 i18 i20 i21 hsz
  have h12 := asks15_h12 aa bb nv mg mt LL al nn cl ss cc p1 p2 e1 e2 xc ga gb gd g11 g13 g15 g17 g20 g21 n hh dd w0 a0 ha hb' hnv hmg hmt sa sb hL hLv hnn LR f1 f2 f3 f4 f5 f6 M_ga M_gb M_g15 M_g17 M_g20 M_g21 M_gd M_g11 M_g13 i2 i5 i6 i8 i11 i12 i13 i14 i15 i16 i17 i18 i20 i21 hsz
  have h13 := asks15_h13 aa bb nv mg mt LL al nn cl ss cc p1 p2 e1 e2 xc ga gb gd g11 g13 g15 g17 g20 g21 n hh dd w0 a0 ha hb' hnv hmg hmt sa sb hL hLv hnn LR f1 f2 f3 f4 f5 f6 M_ga M_gb M_g15 M_g17 M_g20 M_g21 M_gd M_g11 M_g13 i2 i5 i6 i8 i11 i12 i13 i14 i15 i16 i17 i18 i20 i21 hsz
  have h14 := asks15_h14 aa bb nv mg mt LL al nn cl ss cc p1 p2 e1 e2 xc ga gb gd g11 g13 g15 g17 g20 g21 n hh dd w0 a0 ha hb' hnv hmg hmt sa sb hL hLv hnn LR f1 f2 f3 f4 f5 f6 M_ga M_gb M_g15 M_g17 M_g20 M_g21 M_gd M_g11 M_g13 i2 i5 i6 i8 i11 i12 i13 i14 i15 i16 i17 i18 i20 i21 hsz
  have h15 := asks15_h15 aa bb nv mg mt LL al nn cl ss cc p1 p2 e1 e2 xc ga gb gd g11 g13 g15 g17 g20 g21 n hh dd w0 a0 ha hb' hnv hmg hmt sa sb hL hLv hnn LR f1 f2 f3 f4 f5 f6 M_ga M_gb M_g15 M_g17 M_g20 M_g21 M_gd M_g11 M_g13 i2 i5 i6 i8 i11 i12 i13 i14 i15 i16 i17 i18 i20 i21 hsz
  have h16 := asks15_h16 aa bb nv mg mt LL al nn cl ss cc p1 p2 e1 e2 xc ga gb gd g11 g13 g15 g17 g20 g21 n hh dd w0 a0 ha hb' hnv hmg hmt sa sb hL hLv hnn LR f1 f2 f3 f4 f5 f6 M_ga M_gb M_g15 M_g17 M_g20 M_g21 M_gd M_g11 M_g13 i2 i5 i6 i8 i11 i12 i13 i14 i15 i16 i17 i18 i20 i21 hsz
  have h17 := asks15_h17 aa bb nv mg mt LL al nn cl ss cc p1 p2 e1 e2 xc ga gb gd g11 g13 g15 g17 g20 g21 n hh dd w0 a0 ha hb' hnv hmg hmt sa sb hL hLv hnn LR f1 f2 f3 f4 f5 f6 M_ga M_gb M_g15 M_g17 M_g20 M_g21 M_gd M_g11 M_g13 i2 i5 i6 i8 i11 i12 i13 i14 i15 i16 i17 i18 i20 i21 hsz
  have h18 := asks15_h18 aa bb nv mg mt LL al nn cl ss cc p1 p2 e1 e2 xc ga gb gd g11 g13 g15 g17 g20 g21 n hh dd w0 a0 ha hb' hnv hmg hmt sa sb hL hLv hnn LR f1 f2 f3 f4 f5 f6 M_ga M_gb M_g15 M_g17 M_g20 M_g21 M_gd M_g11 M_g13 i2 i5 i6 i8 i11 i12 i13 i14 i15 i16 i17 i18 i20 i21 hsz
  have h19 := asks15_h19 aa bb nv mg mt LL al nn cl ss cc p1 p2 e1 e2 xc ga gb gd g11 g13 g15 g17 g20 g21 n hh dd w0 a0 ha hb' hnv hmg hmt sa sb hL hLv hnn LR f1 f2 f3 f4 f5 f6 M_ga M_gb M_g15 M_g17 M_g20 M_g21 M_gd M_g11 M_g13 i2 i5 i6 i8 i11 i12 i13 i14 i15 i16 i17 i18 i20 i21 hsz
  have h20 := asks15_h20 aa bb nv mg mt LL al nn cl ss cc p1 p2 e1 e2 xc ga gb gd g11 g13 g15 g17 g20 g21 n hh dd w0 a0 ha hb' hnv hmg hmt sa sb hL hLv hnn LR f1 f2 f3 f4 f5 f6 M_ga M_gb M_g15 M_g17 M_g20 M_g21 M_gd M_g11 M_g13 i2 i5 i6 i8 i11 i12 i13 i14 i15 i16 i17 i18 i20 i21 hsz
  have h21 := asks15_h21 aa bb nv mg mt LL al nn cl ss cc p1 p2 e1 e2 xc ga gb gd g11 g13 g15 g17 g20 g21 n hh dd w0 a0 ha hb' hnv hmg hmt sa sb hL hLv hnn LR f1 f2 f3 f4 f5 f6 M_ga M_gb M_g15 M_g17 M_g20 M_g21 M_gd M_g11 M_g13 i2 i5 i6 i8 i11 i12 i13 i14 i15 i16 i17 i18 i20 i21 hsz
  have h22 := asks15_h22 aa bb nv mg mt LL al nn cl ss cc p1 p2 e1 e2 xc ga gb gd g11 g13 g15 g17 g20 g21 n hh dd w0 a0 ha hb' hnv hmg hmt sa sb hL hLv hnn LR f1 f2 f3 f4 f5 f6 M_ga M_gb M_g15 M_g17 M_g20 M_g21 M_gd M_g11 M_g13 i2 i5 i6 i8 i11 i12 i13 i14 i15 i16 i17 i18 i20 i21 hsz
  have h23 := asks15_h23 aa bb nv mg mt LL al nn cl ss cc p1 p2 e1 e2 xc ga gb gd g11 g13 g15 g17 g20 g21 n hh dd w0 a0 ha hb' hnv hmg hmt sa sb hL hLv hnn LR f1 f2 f3 f4 f5 f6 M_ga M_gb M_g15 M_g17 M_g20 M_g21 M_gd M_g11 M_g13 i2 i5 i6 i8 i11 i12 i13 i14 i15 i16 i17 i18 i20 i21 hsz
  have h24 := asks15_h24 aa bb nv mg mt LL al nn cl ss cc p1 p2 e1 e2 xc ga gb gd g11 g13 g15 g17 g20 g21 n hh dd w0 a0 ha hb' hnv hmg hmt sa sb hL hLv hnn LR f1 f2 f3 f4 f5 f6 M_ga M_gb M_g15 M_g17 M_g20 M_g21 M_gd M_g11 M_g13 i2 i5 i6 i8 i11 i12 i13 i14 i15 i16 i17 i18 i20 i21 hsz
  have h25 := asks15_h25 aa bb nv mg mt LL al nn cl ss cc p1 p2 e1 e2 xc ga gb gd g11 g13 g15 g17 g20 g21 n hh dd w0 a0 ha hb' hnv hmg hmt sa sb hL hLv hnn LR f1 f2 f3 f4 f5 f6 M_ga M_gb M_g15 M_g17 M_g20 M_g21 M_gd M_g11 M_g13 i2 i5 i6 i8 i11 i12 i13 i14 i15 i16 i17 i18 i20 i21 hsz
  have h26 := asks15_h26 aa bb nv mg mt LL al nn cl ss cc p1 p2 e1 e2 xc ga gb gd g11 g13 g15 g17 g20 g21 n hh dd w0 a0 ha hb' hnv hmg hmt sa sb hL hLv hnn LR f1 f2 f3 f4 f5 f6 M_ga M_gb M_g15 M_g17 M_g20 M_g21 M_gd M_g11 M_g13 i2 i5 i6 i8 i11 i12 i13 i14 i15 i16 i17 i18 i20 i21 hsz
  have h27 := asks15_h27 aa bb nv mg mt LL al nn cl ss cc p1 p2 e1 e2 xc ga gb gd g11 g13 g15 g17 g20 g21 n hh dd w0 a0 ha hb' hnv hmg hmt sa sb hL hLv hnn LR f1 f2 f3 f4 f5 f6 M_ga M_gb M_g15 M_g17 M_g20 M_g21 M_gd M_g11 M_g13 i2 i5 i6 i8 i11 i12 i13 i14 i15 i16 i17 i18 i20 i21 hsz
  have h28 := asks15_h28 aa bb nv mg mt LL al nn cl ss cc p1 p2 e1 e2 xc ga gb gd g11 g13 g15 g17 g20 g21 n hh dd w0 a0 ha hb' hnv hmg hmt sa sb hL hLv hnn LR f1 f2 f3 f4 f5 f6 M_ga M_gb M_g15 M_g17 M_g20 M_g21 M_gd M_g11 M_g13 i2 i5 i6 i8 i11 i12 i13 i14 i15 i16 i17 i18 i20 i21 hsz
  have h29 := asks15_h29 aa bb nv mg mt LL al nn cl ss cc p1 p2 e1 e2 xc ga gb gd g11 g13 g15 g17 g20 g21 n hh dd w0 a0 ha hb' hnv hmg hmt sa sb hL hLv hnn LR f1 f2 f3 f4 f5 f6 M_ga M_gb M_g15 M_g17 M_g20 M_g21 M_gd M_g11 M_g13 i2 i5 i6 i8 i11 i12 i13 i14 i15 i16 i17 i18 i20 i21 hsz
  have h30 := asks15_h30 aa bb nv mg mt LL al nn cl ss cc p1 p2 e1 e2 xc ga gb gd g11 g13 g15 g17 g20 g21 n hh dd w0 a0 ha hb' hnv hmg hmt sa sb hL hLv hnn LR f1 f2 f3 f4 f5 f6 M_ga M_gb M_g15 M_g17 M_g20 M_g21 M_gd M_g11 M_g13 i2 i5 i6 i8 i11 i12 i13 i14 i15 i16 i17 i18 i20 i21 hsz
  have h31 := asks15_h31 aa bb nv mg mt LL al nn cl ss cc p1 p2 e1 e2 xc ga gb gd g11 g13 g15 g17 g20 g21 n hh dd w0 a0 ha hb' hnv hmg hmt sa sb hL hLv hnn LR f1 f2 f3 f4 f5 f6 M_ga M_gb M_g15 M_g17 M_g20 M_g21 M_gd M_g11 M_g13 i2 i5 i6 i8 i11 i12 i13 i14 i15 i16 i17 i18 i20 i21 hsz
  have h32 := asks15_h32 aa bb nv mg mt LL al nn cl ss cc p1 p2 e1 e2 xc ga gb gd g11 g13 g15 g17 g20 g21 n hh dd w0 a0 ha hb' hnv hmg hmt sa sb hL hLv hnn LR f1 f2 f3 f4 f5 f6 M_ga M_gb M_g15 M_g17 M_g20 M_g21 M_gd M_g11 M_g13 i2 i5 i6 i8 i11 i12 i13 i14 i15 i16 i17 i18 i20 i21 hsz
  have h33 := asks15_h33 aa bb nv mg mt LL al nn cl ss cc p1 p2 e1 e2 xc ga gb gd g11 g13 g15 g17 g20 g21 n hh dd w0 a0 ha hb' hnv hmg hmt sa sb hL hLv hnn LR f1 f2 f3 f4 f5 f6 M_ga M_gb M_g15 M_g17 M_g20 M_g21 M_gd M_g11 M_g13 i2 i5 i6 i8 i11 i12 i13 i14 i15 i16 i17 i18 i20 i21 hsz
  have h34 := asks15_h34 aa bb nv mg mt LL al nn cl ss cc p1 p2 e1 e2 xc ga gb gd g11 g13 g15 g17 g20 g21 n hh dd w0 a0 ha hb' hnv hmg hmt sa sb hL hLv hnn LR f1 f2 f3 f4 f5 f6 M_ga M_gb M_g15 M_g17 M_g20 M_g21 M_gd M_g11 M_g13 i2 i5 i6 i8 i11 i12 i13 i14 i15 i16 i17 i18 i20 i21 hsz
  have h35 := asks15_h35 aa bb nv mg mt LL al nn cl ss cc p1 p2 e1 e2 xc ga gb gd g11 g13 g15 g17 g20 g21 n hh dd w0 a0 ha hb' hnv hmg hmt sa sb hL hLv hnn LR f1 f2 f3 f4 f5 f6 M_ga M_gb M_g15 M_g17 M_g20 M_g21 M_gd M_g11 M_g13 i2 i5 i6 i8 i11 i12 i13 i14 i15 i16 i17 i18 i20 i21 hsz
  have h36 := asks15_h36 aa bb nv mg mt LL al nn cl ss cc p1 p2 e1 e2 xc ga gb gd g11 g13 g15 g17 g20 g21 n hh dd w0 a0 ha hb' hnv hmg hmt sa sb hL hLv hnn LR f1 f2 f3 f4 f5 f6 M_ga M_gb M_g15 M_g17 M_g20 M_g21 M_gd M_g11 M_g13 i2 i5 i6 i8 i11 i12 i13 i14 i15 i16 i17 i18 i20 i21 hsz
  have h37 := asks15_h37 aa bb nv mg mt LL al nn cl ss cc p1 p2 e1 e2 xc ga gb gd g11 g13 g15 g17 g20 g21 n hh dd w0 a0 ha hb' hnv hmg hmt sa sb hL hLv hnn LR f1 f2 f3 f4 f5 f6 M_ga M_gb M_g15 M_g17 M_g20 M_g21 M_gd M_g11 M_g13 i2 i5 i6 i8 i11 i12 i13 i14 i15 i16 i17 i18 i20 i21 hsz
  have h38 := asks15_h38 aa bb nv mg mt LL al nn cl ss cc p1 p2 e1 e2 xc ga gb gd g11 g13 g15 g17 g20 g21 n hh dd w0 a0 ha hb' hnv hmg hmt sa sb hL hLv hnn LR f1 f2 f3 f4 f5 f6 M_ga M_gb M_g15 M_g17 M_g20 M_g21 M_gd M_g11 M_g13 i2 i5 i6 i8 i11 i12 i13 i14 i15 i16 i17 i18 i20 i21 hsz
  have h39 := asks15_h39 aa bb nv mg mt LL al nn cl ss cc p1 p2 e1 e2 xc ga gb gd g11 g13 g15 g17 g20 g21 n hh dd w0 a0 ha hb' hnv hmg hmt sa sb hL hLv hnn LR f1 f2 f3 f4 f5 f6 M_ga M_gb M_g15 M_g17 M_g20 M_g21 M_gd M_g11 M_g13 i2 i5 i6 i8 i11 i12 i13 i14 i15 i16 i17 i18 i20 i21 hsz
  have h40 := asks15_h40 aa bb nv mg mt LL al nn cl ss cc p1 p2 e1 e2 xc ga gb gd g11 g13 g15 g17 g20 g21 n hh dd w0 a0 ha hb' hnv hmg hmt sa sb hL hLv hnn LR f1 f2 f3 f4 f5 f6 M_ga M_gb M_g15 M_g17 M_g20 M_g21 M_gd M_g11 M_g13 i2 i5 i6 i8 i11 i12 i13 i14 i15 i16 i17 i18 i20 i21 hsz
  have h41 := asks15_h41 aa bb nv mg mt LL al nn cl ss cc p1 p2 e1 e2 xc ga gb gd g11 g13 g15 g17 g20 g21 n hh dd w0 a0 ha hb' hnv hmg hmt sa sb hL hLv hnn LR f1 f2 f3 f4 f5 f6 M_ga M_gb M_g15 M_g17 M_g20 M_g21 M_gd M_g11 M_g13 i2 i5 i6 i8 i11 i12 i13 i14 i15 i16 i17 i18 i20 i21 hsz
  have h42 := asks15_h42 aa bb nv mg mt LL al nn cl ss cc p1 p2 e1 e2 xc ga gb gd g11 g13 g15 g17 g20 g21 n hh dd w0 a0 ha hb' hnv hmg hmt sa sb hL hLv hnn LR f1 f2 f3 f4 f5 f6 M_ga M_gb M_g15 M_g17 M_g20 M_g21 M_gd M_g11 M_g13 i2 i5 i6 i8 i11 i12 i13 i14 i15 i16 i17 i18 i20 i21 hsz
  have h43 := asks15_h43 aa bb nv mg mt LL al nn cl ss cc p1 p2 e1 e2 xc ga gb gd g11 g13 g15 g17 g20 g21 n hh dd w0 a0 ha hb' hnv hmg hmt sa sb hL hLv hnn LR f1 f2 f3 f4 f5 f6 M_ga M_gb M_g15 M_g17 M_g20 M_g21 M_gd M_g11 M_g13 i2 i5 i6 i8 i11 i12 i13 i14 i15 i16 i17 i18 i20 i21 hsz
  have h44 := asks15_h44 aa bb nv mg mt LL al nn cl ss cc p1 p2 e1 e2 xc ga gb gd g11 g13 g15 g17 g20 g21 n hh dd w0 a0 ha hb' hnv hmg hmt sa sb hL hLv hnn LR f1 f2 f3 f4 f5 f6 M_ga M_gb M_g15 M_g17 M_g20 M_g21 M_gd M_g11 M_g13 i2 i5 i6 i8 i11 i12 i13 i14 i15 i16 i17 i18 i20 i21 hsz
  have h45 := asks15_h45 aa bb nv mg mt LL al nn cl ss cc p1 p2 e1 e2 xc ga gb gd g11 g13 g15 g17 g20 g21 n hh dd w0 a0 ha hb' hnv hmg hmt sa sb hL hLv hnn LR f1 f2 f3 f4 f5 f6 M_ga M_gb M_g15 M_g17 M_g20 M_g21 M_gd M_g11 M_g13 i2 i5 i6 i8 i11 i12 i13 i14 i15 i16 i17 i18 i20 i21 hsz
  have h46 := asks15_h46 aa bb nv mg mt LL al nn cl ss cc p1 p2 e1 e2 xc ga gb gd g11 g13 g15 g17 g20 g21 n hh dd w0 a0 ha hb' hnv hmg hmt sa sb hL hLv hnn LR f1 f2 f3 f4 f5 f6 M_ga M_gb M_g15 M_g17 M_g20 M_g21 M_gd M_g11 M_g13 i2 i5 i6 i8 i11 i12 i13 i14 i15 i16 i17 i18 i20 i21 hsz
  have h47 := asks15_h47 aa bb nv mg mt LL al nn cl ss cc p1 p2 e1 e2 xc ga gb gd g11 g13 g15 g17 g20 g21 n hh dd w0 a0 ha hb' hnv hmg hmt sa sb hL hLv hnn LR f1 f2 f3 f4 f5 f6 M_ga M_gb M_g15 M_g17 M_g20 M_g21 M_gd M_g11 M_g13 i2 i5 i6 i8 i11 i12 i13 i14 i15 i16 i17 i18 i20 i21 hsz
  have h48 := asks15_h48 aa bb nv mg mt LL al nn cl ss cc p1 p2 e1 e2 xc ga gb gd g11 g13 g15 g17 g20 g21 n hh dd w0 a0 ha hb' hnv hmg hmt sa sb hL hLv hnn LR f1 f2 f3 f4 f5 f6 M_ga M_gb M_g15 M_g17 M_g20 M_g21 M_gd M_g11 M_g13 i2 i5 i6 i8 i11 i12 i13 i14 i15 i16 i17 i18 i20 i21 hsz
  have h49 := asks15_h49 aa bb nv mg mt LL al nn cl ss cc p1 p2 e1 e2 xc ga gb gd g11 g13 g15 g17 g20 g21 n hh dd w0 a0 ha hb' hnv hmg hmt sa sb hL hLv hnn LR f1 f2 f3 f4 f5 f6 M_ga M_gb M_g15 M_g17 M_g20 M_g21 M_gd M_g11 M_g13 i2 i5 i6 i8 i11 i12 i13 i14 i15 i16 i17 i18 i20 i21 hsz
  have h50 := asks15_h50 aa bb nv mg mt LL al nn cl ss cc p1 p2 e1 e2 xc ga gb gd g11 g13 g15 g17 g20 g21 n hh dd w0 a0 ha hb' hnv hmg hmt sa sb hL hLv hnn LR f1 f2 f3 f4 f5 f6 M_ga M_gb M_g15 M_g17 M_g20 M_g21 M_gd M_g11 M_g13 i2 i5 i6 i8 i11 i12 i13 i14 i15 i16 i17 i18 i20 i21 hsz
  have h51 := asks15_h51 aa bb nv mg mt LL al nn cl ss cc p1 p2 e1 e2 xc ga gb gd g11 g13 g15 g17 g20 g21 n hh dd w0 a0 ha hb' hnv hmg hmt sa sb hL hLv hnn LR f1 f2 f3 f4 f5 f6 M_ga M_gb M_g15 M_g17 M_g20 M_g21 M_gd M_g11 M_g13 i2 i5 i6 i8 i11 i12 i13 i14 i15 i16 i17 i18 i20 i21 hsz
  have h52 := asks15_h52 aa bb nv mg mt LL al nn cl ss cc p1 p2 e1 e2 xc ga gb gd g11 g13 g15 g17 g20 g21 n hh dd w0 a0 ha hb' hnv hmg hmt sa sb hL hLv hnn LR f1 f2 f3 f4 f5 f6 M_ga M_gb M_g15 M_g17 M_g20 M_g21 M_gd M_g11 M_g13 i2 i5 i6 i8 i11 i12 i13 i14 i15 i16 i17 i18 i20 i21 hsz
  have h53 := asks15_h53 aa bb nv mg mt LL al nn cl ss cc p1 p2 e1 e2 xc ga gb gd g11 g13 g15 g17 g20 g21 n hh dd w0 a0 ha hb' hnv hmg hmt sa sb hL hLv hnn LR f1 f2 f3 f4 f5 f6 M_ga M_gb M_g15 M_g17 M_g20 M_g21 M_gd M_g11 M_g13 i2 i5 i6 i8 i11 i12 i13 i14 i15 i16 i17 i18 i20 i21 hsz
  have h54 := asks15_h54 aa bb nv mg mt LL al nn cl ss cc p1 p2 e1 e2 xc ga gb gd g11 g13 g15 g17 g20 g21 n hh dd w0 a0 ha hb' hnv hmg hmt sa sb hL hLv hnn LR f1 f2 f3 f4 f5 f6 M_ga M_gb M_g15 M_g17 M_g20 M_g21 M_gd M_g11 M_g13 i2 i5 i6 i8 i11 i12 i13 i14 i15 i16 i17 i18 i20 i21 hsz
  have h55 := asks15_h55 aa bb nv mg mt LL al nn cl ss cc p1 p2 e1 e2 xc ga gb gd g11 g13 g15 g17 g20 g21 n hh dd w0 a0 ha hb' hnv hmg hmt sa sb hL hLv hnn LR f1 f2 f3 f4 f5 f6 M_ga M_gb M_g15 M_g17 M_g20 M_g21 M_gd M_g11 M_g13 i2 i5 i6 i8 i11 i12 i13 i14 i15 i16 i17 i18 i20 i21 hsz
  have h56 := asks15_h56 aa bb nv mg mt LL al nn cl ss cc p1 p2 e1 e2 xc ga gb gd g11 g13 g15 g17 g20 g21 n hh dd w0 a0 ha hb' hnv hmg hmt sa sb hL hLv hnn LR f1 f2 f3 f4 f5 f6 M_ga M_gb M_g15 M_g17 M_g20 M_g21 M_gd M_g11 M_g13 i2 i5 i6 i8 i11 i12 i13 i14 i15 i16 i17 i18 i20 i21 hsz
  have h57 := asks15_h57 aa bb nv mg mt LL al nn cl ss cc p1 p2 e1 e2 xc ga gb gd g11 g13 g15 g17 g20 g21 n hh dd w0 a0 ha hb' hnv hmg hmt sa sb hL hLv hnn LR f1 f2 f3 f4 f5 f6 M_ga M_gb M_g15 M_g17 M_g20 M_g21 M_gd M_g11 M_g13 i2 i5 i6 i8 i11 i12 i13 i14 i15 i16 i17 i18 i20 i21 hsz
  have h58 := asks15_h58 aa bb nv mg mt LL al nn cl ss cc p1 p2 e1 e2 xc ga gb gd g11 g13 g15 g17 g20 g21 n hh dd w0 a0 ha hb' hnv hmg hmt sa sb hL hLv hnn LR f1 f2 f3 f4 f5 f6 M_ga M_gb M_g15 M_g17 M_g20 M_g21 M_gd M_g11 M_g13 i2 i5 i6 i8 i11 i12 i13 i14 i15 i16 i17 i18 i20 i21 hsz
  have h59 := asks15_h59 aa bb nv mg mt LL al nn cl ss cc p1 p2 e1 e2 xc ga gb gd g11 g13 g15 g17 g20 g21 n hh dd w0 a0 ha hb' hnv hmg hmt sa sb hL hLv hnn LR f1 f2 f3 f4 f5 f6 M_ga M_gb M_g15 M_g17 M_g20 M_g21 M_gd M_g11 M_g13 i2 i5 i6 i8 i11 i12 i13 i14 i15 i16 i17 i18 i20 i21 hsz
  have h60 := asks15_h60 aa bb nv mg mt LL al nn cl ss cc p1 p2 e1 e2 xc ga gb gd g11 g13 g15 g17 g20 g21 n hh dd w0 a0 ha hb' hnv hmg hmt sa sb hL hLv hnn LR f1 f2 f3 f4 f5 f6 M_ga M_gb M_g15 M_g17 M_g20 M_g21 M_gd M_g11 M_g13 i2 i5 i6 i8 i11 i12 i13 i14 i15 i16 i17 i18 i20 i21 hsz
  have h61 := asks15_h61 aa bb nv mg mt LL al nn cl ss cc p1 p2 e1 e2 xc ga gb gd g11 g13 g15 g17 g20 g21 n hh dd w0 a0 ha hb' hnv hmg hmt sa sb hL hLv hnn LR f1 f2 f3 f4 f5 f6 M_ga M_gb M_g15 M_g17 M_g20 M_g21 M_gd M_g11 M_g13 i2 i5 i6 i8 i11 i12 i13 i14 i15 i16 i17 i18 i20 i21 hsz
  have h62 := asks15_h62 aa bb nv mg mt LL al nn cl ss cc p1 p2 e1 e2 xc ga gb gd g11 g13 g15 g17 g20 g21 n hh dd w0 a0 ha hb' hnv hmg hmt sa sb hL hLv hnn LR f1 f2 f3 f4 f5 f6 M_ga M_gb M_g15 M_g17 M_g20 M_g21 M_gd M_g11 M_g13 i2 i5 i6 i8 i11 i12 i13 i14 i15 i16 i17 i18 i20 i21 hsz
  have h63 := asks15_h63 aa bb nv mg mt LL al nn cl ss cc p1 p2 e1 e2 xc ga gb gd g11 g13 g15 g17 g20 g21 n hh dd w0 a0 ha hb' hnv hmg hmt sa sb hL hLv hnn LR f1 f2 f3 f4 f5 f6 M_ga M_gb M_g15 M_g17 M_g20 M_g21 M_gd M_g11 M_g13 i2 i5 i6 i8 i11 i12 i13 i14 i15 i16 i17 i18 i20 i21 hsz
  have h64 := asks15_h64 aa bb nv mg mt LL al nn cl ss cc p1 p2 e1 e2 xc ga gb gd g11 g13 g15 g17 g20 g21 n hh dd w0 a0 ha hb' hnv hmg hmt sa sb hL hLv hnn LR f1 f2 f3 f4 f5 f6 M_ga M_gb M_g15 M_g17 M_g20 M_g21 M_gd M_g11 M_g13 i2 i5 i6 i8 i11 i12 i13 i14 i15 i16 i17 i18 i20 i21 hsz
  have h65 := asks15_h65 aa bb nv mg mt LL al nn cl ss cc p1 p2 e1 e2 xc ga gb gd g11 g13 g15 g17 g20 g21 n hh dd w0 a0 ha hb' hnv hmg hmt sa sb hL hLv hnn LR f1 f2 f3 f4 f5 f6 M_ga M_gb M_g15 M_g17 M_g20 M_g21 M_gd M_g11 M_g13 i2 i5 i6 i8 i11 i12 i13 i14 i15 i16 i17 i18 i20 i21 hsz
  have h66 := asks15_h66 aa bb nv mg mt LL al nn cl ss cc p1 p2 e1 e2 xc ga gb gd g11 g13 g15 g17 g20 g21 n hh dd w0 a0 ha hb' hnv hmg hmt sa sb hL hLv hnn LR f1 f2 f3 f4 f5 f6 M_ga M_gb M_g15 M_g17 M_g20 M_g21 M_gd M_g11 M_g13 i2 i5 i6 i8 i11 i12 i13 i14 i15 i16 i17 i18 i20 i21 hsz
  refine Reg.region_all (by kernel_rfl) (asks15R aa bb nv mg mt LL al nn cl ss cc p1 p2 e1 e2 xc ga gb gd g11 g13 g15 g17 g20 g21 n hh dd) (by rw [hn, hsz]; kernel_rfl) (asks15_stable aa bb nv mg mt LL al nn cl ss cc p1 p2 e1 e2 xc ga gb gd g11 g13 g15 g17 g20 g21 n hh dd) (fun i hi => ?_) (fun v w hb hR => ?_)
  · rw [hn] at hi
    match i, List.mem_range.1 hi with
    | 0, _ => exact h0
    | 1, _ => exact h1
    | 2, _ => exact h2
    | 3, _ => exact h3
    | 4, _ => exact h4
    | 5, _ => exact h5
    | 6, _ => exact h6
    | 7, _ => exact h7
    | 8, _ => exact h8
    | 9, _ => exact h9
    | 10, _ => exact h10
    | 11, _ => exact h11
    | 12, _ => exact h12
    | 13, _ => exact h13
    | 14, _ => exact h14
    | 15, _ => exact h15
    | 16, _ => exact h16
    | 17, _ => exact h17
    | 18, _ => exact h18
    | 19, _ => exact h19
    | 20, _ => exact h20
    | 21, _ => exact h21
    | 22, _ => exact h22
    | 23, _ => exact h23
    | 24, _ => exact h24
    | 25, _ => exact h25
    | 26, _ => exact h26
    | 27, _ => exact h27
    | 28, _ => exact h28
    | 29, _ => exact h29
    | 30, _ => exact h30
    | 31, _ => exact h31
    | 32, _ => exact h32
    | 33, _ => exact h33
    | 34, _ => exact h34
    | 35, _ => exact h35
    | 36, _ => exact h36
    | 37, _ => exact h37
    | 38, _ => exact h38
    | 39, _ => exact h39
    | 40, _ => exact h40
    | 41, _ => exact h41
    | 42, _ => exact h42
    | 43, _ => exact h43
    | 44, _ => exact h44
    | 45, _ => exact h45
    | 46, _ => exact h46
    | 47, _ => exact h47
    | 48, _ => exact h48
    | 49, _ => exact h49
    | 50, _ => exact h50
    | 51, _ => exact h51
    | 52, _ => exact h52
    | 53, _ => exact h53
    | 54, _ => exact h54
    | 55, _ => exact h55
    | 56, _ => exact h56
    | 57, _ => exact h57
    | 58, _ => exact h58
    | 59, _ => exact h59
    | 60, _ => exact h60
    | 61, _ => exact h61
    | 62, _ => exact h62
    | 63, _ => exact h63
    | 64, _ => exact h64
    | 65, _ => exact h65
    | 66, _ => exact h66
    | (_ + 67), h => omega
  · rw [hn] at hR ⊢
    have v0 : v 0 = (Value.agg (dC p1 p2)) := hR 0 (by decide)
    have v1 : v 1 = (Value.agg (dC p1 p2)) := hR 1 (by decide)
    have v2 : v 2 = (Value.bool true) := hR 2 (by decide)
    have v3 : v 3 = (Value.bool true) := hR 3 (by decide)
    have v4 : v 4 = (Value.int IntKind.i64 e1) := hR 4 (by decide)
    have v5 : v 5 = (Value.int IntKind.i64 e1) := hR 5 (by decide)
    have v6 : v 6 = (Value.bool true) := hR 6 (by decide)
    have v7 : v 7 = (Value.bool true) := hR 7 (by decide)
    have v8 : v 8 = (Value.bool true) := hR 8 (by decide)
    have v9 : v 9 = (Value.agg (vC nv)) := hR 9 (by decide)
    have v10 : v 10 = (Value.agg (vC nv)) := hR 10 (by decide)
    have v11 : v 11 = (Value.bool true) := hR 11 (by decide)
    have v12 : v 12 = (Value.bool true) := hR 12 (by decide)
    have v13 : v 13 = (Value.bool true) := hR 13 (by decide)
    have v14 : v 14 = (Value.int IntKind.i64 e2) := hR 14 (by decide)
    have v15 : v 15 = (Value.int IntKind.i64 e2) := hR 15 (by decide)
    have v16 : v 16 = (Value.bool true) := hR 16 (by decide)
    have v17 : v 17 = (Value.bool true) := hR 17 (by decide)
    have v18 : v 18 = (Value.bool true) := hR 18 (by decide)
    have v19 : v 19 = (Value.agg (vC mg)) := hR 19 (by decide)
    have v20 : v 20 = (Value.slice al nn cl) := hR 20 (by decide)
    have v21 : v 21 = (Value.agg (vC mg)) := hR 21 (by decide)
    have v22 : v 22 = (Value.bool true) := hR 22 (by decide)
    have v23 : v 23 = (Value.bool true) := hR 23 (by decide)
    have v24 : v 24 = (Value.bool true) := hR 24 (by decide)
    have v25 : v 25 = (Value.agg (vC mt)) := hR 25 (by decide)
    have v26 : v 26 = (Value.slice al nn cl) := hR 26 (by decide)
    have v27 : v 27 = (Value.agg (vC mt)) := hR 27 (by decide)
    have v28 : v 28 = (Value.bool true) := hR 28 (by decide)
    have v29 : v 29 = (Value.bool true) := hR 29 (by decide)
    have v30 : v 30 = (Value.bool true) := hR 30 (by decide)
    have v31 : v 31 = (Value.agg (vC aa)) := hR 31 (by decide)
    have v32 : v 32 = (Value.agg (dC ss cc)) := hR 32 (by decide)
    have v33 : v 33 = (Value.bool hh) := hR 33 (by decide)
    have v34 : v 34 = (Value.agg (vC aa)) := hR 34 (by decide)
    have v35 : v 35 = (Value.agg (dC ss cc)) := hR 35 (by decide)
    have v36 : v 36 = (Value.bool hh) := hR 36 (by decide)
    have v37 : v 37 = (Value.bool true) := hR 37 (by decide)
    have v38 : v 38 = (Value.bool true) := hR 38 (by decide)
    have v39 : v 39 = (Value.bool true) := hR 39 (by decide)
    have v40 : v 40 = (Value.agg (vC aa)) := hR 40 (by decide)
    have v41 : v 41 = (Value.agg (vC bb)) := hR 41 (by decide)
    have v42 : v 42 = (Value.bool dd) := hR 42 (by decide)
    have v43 : v 43 = (Value.agg (vC aa)) := hR 43 (by decide)
    have v44 : v 44 = (Value.agg (vC bb)) := hR 44 (by decide)
    have v45 : v 45 = (Value.bool dd) := hR 45 (by decide)
    have v46 : v 46 = (Value.bool true) := hR 46 (by decide)
    have v47 : v 47 = (Value.bool true) := hR 47 (by decide)
    have v48 : v 48 = (Value.bool true) := hR 48 (by decide)
    have v49 : v 49 = (Value.agg (vC aa)) := hR 49 (by decide)
    have v50 : v 50 = (Value.agg (vC bb)) := hR 50 (by decide)
    have v51 : v 51 = (Value.int IntKind.i64 xc) := hR 51 (by decide)
    have v52 : v 52 = (Value.agg (vC aa)) := hR 52 (by decide)
    have v53 : v 53 = (Value.agg (vC bb)) := hR 53 (by decide)
    have v54 : v 54 = (Value.int IntKind.i64 xc) := hR 54 (by decide)
    have v55 : v 55 = (Value.bool true) := hR 55 (by decide)
    have v56 : v 56 = (Value.bool true) := hR 56 (by decide)
    have v57 : v 57 = (Value.bool true) := hR 57 (by decide)
    have v58 : v 58 = (Value.agg (vC aa)) := hR 58 (by decide)
    have v59 : v 59 = (Value.agg (vC bb)) := hR 59 (by decide)
    have v60 : v 60 = (Value.int IntKind.u64 (n : Int)) := hR 60 (by decide)
    have v61 : v 61 = (Value.agg (vC aa)) := hR 61 (by decide)
    have v62 : v 62 = (Value.agg (vC bb)) := hR 62 (by decide)
    have v63 : v 63 = (Value.int IntKind.u64 (n : Int)) := hR 63 (by decide)
    have v64 : v 64 = (Value.bool true) := hR 64 (by decide)
    have v65 : v 65 = (Value.bool true) := hR 65 (by decide)
    have v66 : v 66 = (Value.bool true) := hR 66 (by decide)
    rw [hfin v, v0, v1, v2, v3, v4, v5, v6, v7, v8, v9, v10, v11, v12, v13, v14, v15, v16, v17, v18, v19, v20, v21, v22, v23, v24, v25, v26, v27, v28, v29, v30, v31, v32, v33, v34, v35, v36, v37, v38, v39, v40, v41, v42, v43, v44, v45, v46, v47, v48, v49, v50, v51, v52, v53, v54, v55, v56, v57, v58, v59, v60, v61, v62, v63, v64, v65, v66]
    exact hend w  hb 
end Go.Proofs.Ytfifbjlmbdgmjaa
