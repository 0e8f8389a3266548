/- Regions that draw their order: their obligations (printed by regen2.py). -/
import Derived.Test.YtfifbjlmbdgmjaaVecDe
import Derived.Test.YtfifbjlmbdgmjaaRegT
namespace Go.Proofs.Ytfifbjlmbdgmjaa
open Go.RowKit
set_option linter.unusedVariables false
set_option linter.unusedSimpArgs false
set_option linter.unusedSectionVars false
def vf7aR (bv b8 b10 gs gr nn cc oc rc nl : Nat) (vv xx : List Nat) (l lr : List UInt8) (ee : Int) (vs : Value) (AA oA rA : Option Addr) : Nat → Value → World → Prop
  | 0 => fun x_ _ => x_ = (Value.agg (vC vv))
  | 1 => (fun u_ w_ => ∃ A_ c_, u_ = Value.slice A_ (encV vv).length c_ ∧ RdC w_ A_ (u8v (encV vv)))
  | 2 => fun x_ _ => x_ = (Value.string (bstr (encV vv)))
  | 3 => fun x_ _ => x_ = (Value.agg (vC vv))
  | 4 => (fun u_ w_ => ∃ A_ c_, u_ = Value.slice A_ (encV vv).length c_ ∧ RdC w_ A_ (u8v (encV vv)))
  | 5 => fun x_ _ => x_ = (Value.string (bstr (encV vv)))
  | 6 => fun x_ _ => x_ = (Value.bool true)
  | 7 => fun x_ _ => x_ = (Value.bool true)
  | 8 => fun x_ _ => x_ = (Value.agg (vC xx))
  | 9 => fun x_ _ => x_ = (Value.agg (vC xx))
  | 10 => fun x_ _ => x_ = (Value.bool true)
  | 11 => fun x_ _ => x_ = (Value.bool true)
  | 12 => fun x_ _ => x_ = (Value.bool true)
  | 13 => fun x_ _ => x_ = (Value.int IntKind.i64 ee)
  | 14 => fun x_ _ => x_ = (Value.int IntKind.i64 ee)
  | 15 => fun x_ _ => x_ = (Value.bool true)
  | 16 => fun x_ _ => x_ = (Value.bool true)
  | 17 => fun x_ _ => x_ = (Value.bool true)
  | 18 => fun x_ _ => x_ = (Value.int IntKind.i64 ee)
  | 19 => fun x_ _ => x_ = (Value.bool false)
  | 20 => fun x_ _ => x_ = (Value.bool false)
  | 21 => fun x_ _ => x_ = (Value.pointer (some ⟨gs, 0, none⟩))
  | 22 => fun x_ _ => x_ = (Value.int IntKind.i64 (nl : Int))
  | 23 => fun x_ _ => x_ = (Value.pointer (some ⟨gr, 0, none⟩))
  | 24 => fun x_ _ => x_ = (Value.pointer (some ⟨gr, 0, none⟩))
  | 25 => fun x_ _ => x_ = (Value.pointer (some ⟨gr, 0, none⟩))
  | 26 => fun x_ _ => x_ = (Value.slice rA nl rc)
  | 27 => fun x_ _ => x_ = (Value.int IntKind.i64 (nl : Int))
  | 28 => fun x_ _ => x_ = (Value.bool true)
  | 29 => fun x_ _ => x_ = (Value.bool true)
  | 30 => fun x_ _ => x_ = (Value.bool true)
  | 31 => fun x_ _ => x_ = (Value.bool true)
  | 32 => fun x_ _ => x_ = (Value.slice oA nn oc)
  | 33 => fun x_ _ => x_ = (Value.string (bstr l))
  | 34 => fun x_ _ => x_ = (Value.slice AA nn cc)
  | 35 => fun x_ _ => x_ = (Value.string (bstr l))
  | 36 => fun x_ _ => x_ = (Value.bool true)
  | 37 => fun x_ _ => x_ = (Value.bool true)
  | 38 => fun x_ _ => x_ = (Value.bool true)
  | _ => fun _ _ => True
theorem vf7a_stable (bv b8 b10 gs gr nn cc oc rc nl : Nat) (vv xx : List Nat) (l lr : List UInt8) (ee : Int) (vs : Value) (AA oA rA : Option Addr) : ∀ i_ u_ w_ w_', (vf7aR bv b8 b10 gs gr nn cc oc rc nl vv xx l lr ee vs AA oA rA) i_ u_ w_ → Below w_.heap.size w_ w_' → (vf7aR bv b8 b10 gs gr nn cc oc rc nl vv xx l lr ee vs AA oA rA) i_ u_ w_' := fun i_ u_ w_ w_' h_ hb_ => by
  match i_, h_ with
  | 0, h_ => exact h_
  | 1, h_ => exact ((by obtain ⟨A_, c_, h1_, h2_⟩ := h_; exact ⟨A_, c_, h1_, h2_.below hb_⟩))
  | 2, h_ => exact h_
  | 3, h_ => exact h_
  | 4, h_ => exact ((by obtain ⟨A_, c_, h1_, h2_⟩ := h_; exact ⟨A_, c_, h1_, h2_.below hb_⟩))
  | 5, h_ => exact h_
  | 6, h_ => exact h_
  | 7, h_ => exact h_
  | 8, h_ => exact h_
  | 9, h_ => exact h_
  | 10, h_ => exact h_
  | 11, h_ => exact h_
  | 12, h_ => exact h_
  | 13, h_ => exact h_
  | 14, h_ => exact h_
  | 15, h_ => exact h_
  | 16, h_ => exact h_
  | 17, h_ => exact h_
  | 18, h_ => exact h_
  | 19, h_ => exact h_
  | 20, h_ => exact h_
  | 21, h_ => exact h_
  | 22, h_ => exact h_
  | 23, h_ => exact h_
  | 24, h_ => exact h_
  | 25, h_ => exact h_
  | 26, h_ => exact h_
  | 27, h_ => exact h_
  | 28, h_ => exact h_
  | 29, h_ => exact h_
  | 30, h_ => exact h_
  | 31, h_ => exact h_
  | 32, h_ => exact h_
  | 33, h_ => exact h_
  | 34, h_ => exact h_
  | 35, h_ => exact h_
  | 36, h_ => exact h_
  | 37, h_ => exact h_
  | 38, h_ => exact h_
  | (_ + 39), _ => trivial
section
variable (bv b8 b10 gs gr nn cc oc rc nl : Nat) (vv xx : List Nat) (l lr : List UInt8) (ee : Int) (vs : Value) (AA oA rA : Option Addr) (w0 : World) (a0 : Act)
variable (hv : vv.length = 16) (hx : xx.length = 16) (sv : small vv) (hnl : lr.length = nl)
variable (hSL : ∀ W, Below w0.heap.size w0 W → Src 67 gs vs lr W)
variable (cA : ∀ W, Below w0.heap.size w0 W → (convert 33 9 (.slice AA nn cc)).run Try.prog W = .ok (.string (bstr l)) W)
variable (cO : ∀ W, Below w0.heap.size w0 W → (convert 33 9 (.slice oA nn oc)).run Try.prog W = .ok (.string (bstr l)) W)
variable (hee : ee = 0)
variable (M_bv : ∀ W, Below w0.heap.size w0 W → W.heap[bv]? = some (.cells (vC vv) 24 (0, 0)))
variable (M_b8 : ∀ W, Below w0.heap.size w0 W → W.heap[b8]? = some (.cells (vC xx) 24 (0, 0)))
variable (M_b10 : ∀ W, Below w0.heap.size w0 W → W.heap[b10]? = some (.cells (vC xx) 24 (0, 0)))
variable (CR : ∀ W, Below w0.heap.size w0 W → W.cell? ⟨gr, 0, none⟩ = some (Value.slice rA nl rc))
variable (i1 : a0.eval (.tmp 1) = (Value.slice AA nn cc)) (i2 : a0.eval (.tmp 2) = (Value.pointer (some ⟨bv, 0, none⟩))) (i5 : a0.eval (.tmp 5) = (Value.slice oA nn oc)) (i6 : a0.eval (.tmp 6) = (Value.pointer (some ⟨gs, 0, none⟩))) (i7 : a0.eval (.tmp 7) = (Value.pointer (some ⟨gr, 0, none⟩))) (i8 : a0.eval (.tmp 8) = (Value.pointer (some ⟨b8, 0, none⟩))) (i9 : a0.eval (.tmp 9) = (Value.int IntKind.i64 ee)) (i10 : a0.eval (.tmp 10) = (Value.pointer (some ⟨b10, 0, none⟩))) (i11 : a0.eval (.tmp 11) = (Value.int IntKind.i64 ee)) (hsz : a0.tmps.size = 71)
include bv b8 b10 gs gr nn cc oc rc nl vv xx l lr ee vs AA oA rA w0 a0 hv hx sv hnl hSL cA cO hee M_bv M_b8 M_b10 CR i1 i2 i5 i6 i7 i8 i9 i10 i11 hsz
set_option maxHeartbeats 4000000 in
set_option maxRecDepth 20000 in
theorem vf7a_h0 :
    Reg.OpOK Try.prog (Reg.opsOf Try.f7 7) a0 w0 (vf7aR bv b8 b10 gs gr nn cc oc rc nl vv xx l lr ee vs AA oA rA) (fun _ _ _ _ => True) 0 := by
    refine Reg.op_ok2 (fun af => { dst := some 33, op := Op.load 24 (Operand.tmp 2), type := 24, pos := "law.go:40", after := af, guard := none }) #[] (by kernel_rfl) [] (by kernel_rfl) fun af v W hb hd => ?_
    have e2 := (Reg.gfr_eval0 (ops := (Reg.opsOf Try.f7 7)) (a0 := a0) (v := v) (L := []) 2 (by kernel_rfl)).trans i2
    refine ⟨Reg.wanted_none rfl, ?_⟩
    generalize Reg.gfr (Reg.opsOf Try.f7 7) a0 v [] = G at e2 ⊢
    generalize hρ : G.eval = ρ at e2
    have hρ' : G.eval = ρ := hρ
    exact fun K hK => wp_load_row 24 (.tmp 2) rfl bv (by rw [hρ']; exact e2) 24 (vC vv) (0, 0) _ (M_bv W hb) Try.underlying24 rfl (vec_size hv) (hK _ _ ⟨Below.refl _ _, rfl⟩)
set_option maxHeartbeats 4000000 in
set_option maxRecDepth 20000 in
theorem vf7a_h1 :
    Reg.OpOK Try.prog (Reg.opsOf Try.f7 7) a0 w0 (vf7aR bv b8 b10 gs gr nn cc oc rc nl vv xx l lr ee vs AA oA rA) (fun _ _ _ _ => True) 1 := by
    refine Reg.op_ok2 (fun af => { dst := some 34, op := Op.call { callee := Callee.value (Operand.func 31), args := #[Operand.tmp 33], argTypes := #[24] }, type := 33, pos := "law.go:40", after := af, guard := none }) #[{ on := 0, ground := Ground.data }] (by kernel_rfl) [0] (by kernel_rfl) fun af v W hb hd => ?_
    have d0 : v 0 = (Value.agg (vC vv)) := hd 0 (by decide)
    have e33 := (Reg.gfr_eval (ops := (Reg.opsOf Try.f7 7)) (a0 := a0) (v := v) (L := [0]) 33 0 (by kernel_rfl) (by rw [hsz]; omega)).trans d0
    refine ⟨Reg.wanted_none rfl, ?_⟩
    have eF : ∀ f, (Reg.gfr (Reg.opsOf Try.f7 7) a0 v [0]).eval (.func f) = .func (.func f) #[] #[] := fun _ => rfl
    generalize Reg.gfr (Reg.opsOf Try.f7 7) a0 v [0] = G at e33 eF ⊢
    generalize hρ : G.eval = ρ at e33 eF
    have hρ' : G.eval = ρ := hρ
    refine Reg.go_call 31 #[(Value.agg (vC vv))] (by rw [hρ']; simp [execOp, go_sem, e33, eF]) ((encode_any vv hv sv W).mono fun e w' he => ?_)
    obtain ⟨v_, rfl, hn_⟩ := he
    obtain ⟨A_, c_, rfl, _, _, hr_, _⟩ := RdC.of_own hn_.1
    exact ⟨_, rfl, hn_.2, ⟨A_, c_, rfl, hr_⟩⟩
set_option maxHeartbeats 4000000 in
set_option maxRecDepth 20000 in
theorem vf7a_h2 :
    Reg.OpOK Try.prog (Reg.opsOf Try.f7 7) a0 w0 (vf7aR bv b8 b10 gs gr nn cc oc rc nl vv xx l lr ee vs AA oA rA) (fun _ _ _ _ => True) 2 := by
    refine Reg.op_ok2 (fun af => { dst := some 35, op := Op.convert 33 9 (Operand.tmp 34), type := 9, pos := "law.go:40", after := af, guard := none }) #[{ on := 1, ground := Ground.data }] (by kernel_rfl) [1] (by kernel_rfl) fun af v W hb hd => ?_
    have d1 : ((fun u_ w_ => ∃ A_ c_, u_ = Value.slice A_ (encV vv).length c_ ∧ RdC w_ A_ (u8v (encV vv)))) (v 1) W := hd 1 (by decide)
    have e34 := Reg.gfr_eval (ops := (Reg.opsOf Try.f7 7)) (a0 := a0) (v := v) (L := [1]) 34 1 (by kernel_rfl) (by rw [hsz]; omega)
    refine ⟨Reg.wanted_none rfl, ?_⟩
    generalize Reg.gfr (Reg.opsOf Try.f7 7) a0 v [1] = G at e34 ⊢
    generalize hρ : G.eval = ρ at e34
    have hρ' : G.eval = ρ := hρ
    obtain ⟨A_, c_, hv_, hr_⟩ := d1
    rw [hv_] at e34
    have cv := run_string_of (P := Try.prog) W 33 9 5 Try.underlying33 Try.underlying5 Try.underlying9 A_ (encV vv) c_ hr_
    refine Reg.go_run (Value.string (bstr (encV vv))) W (by rw [hρ']; simp [execOp, go_sem, e34, cv]) ⟨Below.refl _ _, rfl⟩
set_option maxHeartbeats 4000000 in
set_option maxRecDepth 20000 in
theorem vf7a_h3 :
    Reg.OpOK Try.prog (Reg.opsOf Try.f7 7) a0 w0 (vf7aR bv b8 b10 gs gr nn cc oc rc nl vv xx l lr ee vs AA oA rA) (fun _ _ _ _ => True) 3 := by
    refine Reg.op_ok2 (fun af => { dst := some 36, op := Op.load 24 (Operand.tmp 2), type := 24, pos := "law.go:40", after := af, guard := none }) #[] (by kernel_rfl) [] (by kernel_rfl) fun af v W hb hd => ?_
    have e2 := (Reg.gfr_eval0 (ops := (Reg.opsOf Try.f7 7)) (a0 := a0) (v := v) (L := []) 2 (by kernel_rfl)).trans i2
    refine ⟨Reg.wanted_none rfl, ?_⟩
    generalize Reg.gfr (Reg.opsOf Try.f7 7) a0 v [] = G at e2 ⊢
    generalize hρ : G.eval = ρ at e2
    have hρ' : G.eval = ρ := hρ
    exact fun K hK => wp_load_row 24 (.tmp 2) rfl bv (by rw [hρ']; exact e2) 24 (vC vv) (0, 0) _ (M_bv W hb) Try.underlying24 rfl (vec_size hv) (hK _ _ ⟨Below.refl _ _, rfl⟩)
set_option maxHeartbeats 4000000 in
set_option maxRecDepth 20000 in
theorem vf7a_h4 :
    Reg.OpOK Try.prog (Reg.opsOf Try.f7 7) a0 w0 (vf7aR bv b8 b10 gs gr nn cc oc rc nl vv xx l lr ee vs AA oA rA) (fun _ _ _ _ => True) 4 := by
    refine Reg.op_ok2 (fun af => { dst := some 37, op := Op.call { callee := Callee.value (Operand.func 32), args := #[Operand.tmp 36], argTypes := #[24] }, type := 33, pos := "law.go:40", after := af, guard := none }) #[{ on := 3, ground := Ground.data }, { on := 1, ground := Ground.chain }] (by kernel_rfl) [3, 1] (by kernel_rfl) fun af v W hb hd => ?_
    have d3 : v 3 = (Value.agg (vC vv)) := hd 3 (by decide)
    have e36 := (Reg.gfr_eval (ops := (Reg.opsOf Try.f7 7)) (a0 := a0) (v := v) (L := [3, 1]) 36 3 (by kernel_rfl) (by rw [hsz]; omega)).trans d3
    refine ⟨Reg.wanted_none rfl, ?_⟩
    have eF : ∀ f, (Reg.gfr (Reg.opsOf Try.f7 7) a0 v [3, 1]).eval (.func f) = .func (.func f) #[] #[] := fun _ => rfl
    generalize Reg.gfr (Reg.opsOf Try.f7 7) a0 v [3, 1] = G at e36 eF ⊢
    generalize hρ : G.eval = ρ at e36 eF
    have hρ' : G.eval = ρ := hρ
    refine Reg.go_call 32 #[(Value.agg (vC vv))] (by rw [hρ']; simp [execOp, go_sem, e36, eF]) ((rencode_any vv hv sv W).mono fun e w' he => ?_)
    obtain ⟨v_, rfl, hn_⟩ := he
    obtain ⟨A_, c_, rfl, _, _, hr_, _⟩ := RdC.of_own hn_.1
    exact ⟨_, rfl, hn_.2, ⟨A_, c_, rfl, hr_⟩⟩
set_option maxHeartbeats 4000000 in
set_option maxRecDepth 20000 in
theorem vf7a_h5 :
    Reg.OpOK Try.prog (Reg.opsOf Try.f7 7) a0 w0 (vf7aR bv b8 b10 gs gr nn cc oc rc nl vv xx l lr ee vs AA oA rA) (fun _ _ _ _ => True) 5 := by
    refine Reg.op_ok2 (fun af => { dst := some 38, op := Op.convert 33 9 (Operand.tmp 37), type := 9, pos := "law.go:40", after := af, guard := none }) #[{ on := 4, ground := Ground.data }] (by kernel_rfl) [4] (by kernel_rfl) fun af v W hb hd => ?_
    have d4 : ((fun u_ w_ => ∃ A_ c_, u_ = Value.slice A_ (encV vv).length c_ ∧ RdC w_ A_ (u8v (encV vv)))) (v 4) W := hd 4 (by decide)
    have e37 := Reg.gfr_eval (ops := (Reg.opsOf Try.f7 7)) (a0 := a0) (v := v) (L := [4]) 37 4 (by kernel_rfl) (by rw [hsz]; omega)
    refine ⟨Reg.wanted_none rfl, ?_⟩
    generalize Reg.gfr (Reg.opsOf Try.f7 7) a0 v [4] = G at e37 ⊢
    generalize hρ : G.eval = ρ at e37
    have hρ' : G.eval = ρ := hρ
    obtain ⟨A_, c_, hv_, hr_⟩ := d4
    rw [hv_] at e37
    have cv := run_string_of (P := Try.prog) W 33 9 5 Try.underlying33 Try.underlying5 Try.underlying9 A_ (encV vv) c_ hr_
    refine Reg.go_run (Value.string (bstr (encV vv))) W (by rw [hρ']; simp [execOp, go_sem, e37, cv]) ⟨Below.refl _ _, rfl⟩
set_option maxHeartbeats 4000000 in
set_option maxRecDepth 20000 in
theorem vf7a_h6 :
    Reg.OpOK Try.prog (Reg.opsOf Try.f7 7) a0 w0 (vf7aR bv b8 b10 gs gr nn cc oc rc nl vv xx l lr ee vs AA oA rA) (fun _ _ _ _ => True) 6 := by
    refine Reg.op_ok2 (fun af => { dst := some 39, op := Op.binOp BinOp.eql 9 (Operand.tmp 35) (Operand.tmp 38) 9, type := 4, pos := "law.go:40", after := af, guard := none }) #[{ on := 2, ground := Ground.data }, { on := 5, ground := Ground.data }] (by kernel_rfl) [2, 5] (by kernel_rfl) fun af v W hb hd => ?_
    have d2 : v 2 = (Value.string (bstr (encV vv))) := hd 2 (by decide)
    have d5 : v 5 = (Value.string (bstr (encV vv))) := hd 5 (by decide)
    have e35 := (Reg.gfr_eval (ops := (Reg.opsOf Try.f7 7)) (a0 := a0) (v := v) (L := [2, 5]) 35 2 (by kernel_rfl) (by rw [hsz]; omega)).trans d2
    have e38 := (Reg.gfr_eval (ops := (Reg.opsOf Try.f7 7)) (a0 := a0) (v := v) (L := [2, 5]) 38 5 (by kernel_rfl) (by rw [hsz]; omega)).trans d5
    refine ⟨Reg.wanted_none rfl, ?_⟩
    generalize Reg.gfr (Reg.opsOf Try.f7 7) a0 v [2, 5] = G at e35 e38 ⊢
    generalize hρ : G.eval = ρ at e35 e38
    have hρ' : G.eval = ρ := hρ
    refine Reg.go_run (Value.bool true) W ?_ ?_
    · rw [hρ']; simp [execOp, go_sem, e35, e38]
    · exact ⟨Below.refl _ _, rfl⟩
set_option maxHeartbeats 4000000 in
set_option maxRecDepth 20000 in
theorem vf7a_h7 :
    Reg.OpOK Try.prog (Reg.opsOf Try.f7 7) a0 w0 (vf7aR bv b8 b10 gs gr nn cc oc rc nl vv xx l lr ee vs AA oA rA) (fun _ _ _ _ => True) 7 := by
    refine Reg.op_ok2 (fun af => { dst := some 40, op := Op.move (Operand.tmp 39), type := 4, pos := "law.go:40", after := af, guard := none }) #[{ on := 6, ground := Ground.data }, { on := 4, ground := Ground.chain }] (by kernel_rfl) [6, 4] (by kernel_rfl) fun af v W hb hd => ?_
    have d6 : v 6 = (Value.bool true) := hd 6 (by decide)
    have e39 := (Reg.gfr_eval (ops := (Reg.opsOf Try.f7 7)) (a0 := a0) (v := v) (L := [6, 4]) 39 6 (by kernel_rfl) (by rw [hsz]; omega)).trans d6
    refine ⟨Reg.wanted_none rfl, ?_⟩
    generalize Reg.gfr (Reg.opsOf Try.f7 7) a0 v [6, 4] = G at e39 ⊢
    generalize hρ : G.eval = ρ at e39
    have hρ' : G.eval = ρ := hρ
    refine Reg.go_run (Value.bool true) W ?_ ?_
    · rw [hρ']; simp [execOp, go_sem, e39]
    · exact ⟨Below.refl _ _, rfl⟩
set_option maxHeartbeats 4000000 in
set_option maxRecDepth 20000 in
theorem vf7a_h8 :
    Reg.OpOK Try.prog (Reg.opsOf Try.f7 7) a0 w0 (vf7aR bv b8 b10 gs gr nn cc oc rc nl vv xx l lr ee vs AA oA rA) (fun _ _ _ _ => True) 8 := by
    refine Reg.op_ok2 (fun af => { dst := some 41, op := Op.load 24 (Operand.tmp 8), type := 24, pos := "law.go:40", after := af, guard := some (7, true) }) #[{ on := 7, ground := Ground.guard }] (by kernel_rfl) [7] (by kernel_rfl) fun af v W hb hd => ?_
    have d7 : v 7 = (Value.bool true) := hd 7 (by decide)
    have e8 := (Reg.gfr_eval0 (ops := (Reg.opsOf Try.f7 7)) (a0 := a0) (v := v) (L := [7]) 8 (by kernel_rfl)).trans i8
    have e40 := (Reg.gfr_eval (ops := (Reg.opsOf Try.f7 7)) (a0 := a0) (v := v) (L := [7]) 40 7 (by kernel_rfl) (by rw [hsz]; omega)).trans d7
    refine ⟨Reg.wanted_of rfl (by kernel_rfl) e40, ?_⟩
    generalize Reg.gfr (Reg.opsOf Try.f7 7) a0 v [7] = G at e8 ⊢
    generalize hρ : G.eval = ρ at e8
    have hρ' : G.eval = ρ := hρ
    exact fun K hK => wp_load_row 24 (.tmp 8) rfl b8 (by rw [hρ']; exact e8) 24 (vC xx) (0, 0) _ (M_b8 W hb) Try.underlying24 rfl (vec_size hx) (hK _ _ ⟨Below.refl _ _, rfl⟩)
set_option maxHeartbeats 4000000 in
set_option maxRecDepth 20000 in
theorem vf7a_h9 :
    Reg.OpOK Try.prog (Reg.opsOf Try.f7 7) a0 w0 (vf7aR bv b8 b10 gs gr nn cc oc rc nl vv xx l lr ee vs AA oA rA) (fun _ _ _ _ => True) 9 := by
    refine Reg.op_ok2 (fun af => { dst := some 42, op := Op.load 24 (Operand.tmp 10), type := 24, pos := "law.go:40", after := af, guard := some (7, true) }) #[{ on := 7, ground := Ground.guard }] (by kernel_rfl) [7] (by kernel_rfl) fun af v W hb hd => ?_
    have d7 : v 7 = (Value.bool true) := hd 7 (by decide)
    have e10 := (Reg.gfr_eval0 (ops := (Reg.opsOf Try.f7 7)) (a0 := a0) (v := v) (L := [7]) 10 (by kernel_rfl)).trans i10
    have e40 := (Reg.gfr_eval (ops := (Reg.opsOf Try.f7 7)) (a0 := a0) (v := v) (L := [7]) 40 7 (by kernel_rfl) (by rw [hsz]; omega)).trans d7
    refine ⟨Reg.wanted_of rfl (by kernel_rfl) e40, ?_⟩
    generalize Reg.gfr (Reg.opsOf Try.f7 7) a0 v [7] = G at e10 ⊢
    generalize hρ : G.eval = ρ at e10
    have hρ' : G.eval = ρ := hρ
    exact fun K hK => wp_load_row 24 (.tmp 10) rfl b10 (by rw [hρ']; exact e10) 24 (vC xx) (0, 0) _ (M_b10 W hb) Try.underlying24 rfl (vec_size hx) (hK _ _ ⟨Below.refl _ _, rfl⟩)
set_option maxHeartbeats 4000000 in
set_option maxRecDepth 20000 in
theorem vf7a_h10 :
    Reg.OpOK Try.prog (Reg.opsOf Try.f7 7) a0 w0 (vf7aR bv b8 b10 gs gr nn cc oc rc nl vv xx l lr ee vs AA oA rA) (fun _ _ _ _ => True) 10 := by
    refine Reg.op_ok2 (fun af => { dst := some 43, op := Op.binOp BinOp.eql 24 (Operand.tmp 41) (Operand.tmp 42) 24, type := 4, pos := "law.go:40", after := af, guard := some (7, true) }) #[{ on := 8, ground := Ground.data }, { on := 9, ground := Ground.data }, { on := 7, ground := Ground.guard }] (by kernel_rfl) [8, 9, 7] (by kernel_rfl) fun af v W hb hd => ?_
    have d7 : v 7 = (Value.bool true) := hd 7 (by decide)
    have d8 : v 8 = (Value.agg (vC xx)) := hd 8 (by decide)
    have d9 : v 9 = (Value.agg (vC xx)) := hd 9 (by decide)
    have e41 := (Reg.gfr_eval (ops := (Reg.opsOf Try.f7 7)) (a0 := a0) (v := v) (L := [8, 9, 7]) 41 8 (by kernel_rfl) (by rw [hsz]; omega)).trans d8
    have e42 := (Reg.gfr_eval (ops := (Reg.opsOf Try.f7 7)) (a0 := a0) (v := v) (L := [8, 9, 7]) 42 9 (by kernel_rfl) (by rw [hsz]; omega)).trans d9
    have e40 := (Reg.gfr_eval (ops := (Reg.opsOf Try.f7 7)) (a0 := a0) (v := v) (L := [8, 9, 7]) 40 7 (by kernel_rfl) (by rw [hsz]; omega)).trans d7
    refine ⟨Reg.wanted_of rfl (by kernel_rfl) e40, ?_⟩
    generalize Reg.gfr (Reg.opsOf Try.f7 7) a0 v [8, 9, 7] = G at e41 e42 ⊢
    generalize hρ : G.eval = ρ at e41 e42
    have hρ' : G.eval = ρ := hρ
    refine Reg.go_run (Value.bool true) W ?_ ?_
    · rw [hρ']; simp [execOp, go_sem, e41, e42, run_eq_vec W xx xx hx hx]
    · exact ⟨Below.refl _ _, rfl⟩
set_option maxHeartbeats 4000000 in
set_option maxRecDepth 20000 in
theorem vf7a_h11 :
    Reg.OpOK Try.prog (Reg.opsOf Try.f7 7) a0 w0 (vf7aR bv b8 b10 gs gr nn cc oc rc nl vv xx l lr ee vs AA oA rA) (fun _ _ _ _ => True) 11 := by
    refine Reg.op_ok2 (fun af => { dst := some 44, op := Op.pick (Operand.tmp 40) (Operand.tmp 43) (Operand.const (Value.bool false)), type := 4, pos := "law.go:40", after := af, guard := none }) #[{ on := 7, ground := Ground.data }, { on := 10, ground := Ground.data }] (by kernel_rfl) [7, 10] (by kernel_rfl) fun af v W hb hd => ?_
    have d7 : v 7 = (Value.bool true) := hd 7 (by decide)
    have d10 : v 10 = (Value.bool true) := hd 10 (by decide)
    have e40 := (Reg.gfr_eval (ops := (Reg.opsOf Try.f7 7)) (a0 := a0) (v := v) (L := [7, 10]) 40 7 (by kernel_rfl) (by rw [hsz]; omega)).trans d7
    have e43 := (Reg.gfr_eval (ops := (Reg.opsOf Try.f7 7)) (a0 := a0) (v := v) (L := [7, 10]) 43 10 (by kernel_rfl) (by rw [hsz]; omega)).trans d10
    refine ⟨Reg.wanted_none rfl, ?_⟩
    have eC : ∀ x, (Reg.gfr (Reg.opsOf Try.f7 7) a0 v [7, 10]).eval (.const x) = x := fun _ => rfl
    generalize Reg.gfr (Reg.opsOf Try.f7 7) a0 v [7, 10] = G at e40 e43 eC ⊢
    generalize hρ : G.eval = ρ at e40 e43 eC
    have hρ' : G.eval = ρ := hρ
    refine Reg.go_run (Value.bool true) W ?_ ?_
    · rw [hρ']; simp [execOp, go_sem, e40, e43, eC]
    · exact ⟨Below.refl _ _, rfl⟩
set_option maxHeartbeats 4000000 in
set_option maxRecDepth 20000 in
theorem vf7a_h12 :
    Reg.OpOK Try.prog (Reg.opsOf Try.f7 7) a0 w0 (vf7aR bv b8 b10 gs gr nn cc oc rc nl vv xx l lr ee vs AA oA rA) (fun _ _ _ _ => True) 12 := by
    refine Reg.op_ok2 (fun af => { dst := some 45, op := Op.move (Operand.tmp 44), type := 4, pos := "law.go:40", after := af, guard := none }) #[{ on := 11, ground := Ground.data }, { on := 7, ground := Ground.chain }] (by kernel_rfl) [11, 7] (by kernel_rfl) fun af v W hb hd => ?_
    have d11 : v 11 = (Value.bool true) := hd 11 (by decide)
    have e44 := (Reg.gfr_eval (ops := (Reg.opsOf Try.f7 7)) (a0 := a0) (v := v) (L := [11, 7]) 44 11 (by kernel_rfl) (by rw [hsz]; omega)).trans d11
    refine ⟨Reg.wanted_none rfl, ?_⟩
    generalize Reg.gfr (Reg.opsOf Try.f7 7) a0 v [11, 7] = G at e44 ⊢
    generalize hρ : G.eval = ρ at e44
    have hρ' : G.eval = ρ := hρ
    refine Reg.go_run (Value.bool true) W ?_ ?_
    · rw [hρ']; simp [execOp, go_sem, e44]
    · exact ⟨Below.refl _ _, rfl⟩
set_option maxHeartbeats 4000000 in
set_option maxRecDepth 20000 in
theorem vf7a_h13 :
    Reg.OpOK Try.prog (Reg.opsOf Try.f7 7) a0 w0 (vf7aR bv b8 b10 gs gr nn cc oc rc nl vv xx l lr ee vs AA oA rA) (fun _ _ _ _ => True) 13 := by
    refine Reg.op_ok2 (fun af => { dst := some 46, op := Op.move (Operand.tmp 9), type := 36, pos := "law.go:40", after := af, guard := some (12, true) }) #[{ on := 12, ground := Ground.guard }] (by kernel_rfl) [12] (by kernel_rfl) fun af v W hb hd => ?_
    have d12 : v 12 = (Value.bool true) := hd 12 (by decide)
    have e9 := (Reg.gfr_eval0 (ops := (Reg.opsOf Try.f7 7)) (a0 := a0) (v := v) (L := [12]) 9 (by kernel_rfl)).trans i9
    have e45 := (Reg.gfr_eval (ops := (Reg.opsOf Try.f7 7)) (a0 := a0) (v := v) (L := [12]) 45 12 (by kernel_rfl) (by rw [hsz]; omega)).trans d12
    refine ⟨Reg.wanted_of rfl (by kernel_rfl) e45, ?_⟩
    generalize Reg.gfr (Reg.opsOf Try.f7 7) a0 v [12] = G at e9 ⊢
    generalize hρ : G.eval = ρ at e9
    have hρ' : G.eval = ρ := hρ
    refine Reg.go_run (Value.int IntKind.i64 ee) W ?_ ?_
    · rw [hρ']; simp [execOp, go_sem, e9]
    · exact ⟨Below.refl _ _, rfl⟩
set_option maxHeartbeats 4000000 in
set_option maxRecDepth 20000 in
theorem vf7a_h14 :
    Reg.OpOK Try.prog (Reg.opsOf Try.f7 7) a0 w0 (vf7aR bv b8 b10 gs gr nn cc oc rc nl vv xx l lr ee vs AA oA rA) (fun _ _ _ _ => True) 14 := by
    refine Reg.op_ok2 (fun af => { dst := some 47, op := Op.move (Operand.tmp 11), type := 3, pos := "law.go:40", after := af, guard := some (12, true) }) #[{ on := 12, ground := Ground.guard }] (by kernel_rfl) [12] (by kernel_rfl) fun af v W hb hd => ?_
    have d12 : v 12 = (Value.bool true) := hd 12 (by decide)
    have e11 := (Reg.gfr_eval0 (ops := (Reg.opsOf Try.f7 7)) (a0 := a0) (v := v) (L := [12]) 11 (by kernel_rfl)).trans i11
    have e45 := (Reg.gfr_eval (ops := (Reg.opsOf Try.f7 7)) (a0 := a0) (v := v) (L := [12]) 45 12 (by kernel_rfl) (by rw [hsz]; omega)).trans d12
    refine ⟨Reg.wanted_of rfl (by kernel_rfl) e45, ?_⟩
    generalize Reg.gfr (Reg.opsOf Try.f7 7) a0 v [12] = G at e11 ⊢
    generalize hρ : G.eval = ρ at e11
    have hρ' : G.eval = ρ := hρ
    refine Reg.go_run (Value.int IntKind.i64 ee) W ?_ ?_
    · rw [hρ']; simp [execOp, go_sem, e11]
    · exact ⟨Below.refl _ _, rfl⟩
set_option maxHeartbeats 4000000 in
set_option maxRecDepth 20000 in
theorem vf7a_h15 :
    Reg.OpOK Try.prog (Reg.opsOf Try.f7 7) a0 w0 (vf7aR bv b8 b10 gs gr nn cc oc rc nl vv xx l lr ee vs AA oA rA) (fun _ _ _ _ => True) 15 := by
    refine Reg.op_ok2 (fun af => { dst := some 48, op := Op.binOp BinOp.eql 3 (Operand.tmp 46) (Operand.tmp 47) 3, type := 4, pos := "law.go:40", after := af, guard := some (12, true) }) #[{ on := 13, ground := Ground.data }, { on := 14, ground := Ground.data }, { on := 12, ground := Ground.guard }] (by kernel_rfl) [13, 14, 12] (by kernel_rfl) fun af v W hb hd => ?_
    have d12 : v 12 = (Value.bool true) := hd 12 (by decide)
    have d13 : v 13 = (Value.int IntKind.i64 ee) := hd 13 (by decide)
    have d14 : v 14 = (Value.int IntKind.i64 ee) := hd 14 (by decide)
    have e46 := (Reg.gfr_eval (ops := (Reg.opsOf Try.f7 7)) (a0 := a0) (v := v) (L := [13, 14, 12]) 46 13 (by kernel_rfl) (by rw [hsz]; omega)).trans d13
    have e47 := (Reg.gfr_eval (ops := (Reg.opsOf Try.f7 7)) (a0 := a0) (v := v) (L := [13, 14, 12]) 47 14 (by kernel_rfl) (by rw [hsz]; omega)).trans d14
    have e45 := (Reg.gfr_eval (ops := (Reg.opsOf Try.f7 7)) (a0 := a0) (v := v) (L := [13, 14, 12]) 45 12 (by kernel_rfl) (by rw [hsz]; omega)).trans d12
    refine ⟨Reg.wanted_of rfl (by kernel_rfl) e45, ?_⟩
    generalize Reg.gfr (Reg.opsOf Try.f7 7) a0 v [13, 14, 12] = G at e46 e47 ⊢
    generalize hρ : G.eval = ρ at e46 e47
    have hρ' : G.eval = ρ := hρ
    refine Reg.go_run (Value.bool true) W ?_ ?_
    · rw [hρ']; simp [execOp, go_sem, e46, e47]
    · exact ⟨Below.refl _ _, rfl⟩
set_option maxHeartbeats 4000000 in
set_option maxRecDepth 20000 in
theorem vf7a_h16 :
    Reg.OpOK Try.prog (Reg.opsOf Try.f7 7) a0 w0 (vf7aR bv b8 b10 gs gr nn cc oc rc nl vv xx l lr ee vs AA oA rA) (fun _ _ _ _ => True) 16 := by
    refine Reg.op_ok2 (fun af => { dst := some 49, op := Op.pick (Operand.tmp 45) (Operand.tmp 48) (Operand.const (Value.bool false)), type := 4, pos := "law.go:40", after := af, guard := none }) #[{ on := 12, ground := Ground.data }, { on := 15, ground := Ground.data }] (by kernel_rfl) [12, 15] (by kernel_rfl) fun af v W hb hd => ?_
    have d12 : v 12 = (Value.bool true) := hd 12 (by decide)
    have d15 : v 15 = (Value.bool true) := hd 15 (by decide)
    have e45 := (Reg.gfr_eval (ops := (Reg.opsOf Try.f7 7)) (a0 := a0) (v := v) (L := [12, 15]) 45 12 (by kernel_rfl) (by rw [hsz]; omega)).trans d12
    have e48 := (Reg.gfr_eval (ops := (Reg.opsOf Try.f7 7)) (a0 := a0) (v := v) (L := [12, 15]) 48 15 (by kernel_rfl) (by rw [hsz]; omega)).trans d15
    refine ⟨Reg.wanted_none rfl, ?_⟩
    have eC : ∀ x, (Reg.gfr (Reg.opsOf Try.f7 7) a0 v [12, 15]).eval (.const x) = x := fun _ => rfl
    generalize Reg.gfr (Reg.opsOf Try.f7 7) a0 v [12, 15] = G at e45 e48 eC ⊢
    generalize hρ : G.eval = ρ at e45 e48 eC
    have hρ' : G.eval = ρ := hρ
    refine Reg.go_run (Value.bool true) W ?_ ?_
    · rw [hρ']; simp [execOp, go_sem, e45, e48, eC]
    · exact ⟨Below.refl _ _, rfl⟩
set_option maxHeartbeats 4000000 in
set_option maxRecDepth 20000 in
theorem vf7a_h17 :
    Reg.OpOK Try.prog (Reg.opsOf Try.f7 7) a0 w0 (vf7aR bv b8 b10 gs gr nn cc oc rc nl vv xx l lr ee vs AA oA rA) (fun _ _ _ _ => True) 17 := by
    refine Reg.op_ok2 (fun af => { dst := some 50, op := Op.move (Operand.tmp 49), type := 4, pos := "law.go:40", after := af, guard := none }) #[{ on := 16, ground := Ground.data }, { on := 12, ground := Ground.chain }] (by kernel_rfl) [16, 12] (by kernel_rfl) fun af v W hb hd => ?_
    have d16 : v 16 = (Value.bool true) := hd 16 (by decide)
    have e49 := (Reg.gfr_eval (ops := (Reg.opsOf Try.f7 7)) (a0 := a0) (v := v) (L := [16, 12]) 49 16 (by kernel_rfl) (by rw [hsz]; omega)).trans d16
    refine ⟨Reg.wanted_none rfl, ?_⟩
    generalize Reg.gfr (Reg.opsOf Try.f7 7) a0 v [16, 12] = G at e49 ⊢
    generalize hρ : G.eval = ρ at e49
    have hρ' : G.eval = ρ := hρ
    refine Reg.go_run (Value.bool true) W ?_ ?_
    · rw [hρ']; simp [execOp, go_sem, e49]
    · exact ⟨Below.refl _ _, rfl⟩
set_option maxHeartbeats 4000000 in
set_option maxRecDepth 20000 in
theorem vf7a_h18 :
    Reg.OpOK Try.prog (Reg.opsOf Try.f7 7) a0 w0 (vf7aR bv b8 b10 gs gr nn cc oc rc nl vv xx l lr ee vs AA oA rA) (fun _ _ _ _ => True) 18 := by
    refine Reg.op_ok2 (fun af => { dst := some 51, op := Op.move (Operand.tmp 11), type := 3, pos := "law.go:40", after := af, guard := some (17, true) }) #[{ on := 17, ground := Ground.guard }] (by kernel_rfl) [17] (by kernel_rfl) fun af v W hb hd => ?_
    have d17 : v 17 = (Value.bool true) := hd 17 (by decide)
    have e11 := (Reg.gfr_eval0 (ops := (Reg.opsOf Try.f7 7)) (a0 := a0) (v := v) (L := [17]) 11 (by kernel_rfl)).trans i11
    have e50 := (Reg.gfr_eval (ops := (Reg.opsOf Try.f7 7)) (a0 := a0) (v := v) (L := [17]) 50 17 (by kernel_rfl) (by rw [hsz]; omega)).trans d17
    refine ⟨Reg.wanted_of rfl (by kernel_rfl) e50, ?_⟩
    generalize Reg.gfr (Reg.opsOf Try.f7 7) a0 v [17] = G at e11 ⊢
    generalize hρ : G.eval = ρ at e11
    have hρ' : G.eval = ρ := hρ
    refine Reg.go_run (Value.int IntKind.i64 ee) W ?_ ?_
    · rw [hρ']; simp [execOp, go_sem, e11]
    · exact ⟨Below.refl _ _, rfl⟩
set_option maxHeartbeats 4000000 in
set_option maxRecDepth 20000 in
theorem vf7a_h19 :
    Reg.OpOK Try.prog (Reg.opsOf Try.f7 7) a0 w0 (vf7aR bv b8 b10 gs gr nn cc oc rc nl vv xx l lr ee vs AA oA rA) (fun _ _ _ _ => True) 19 := by
    refine Reg.op_ok2 (fun af => { dst := some 52, op := Op.binOp BinOp.neq 3 (Operand.tmp 51) (Operand.const (Value.int IntKind.i64 0)) 3, type := 4, pos := "law.go:40", after := af, guard := some (17, true) }) #[{ on := 18, ground := Ground.data }, { on := 17, ground := Ground.guard }] (by kernel_rfl) [18, 17] (by kernel_rfl) fun af v W hb hd => ?_
    have d17 : v 17 = (Value.bool true) := hd 17 (by decide)
    have d18 : v 18 = (Value.int IntKind.i64 ee) := hd 18 (by decide)
    have e51 := (Reg.gfr_eval (ops := (Reg.opsOf Try.f7 7)) (a0 := a0) (v := v) (L := [18, 17]) 51 18 (by kernel_rfl) (by rw [hsz]; omega)).trans d18
    have e50 := (Reg.gfr_eval (ops := (Reg.opsOf Try.f7 7)) (a0 := a0) (v := v) (L := [18, 17]) 50 17 (by kernel_rfl) (by rw [hsz]; omega)).trans d17
    refine ⟨Reg.wanted_of rfl (by kernel_rfl) e50, ?_⟩
    have eC : ∀ x, (Reg.gfr (Reg.opsOf Try.f7 7) a0 v [18, 17]).eval (.const x) = x := fun _ => rfl
    generalize Reg.gfr (Reg.opsOf Try.f7 7) a0 v [18, 17] = G at e51 eC ⊢
    generalize hρ : G.eval = ρ at e51 eC
    have hρ' : G.eval = ρ := hρ
    refine Reg.go_run (Value.bool false) W ?_ ?_
    · rw [hρ']; simp [execOp, go_sem, e51, eC, hee]
    · exact ⟨Below.refl _ _, rfl⟩
set_option maxHeartbeats 4000000 in
set_option maxRecDepth 20000 in
theorem vf7a_h20 :
    Reg.OpOK Try.prog (Reg.opsOf Try.f7 7) a0 w0 (vf7aR bv b8 b10 gs gr nn cc oc rc nl vv xx l lr ee vs AA oA rA) (fun _ _ _ _ => True) 20 := by
    refine Reg.op_ok2 (fun af => { dst := some 53, op := Op.move (Operand.tmp 52), type := 4, pos := "law.go:40", after := af, guard := some (17, true) }) #[{ on := 19, ground := Ground.data }, { on := 17, ground := Ground.chain }, { on := 17, ground := Ground.guard }] (by kernel_rfl) [19, 17, 17] (by kernel_rfl) fun af v W hb hd => ?_
    have d17 : v 17 = (Value.bool true) := hd 17 (by decide)
    have d19 : v 19 = (Value.bool false) := hd 19 (by decide)
    have e52 := (Reg.gfr_eval (ops := (Reg.opsOf Try.f7 7)) (a0 := a0) (v := v) (L := [19, 17, 17]) 52 19 (by kernel_rfl) (by rw [hsz]; omega)).trans d19
    have e50 := (Reg.gfr_eval (ops := (Reg.opsOf Try.f7 7)) (a0 := a0) (v := v) (L := [19, 17, 17]) 50 17 (by kernel_rfl) (by rw [hsz]; omega)).trans d17
    refine ⟨Reg.wanted_of rfl (by kernel_rfl) e50, ?_⟩
    generalize Reg.gfr (Reg.opsOf Try.f7 7) a0 v [19, 17, 17] = G at e52 ⊢
    generalize hρ : G.eval = ρ at e52
    have hρ' : G.eval = ρ := hρ
    refine Reg.go_run (Value.bool false) W ?_ ?_
    · rw [hρ']; simp [execOp, go_sem, e52]
    · exact ⟨Below.refl _ _, rfl⟩
set_option maxHeartbeats 4000000 in
set_option maxRecDepth 20000 in
theorem vf7a_h21 :
    Reg.OpOK Try.prog (Reg.opsOf Try.f7 7) a0 w0 (vf7aR bv b8 b10 gs gr nn cc oc rc nl vv xx l lr ee vs AA oA rA) (fun _ _ _ _ => True) 21 := by
    refine Reg.op_ok2 (fun af => { dst := some 54, op := Op.move (Operand.tmp 6), type := 51, pos := "law.go:40", after := af, guard := some (20, false) }) #[{ on := 20, ground := Ground.guard }] (by kernel_rfl) [20] (by kernel_rfl) fun af v W hb hd => ?_
    have d20 : v 20 = (Value.bool false) := hd 20 (by decide)
    have e6 := (Reg.gfr_eval0 (ops := (Reg.opsOf Try.f7 7)) (a0 := a0) (v := v) (L := [20]) 6 (by kernel_rfl)).trans i6
    have e53 := (Reg.gfr_eval (ops := (Reg.opsOf Try.f7 7)) (a0 := a0) (v := v) (L := [20]) 53 20 (by kernel_rfl) (by rw [hsz]; omega)).trans d20
    refine ⟨Reg.wanted_of rfl (by kernel_rfl) e53, ?_⟩
    generalize Reg.gfr (Reg.opsOf Try.f7 7) a0 v [20] = G at e6 ⊢
    generalize hρ : G.eval = ρ at e6
    have hρ' : G.eval = ρ := hρ
    refine Reg.go_run (Value.pointer (some ⟨gs, 0, none⟩)) W ?_ ?_
    · rw [hρ']; simp [execOp, go_sem, e6]
    · exact ⟨Below.refl _ _, rfl⟩
set_option maxHeartbeats 4000000 in
set_option maxRecDepth 20000 in
theorem vf7a_h22 :
    Reg.OpOK Try.prog (Reg.opsOf Try.f7 7) a0 w0 (vf7aR bv b8 b10 gs gr nn cc oc rc nl vv xx l lr ee vs AA oA rA) (fun _ _ _ _ => True) 22 := by
    refine Reg.op_ok2 (fun af => { dst := some 55, op := Op.call { callee := Callee.value (Operand.func 33), args := #[Operand.tmp 54], argTypes := #[51] }, type := 3, pos := "law.go:40", after := af, guard := some (20, false) }) #[{ on := 21, ground := Ground.data }, { on := 20, ground := Ground.chain }, { on := 20, ground := Ground.guard }] (by kernel_rfl) [21, 20, 20] (by kernel_rfl) fun af v W hb hd => ?_
    have d20 : v 20 = (Value.bool false) := hd 20 (by decide)
    have d21 : v 21 = (Value.pointer (some ⟨gs, 0, none⟩)) := hd 21 (by decide)
    have e54 := (Reg.gfr_eval (ops := (Reg.opsOf Try.f7 7)) (a0 := a0) (v := v) (L := [21, 20, 20]) 54 21 (by kernel_rfl) (by rw [hsz]; omega)).trans d21
    have e53 := (Reg.gfr_eval (ops := (Reg.opsOf Try.f7 7)) (a0 := a0) (v := v) (L := [21, 20, 20]) 53 20 (by kernel_rfl) (by rw [hsz]; omega)).trans d20
    refine ⟨Reg.wanted_of rfl (by kernel_rfl) e53, ?_⟩
    have eF : ∀ f, (Reg.gfr (Reg.opsOf Try.f7 7) a0 v [21, 20, 20]).eval (.func f) = .func (.func f) #[] #[] := fun _ => rfl
    generalize Reg.gfr (Reg.opsOf Try.f7 7) a0 v [21, 20, 20] = G at e54 eF ⊢
    generalize hρ : G.eval = ρ at e54 eF
    have hρ' : G.eval = ρ := hρ
    refine Reg.go_call 33 #[(Value.pointer (some ⟨gs, 0, none⟩))] (by rw [hρ']; simp [execOp, go_sem, e54, eF]) ((left_any gs vs lr W (hSL W hb)).mono fun e w' he => ?_)
    obtain ⟨rfl, rfl⟩ := he
    exact ⟨_, rfl, Below.refl _ _, (show _ = _ from by rw [hnl])⟩
set_option maxHeartbeats 4000000 in
set_option maxRecDepth 20000 in
theorem vf7a_h23 :
    Reg.OpOK Try.prog (Reg.opsOf Try.f7 7) a0 w0 (vf7aR bv b8 b10 gs gr nn cc oc rc nl vv xx l lr ee vs AA oA rA) (fun _ _ _ _ => True) 23 := by
    refine Reg.op_ok2 (fun af => { dst := some 56, op := Op.move (Operand.tmp 7), type := 53, pos := "law.go:40", after := af, guard := some (20, false) }) #[{ on := 20, ground := Ground.guard }] (by kernel_rfl) [20] (by kernel_rfl) fun af v W hb hd => ?_
    have d20 : v 20 = (Value.bool false) := hd 20 (by decide)
    have e7 := (Reg.gfr_eval0 (ops := (Reg.opsOf Try.f7 7)) (a0 := a0) (v := v) (L := [20]) 7 (by kernel_rfl)).trans i7
    have e53 := (Reg.gfr_eval (ops := (Reg.opsOf Try.f7 7)) (a0 := a0) (v := v) (L := [20]) 53 20 (by kernel_rfl) (by rw [hsz]; omega)).trans d20
    refine ⟨Reg.wanted_of rfl (by kernel_rfl) e53, ?_⟩
    generalize Reg.gfr (Reg.opsOf Try.f7 7) a0 v [20] = G at e7 ⊢
    generalize hρ : G.eval = ρ at e7
    have hρ' : G.eval = ρ := hρ
    refine Reg.go_run (Value.pointer (some ⟨gr, 0, none⟩)) W ?_ ?_
    · rw [hρ']; simp [execOp, go_sem, e7]
    · exact ⟨Below.refl _ _, rfl⟩
set_option maxHeartbeats 4000000 in
set_option maxRecDepth 20000 in
theorem vf7a_h24 :
    Reg.OpOK Try.prog (Reg.opsOf Try.f7 7) a0 w0 (vf7aR bv b8 b10 gs gr nn cc oc rc nl vv xx l lr ee vs AA oA rA) (fun _ _ _ _ => True) 24 := by
    refine Reg.op_ok2 (fun af => { dst := some 57, op := Op.nilCheck (Operand.tmp 56), type := 0, pos := "law.go:40", after := af, guard := some (20, false) }) #[{ on := 23, ground := Ground.data }, { on := 20, ground := Ground.guard }] (by kernel_rfl) [23, 20] (by kernel_rfl) fun af v W hb hd => ?_
    have d20 : v 20 = (Value.bool false) := hd 20 (by decide)
    have d23 : v 23 = (Value.pointer (some ⟨gr, 0, none⟩)) := hd 23 (by decide)
    have e56 := (Reg.gfr_eval (ops := (Reg.opsOf Try.f7 7)) (a0 := a0) (v := v) (L := [23, 20]) 56 23 (by kernel_rfl) (by rw [hsz]; omega)).trans d23
    have e53 := (Reg.gfr_eval (ops := (Reg.opsOf Try.f7 7)) (a0 := a0) (v := v) (L := [23, 20]) 53 20 (by kernel_rfl) (by rw [hsz]; omega)).trans d20
    refine ⟨Reg.wanted_of rfl (by kernel_rfl) e53, ?_⟩
    generalize Reg.gfr (Reg.opsOf Try.f7 7) a0 v [23, 20] = G at e56 ⊢
    generalize hρ : G.eval = ρ at e56
    have hρ' : G.eval = ρ := hρ
    refine Reg.go_run (Value.pointer (some ⟨gr, 0, none⟩)) W ?_ ?_
    · rw [hρ']; simp [execOp, go_sem, e56]
    · exact ⟨Below.refl _ _, rfl⟩
set_option maxHeartbeats 4000000 in
set_option maxRecDepth 20000 in
theorem vf7a_h25 :
    Reg.OpOK Try.prog (Reg.opsOf Try.f7 7) a0 w0 (vf7aR bv b8 b10 gs gr nn cc oc rc nl vv xx l lr ee vs AA oA rA) (fun _ _ _ _ => True) 25 := by
    refine Reg.op_ok2 (fun af => { dst := some 58, op := Op.fieldAddr 55 (Operand.tmp 57) 0, type := 0, pos := "law.go:40", after := af, guard := some (20, false) }) #[{ on := 24, ground := Ground.data }, { on := 20, ground := Ground.guard }] (by kernel_rfl) [24, 20] (by kernel_rfl) fun af v W hb hd => ?_
    have d20 : v 20 = (Value.bool false) := hd 20 (by decide)
    have d24 : v 24 = (Value.pointer (some ⟨gr, 0, none⟩)) := hd 24 (by decide)
    have e57 := (Reg.gfr_eval (ops := (Reg.opsOf Try.f7 7)) (a0 := a0) (v := v) (L := [24, 20]) 57 24 (by kernel_rfl) (by rw [hsz]; omega)).trans d24
    have e53 := (Reg.gfr_eval (ops := (Reg.opsOf Try.f7 7)) (a0 := a0) (v := v) (L := [24, 20]) 53 20 (by kernel_rfl) (by rw [hsz]; omega)).trans d20
    refine ⟨Reg.wanted_of rfl (by kernel_rfl) e53, ?_⟩
    generalize Reg.gfr (Reg.opsOf Try.f7 7) a0 v [24, 20] = G at e57 ⊢
    generalize hρ : G.eval = ρ at e57
    have hρ' : G.eval = ρ := hρ
    refine Reg.go_run (Value.pointer (some ⟨gr, 0, none⟩)) W ?_ ?_
    · rw [hρ']; simp [execOp, go_sem, e57]
    · exact ⟨Below.refl _ _, rfl⟩
set_option maxHeartbeats 4000000 in
set_option maxRecDepth 20000 in
theorem vf7a_h26 :
    Reg.OpOK Try.prog (Reg.opsOf Try.f7 7) a0 w0 (vf7aR bv b8 b10 gs gr nn cc oc rc nl vv xx l lr ee vs AA oA rA) (fun _ _ _ _ => True) 26 := by
    refine Reg.op_ok2 (fun af => { dst := some 59, op := Op.load 33 (Operand.tmp 58), type := 33, pos := "law.go:40", after := af, guard := some (20, false) }) #[{ on := 25, ground := Ground.data }, { on := 20, ground := Ground.guard }] (by kernel_rfl) [25, 20] (by kernel_rfl) fun af v W hb hd => ?_
    have d20 : v 20 = (Value.bool false) := hd 20 (by decide)
    have d25 : v 25 = (Value.pointer (some ⟨gr, 0, none⟩)) := hd 25 (by decide)
    have e58 := (Reg.gfr_eval (ops := (Reg.opsOf Try.f7 7)) (a0 := a0) (v := v) (L := [25, 20]) 58 25 (by kernel_rfl) (by rw [hsz]; omega)).trans d25
    have e53 := (Reg.gfr_eval (ops := (Reg.opsOf Try.f7 7)) (a0 := a0) (v := v) (L := [25, 20]) 53 20 (by kernel_rfl) (by rw [hsz]; omega)).trans d20
    refine ⟨Reg.wanted_of rfl (by kernel_rfl) e53, ?_⟩
    generalize Reg.gfr (Reg.opsOf Try.f7 7) a0 v [25, 20] = G at e58 ⊢
    generalize hρ : G.eval = ρ at e58
    have hρ' : G.eval = ρ := hρ
    refine Reg.go_run (Value.slice rA nl rc) W ?_ ?_
    · rw [hρ']; simp [execOp, go_sem, e58, CR W hb]
    · exact ⟨Below.refl _ _, rfl⟩
set_option maxHeartbeats 4000000 in
set_option maxRecDepth 20000 in
theorem vf7a_h27 :
    Reg.OpOK Try.prog (Reg.opsOf Try.f7 7) a0 w0 (vf7aR bv b8 b10 gs gr nn cc oc rc nl vv xx l lr ee vs AA oA rA) (fun _ _ _ _ => True) 27 := by
    refine Reg.op_ok2 (fun af => { dst := some 60, op := Op.call { callee := Callee.builtin Builtin.len, args := #[Operand.tmp 59], argTypes := #[33] }, type := 3, pos := "law.go:40", after := af, guard := some (20, false) }) #[{ on := 26, ground := Ground.data }, { on := 20, ground := Ground.guard }] (by kernel_rfl) [26, 20] (by kernel_rfl) fun af v W hb hd => ?_
    have d20 : v 20 = (Value.bool false) := hd 20 (by decide)
    have d26 : v 26 = (Value.slice rA nl rc) := hd 26 (by decide)
    have e59 := (Reg.gfr_eval (ops := (Reg.opsOf Try.f7 7)) (a0 := a0) (v := v) (L := [26, 20]) 59 26 (by kernel_rfl) (by rw [hsz]; omega)).trans d26
    have e53 := (Reg.gfr_eval (ops := (Reg.opsOf Try.f7 7)) (a0 := a0) (v := v) (L := [26, 20]) 53 20 (by kernel_rfl) (by rw [hsz]; omega)).trans d20
    refine ⟨Reg.wanted_of rfl (by kernel_rfl) e53, ?_⟩
    generalize Reg.gfr (Reg.opsOf Try.f7 7) a0 v [26, 20] = G at e59 ⊢
    generalize hρ : G.eval = ρ at e59
    have hρ' : G.eval = ρ := hρ
    refine Reg.go_run (Value.int IntKind.i64 (nl : Int)) W ?_ ?_
    · rw [hρ']; simp [execOp, go_sem, e59]
    · exact ⟨Below.refl _ _, rfl⟩
set_option maxHeartbeats 4000000 in
set_option maxRecDepth 20000 in
theorem vf7a_h28 :
    Reg.OpOK Try.prog (Reg.opsOf Try.f7 7) a0 w0 (vf7aR bv b8 b10 gs gr nn cc oc rc nl vv xx l lr ee vs AA oA rA) (fun _ _ _ _ => True) 28 := by
    refine Reg.op_ok2 (fun af => { dst := some 61, op := Op.binOp BinOp.eql 3 (Operand.tmp 55) (Operand.tmp 60) 3, type := 4, pos := "law.go:40", after := af, guard := some (20, false) }) #[{ on := 22, ground := Ground.data }, { on := 27, ground := Ground.data }, { on := 20, ground := Ground.guard }] (by kernel_rfl) [22, 27, 20] (by kernel_rfl) fun af v W hb hd => ?_
    have d20 : v 20 = (Value.bool false) := hd 20 (by decide)
    have d22 : v 22 = (Value.int IntKind.i64 (nl : Int)) := hd 22 (by decide)
    have d27 : v 27 = (Value.int IntKind.i64 (nl : Int)) := hd 27 (by decide)
    have e55 := (Reg.gfr_eval (ops := (Reg.opsOf Try.f7 7)) (a0 := a0) (v := v) (L := [22, 27, 20]) 55 22 (by kernel_rfl) (by rw [hsz]; omega)).trans d22
    have e60 := (Reg.gfr_eval (ops := (Reg.opsOf Try.f7 7)) (a0 := a0) (v := v) (L := [22, 27, 20]) 60 27 (by kernel_rfl) (by rw [hsz]; omega)).trans d27
    have e53 := (Reg.gfr_eval (ops := (Reg.opsOf Try.f7 7)) (a0 := a0) (v := v) (L := [22, 27, 20]) 53 20 (by kernel_rfl) (by rw [hsz]; omega)).trans d20
    refine ⟨Reg.wanted_of rfl (by kernel_rfl) e53, ?_⟩
    generalize Reg.gfr (Reg.opsOf Try.f7 7) a0 v [22, 27, 20] = G at e55 e60 ⊢
    generalize hρ : G.eval = ρ at e55 e60
    have hρ' : G.eval = ρ := hρ
    refine Reg.go_run (Value.bool true) W ?_ ?_
    · rw [hρ']; simp [execOp, go_sem, e55, e60]
    · exact ⟨Below.refl _ _, rfl⟩
set_option maxHeartbeats 4000000 in
set_option maxRecDepth 20000 in
theorem vf7a_h29 :
    Reg.OpOK Try.prog (Reg.opsOf Try.f7 7) a0 w0 (vf7aR bv b8 b10 gs gr nn cc oc rc nl vv xx l lr ee vs AA oA rA) (fun _ _ _ _ => True) 29 := by
    refine Reg.op_ok2 (fun af => { dst := some 62, op := Op.pick (Operand.tmp 53) (Operand.const (Value.bool true)) (Operand.tmp 61), type := 4, pos := "law.go:40", after := af, guard := some (17, true) }) #[{ on := 20, ground := Ground.data }, { on := 28, ground := Ground.data }, { on := 17, ground := Ground.guard }] (by kernel_rfl) [20, 28, 17] (by kernel_rfl) fun af v W hb hd => ?_
    have d17 : v 17 = (Value.bool true) := hd 17 (by decide)
    have d20 : v 20 = (Value.bool false) := hd 20 (by decide)
    have d28 : v 28 = (Value.bool true) := hd 28 (by decide)
    have e53 := (Reg.gfr_eval (ops := (Reg.opsOf Try.f7 7)) (a0 := a0) (v := v) (L := [20, 28, 17]) 53 20 (by kernel_rfl) (by rw [hsz]; omega)).trans d20
    have e61 := (Reg.gfr_eval (ops := (Reg.opsOf Try.f7 7)) (a0 := a0) (v := v) (L := [20, 28, 17]) 61 28 (by kernel_rfl) (by rw [hsz]; omega)).trans d28
    have e50 := (Reg.gfr_eval (ops := (Reg.opsOf Try.f7 7)) (a0 := a0) (v := v) (L := [20, 28, 17]) 50 17 (by kernel_rfl) (by rw [hsz]; omega)).trans d17
    refine ⟨Reg.wanted_of rfl (by kernel_rfl) e50, ?_⟩
    have eC : ∀ x, (Reg.gfr (Reg.opsOf Try.f7 7) a0 v [20, 28, 17]).eval (.const x) = x := fun _ => rfl
    generalize Reg.gfr (Reg.opsOf Try.f7 7) a0 v [20, 28, 17] = G at e53 e61 eC ⊢
    generalize hρ : G.eval = ρ at e53 e61 eC
    have hρ' : G.eval = ρ := hρ
    refine Reg.go_run (Value.bool true) W ?_ ?_
    · rw [hρ']; simp [execOp, go_sem, e53, e61, eC]
    · exact ⟨Below.refl _ _, rfl⟩
set_option maxHeartbeats 4000000 in
set_option maxRecDepth 20000 in
theorem vf7a_h30 :
    Reg.OpOK Try.prog (Reg.opsOf Try.f7 7) a0 w0 (vf7aR bv b8 b10 gs gr nn cc oc rc nl vv xx l lr ee vs AA oA rA) (fun _ _ _ _ => True) 30 := by
    refine Reg.op_ok2 (fun af => { dst := some 63, op := Op.pick (Operand.tmp 50) (Operand.tmp 62) (Operand.const (Value.bool false)), type := 4, pos := "law.go:40", after := af, guard := none }) #[{ on := 17, ground := Ground.data }, { on := 29, ground := Ground.data }] (by kernel_rfl) [17, 29] (by kernel_rfl) fun af v W hb hd => ?_
    have d17 : v 17 = (Value.bool true) := hd 17 (by decide)
    have d29 : v 29 = (Value.bool true) := hd 29 (by decide)
    have e50 := (Reg.gfr_eval (ops := (Reg.opsOf Try.f7 7)) (a0 := a0) (v := v) (L := [17, 29]) 50 17 (by kernel_rfl) (by rw [hsz]; omega)).trans d17
    have e62 := (Reg.gfr_eval (ops := (Reg.opsOf Try.f7 7)) (a0 := a0) (v := v) (L := [17, 29]) 62 29 (by kernel_rfl) (by rw [hsz]; omega)).trans d29
    refine ⟨Reg.wanted_none rfl, ?_⟩
    have eC : ∀ x, (Reg.gfr (Reg.opsOf Try.f7 7) a0 v [17, 29]).eval (.const x) = x := fun _ => rfl
    generalize Reg.gfr (Reg.opsOf Try.f7 7) a0 v [17, 29] = G at e50 e62 eC ⊢
    generalize hρ : G.eval = ρ at e50 e62 eC
    have hρ' : G.eval = ρ := hρ
    refine Reg.go_run (Value.bool true) W ?_ ?_
    · rw [hρ']; simp [execOp, go_sem, e50, e62, eC]
    · exact ⟨Below.refl _ _, rfl⟩
set_option maxHeartbeats 4000000 in
set_option maxRecDepth 20000 in
theorem vf7a_h31 :
    Reg.OpOK Try.prog (Reg.opsOf Try.f7 7) a0 w0 (vf7aR bv b8 b10 gs gr nn cc oc rc nl vv xx l lr ee vs AA oA rA) (fun _ _ _ _ => True) 31 := by
    refine Reg.op_ok2 (fun af => { dst := some 64, op := Op.move (Operand.tmp 63), type := 4, pos := "law.go:40", after := af, guard := none }) #[{ on := 30, ground := Ground.data }, { on := 22, ground := Ground.chain }] (by kernel_rfl) [30, 22] (by kernel_rfl) fun af v W hb hd => ?_
    have d30 : v 30 = (Value.bool true) := hd 30 (by decide)
    have e63 := (Reg.gfr_eval (ops := (Reg.opsOf Try.f7 7)) (a0 := a0) (v := v) (L := [30, 22]) 63 30 (by kernel_rfl) (by rw [hsz]; omega)).trans d30
    refine ⟨Reg.wanted_none rfl, ?_⟩
    generalize Reg.gfr (Reg.opsOf Try.f7 7) a0 v [30, 22] = G at e63 ⊢
    generalize hρ : G.eval = ρ at e63
    have hρ' : G.eval = ρ := hρ
    refine Reg.go_run (Value.bool true) W ?_ ?_
    · rw [hρ']; simp [execOp, go_sem, e63]
    · exact ⟨Below.refl _ _, rfl⟩
set_option maxHeartbeats 4000000 in
set_option maxRecDepth 20000 in
theorem vf7a_h32 :
    Reg.OpOK Try.prog (Reg.opsOf Try.f7 7) a0 w0 (vf7aR bv b8 b10 gs gr nn cc oc rc nl vv xx l lr ee vs AA oA rA) (fun _ _ _ _ => True) 32 := by
    refine Reg.op_ok2 (fun af => { dst := some 65, op := Op.move (Operand.tmp 5), type := 33, pos := "law.go:40", after := af, guard := some (31, true) }) #[{ on := 31, ground := Ground.guard }] (by kernel_rfl) [31] (by kernel_rfl) fun af v W hb hd => ?_
    have d31 : v 31 = (Value.bool true) := hd 31 (by decide)
    have e5 := (Reg.gfr_eval0 (ops := (Reg.opsOf Try.f7 7)) (a0 := a0) (v := v) (L := [31]) 5 (by kernel_rfl)).trans i5
    have e64 := (Reg.gfr_eval (ops := (Reg.opsOf Try.f7 7)) (a0 := a0) (v := v) (L := [31]) 64 31 (by kernel_rfl) (by rw [hsz]; omega)).trans d31
    refine ⟨Reg.wanted_of rfl (by kernel_rfl) e64, ?_⟩
    generalize Reg.gfr (Reg.opsOf Try.f7 7) a0 v [31] = G at e5 ⊢
    generalize hρ : G.eval = ρ at e5
    have hρ' : G.eval = ρ := hρ
    refine Reg.go_run (Value.slice oA nn oc) W ?_ ?_
    · rw [hρ']; simp [execOp, go_sem, e5]
    · exact ⟨Below.refl _ _, rfl⟩
set_option maxHeartbeats 4000000 in
set_option maxRecDepth 20000 in
theorem vf7a_h33 :
    Reg.OpOK Try.prog (Reg.opsOf Try.f7 7) a0 w0 (vf7aR bv b8 b10 gs gr nn cc oc rc nl vv xx l lr ee vs AA oA rA) (fun _ _ _ _ => True) 33 := by
    refine Reg.op_ok2 (fun af => { dst := some 66, op := Op.convert 33 9 (Operand.tmp 65), type := 9, pos := "law.go:40", after := af, guard := some (31, true) }) #[{ on := 32, ground := Ground.data }, { on := 31, ground := Ground.guard }] (by kernel_rfl) [32, 31] (by kernel_rfl) fun af v W hb hd => ?_
    have d31 : v 31 = (Value.bool true) := hd 31 (by decide)
    have d32 : v 32 = (Value.slice oA nn oc) := hd 32 (by decide)
    have e65 := (Reg.gfr_eval (ops := (Reg.opsOf Try.f7 7)) (a0 := a0) (v := v) (L := [32, 31]) 65 32 (by kernel_rfl) (by rw [hsz]; omega)).trans d32
    have e64 := (Reg.gfr_eval (ops := (Reg.opsOf Try.f7 7)) (a0 := a0) (v := v) (L := [32, 31]) 64 31 (by kernel_rfl) (by rw [hsz]; omega)).trans d31
    refine ⟨Reg.wanted_of rfl (by kernel_rfl) e64, ?_⟩
    generalize Reg.gfr (Reg.opsOf Try.f7 7) a0 v [32, 31] = G at e65 ⊢
    generalize hρ : G.eval = ρ at e65
    have hρ' : G.eval = ρ := hρ
    refine Reg.go_run (Value.string (bstr l)) W ?_ ?_
    · rw [hρ']; simp [execOp, go_sem, e65, cO W hb]
    · exact ⟨Below.refl _ _, rfl⟩
set_option maxHeartbeats 4000000 in
set_option maxRecDepth 20000 in
theorem vf7a_h34 :
    Reg.OpOK Try.prog (Reg.opsOf Try.f7 7) a0 w0 (vf7aR bv b8 b10 gs gr nn cc oc rc nl vv xx l lr ee vs AA oA rA) (fun _ _ _ _ => True) 34 := by
    refine Reg.op_ok2 (fun af => { dst := some 67, op := Op.move (Operand.tmp 1), type := 33, pos := "law.go:40", after := af, guard := some (31, true) }) #[{ on := 31, ground := Ground.guard }] (by kernel_rfl) [31] (by kernel_rfl) fun af v W hb hd => ?_
    have d31 : v 31 = (Value.bool true) := hd 31 (by decide)
    have e1 := (Reg.gfr_eval0 (ops := (Reg.opsOf Try.f7 7)) (a0 := a0) (v := v) (L := [31]) 1 (by kernel_rfl)).trans i1
    have e64 := (Reg.gfr_eval (ops := (Reg.opsOf Try.f7 7)) (a0 := a0) (v := v) (L := [31]) 64 31 (by kernel_rfl) (by rw [hsz]; omega)).trans d31
    refine ⟨Reg.wanted_of rfl (by kernel_rfl) e64, ?_⟩
    generalize Reg.gfr (Reg.opsOf Try.f7 7) a0 v [31] = G at e1 ⊢
    generalize hρ : G.eval = ρ at e1
    have hρ' : G.eval = ρ := hρ
    refine Reg.go_run (Value.slice AA nn cc) W ?_ ?_
    · rw [hρ']; simp [execOp, go_sem, e1]
    · exact ⟨Below.refl _ _, rfl⟩
set_option maxHeartbeats 4000000 in
set_option maxRecDepth 20000 in
theorem vf7a_h35 :
    Reg.OpOK Try.prog (Reg.opsOf Try.f7 7) a0 w0 (vf7aR bv b8 b10 gs gr nn cc oc rc nl vv xx l lr ee vs AA oA rA) (fun _ _ _ _ => True) 35 := by
    refine Reg.op_ok2 (fun af => { dst := some 68, op := Op.convert 33 9 (Operand.tmp 67), type := 9, pos := "law.go:40", after := af, guard := some (31, true) }) #[{ on := 34, ground := Ground.data }, { on := 31, ground := Ground.guard }] (by kernel_rfl) [34, 31] (by kernel_rfl) fun af v W hb hd => ?_
    have d31 : v 31 = (Value.bool true) := hd 31 (by decide)
    have d34 : v 34 = (Value.slice AA nn cc) := hd 34 (by decide)
    have e67 := (Reg.gfr_eval (ops := (Reg.opsOf Try.f7 7)) (a0 := a0) (v := v) (L := [34, 31]) 67 34 (by kernel_rfl) (by rw [hsz]; omega)).trans d34
    have e64 := (Reg.gfr_eval (ops := (Reg.opsOf Try.f7 7)) (a0 := a0) (v := v) (L := [34, 31]) 64 31 (by kernel_rfl) (by rw [hsz]; omega)).trans d31
    refine ⟨Reg.wanted_of rfl (by kernel_rfl) e64, ?_⟩
    generalize Reg.gfr (Reg.opsOf Try.f7 7) a0 v [34, 31] = G at e67 ⊢
    generalize hρ : G.eval = ρ at e67
    have hρ' : G.eval = ρ := hρ
    refine Reg.go_run (Value.string (bstr l)) W ?_ ?_
    · rw [hρ']; simp [execOp, go_sem, e67, cA W hb]
    · exact ⟨Below.refl _ _, rfl⟩
set_option maxHeartbeats 4000000 in
set_option maxRecDepth 20000 in
theorem vf7a_h36 :
    Reg.OpOK Try.prog (Reg.opsOf Try.f7 7) a0 w0 (vf7aR bv b8 b10 gs gr nn cc oc rc nl vv xx l lr ee vs AA oA rA) (fun _ _ _ _ => True) 36 := by
    refine Reg.op_ok2 (fun af => { dst := some 69, op := Op.binOp BinOp.eql 9 (Operand.tmp 66) (Operand.tmp 68) 9, type := 4, pos := "law.go:40", after := af, guard := some (31, true) }) #[{ on := 33, ground := Ground.data }, { on := 35, ground := Ground.data }, { on := 31, ground := Ground.guard }] (by kernel_rfl) [33, 35, 31] (by kernel_rfl) fun af v W hb hd => ?_
    have d31 : v 31 = (Value.bool true) := hd 31 (by decide)
    have d33 : v 33 = (Value.string (bstr l)) := hd 33 (by decide)
    have d35 : v 35 = (Value.string (bstr l)) := hd 35 (by decide)
    have e66 := (Reg.gfr_eval (ops := (Reg.opsOf Try.f7 7)) (a0 := a0) (v := v) (L := [33, 35, 31]) 66 33 (by kernel_rfl) (by rw [hsz]; omega)).trans d33
    have e68 := (Reg.gfr_eval (ops := (Reg.opsOf Try.f7 7)) (a0 := a0) (v := v) (L := [33, 35, 31]) 68 35 (by kernel_rfl) (by rw [hsz]; omega)).trans d35
    have e64 := (Reg.gfr_eval (ops := (Reg.opsOf Try.f7 7)) (a0 := a0) (v := v) (L := [33, 35, 31]) 64 31 (by kernel_rfl) (by rw [hsz]; omega)).trans d31
    refine ⟨Reg.wanted_of rfl (by kernel_rfl) e64, ?_⟩
    generalize Reg.gfr (Reg.opsOf Try.f7 7) a0 v [33, 35, 31] = G at e66 e68 ⊢
    generalize hρ : G.eval = ρ at e66 e68
    have hρ' : G.eval = ρ := hρ
    refine Reg.go_run (Value.bool true) W ?_ ?_
    · rw [hρ']; simp [execOp, go_sem, e66, e68]
    · exact ⟨Below.refl _ _, rfl⟩
set_option maxHeartbeats 4000000 in
set_option maxRecDepth 20000 in
theorem vf7a_h37 :
    Reg.OpOK Try.prog (Reg.opsOf Try.f7 7) a0 w0 (vf7aR bv b8 b10 gs gr nn cc oc rc nl vv xx l lr ee vs AA oA rA) (fun _ _ _ _ => True) 37 := by
    refine Reg.op_ok2 (fun af => { dst := some 70, op := Op.pick (Operand.tmp 64) (Operand.tmp 69) (Operand.const (Value.bool false)), type := 4, pos := "law.go:40", after := af, guard := none }) #[{ on := 31, ground := Ground.data }, { on := 36, ground := Ground.data }] (by kernel_rfl) [31, 36] (by kernel_rfl) fun af v W hb hd => ?_
    have d31 : v 31 = (Value.bool true) := hd 31 (by decide)
    have d36 : v 36 = (Value.bool true) := hd 36 (by decide)
    have e64 := (Reg.gfr_eval (ops := (Reg.opsOf Try.f7 7)) (a0 := a0) (v := v) (L := [31, 36]) 64 31 (by kernel_rfl) (by rw [hsz]; omega)).trans d31
    have e69 := (Reg.gfr_eval (ops := (Reg.opsOf Try.f7 7)) (a0 := a0) (v := v) (L := [31, 36]) 69 36 (by kernel_rfl) (by rw [hsz]; omega)).trans d36
    refine ⟨Reg.wanted_none rfl, ?_⟩
    have eC : ∀ x, (Reg.gfr (Reg.opsOf Try.f7 7) a0 v [31, 36]).eval (.const x) = x := fun _ => rfl
    generalize Reg.gfr (Reg.opsOf Try.f7 7) a0 v [31, 36] = G at e64 e69 eC ⊢
    generalize hρ : G.eval = ρ at e64 e69 eC
    have hρ' : G.eval = ρ := hρ
    refine Reg.go_run (Value.bool true) W ?_ ?_
    · rw [hρ']; simp [execOp, go_sem, e64, e69, eC]
    · exact ⟨Below.refl _ _, rfl⟩
set_option maxHeartbeats 4000000 in
set_option maxRecDepth 20000 in
theorem vf7a_h38 :
    Reg.OpOK Try.prog (Reg.opsOf Try.f7 7) a0 w0 (vf7aR bv b8 b10 gs gr nn cc oc rc nl vv xx l lr ee vs AA oA rA) (fun _ _ _ _ => True) 38 := by
    refine Reg.op_ok2 (fun af => { dst := some 4, op := Op.assign (Operand.tmp 70), type := 4, pos := "law.go:40", after := af, guard := none }) #[{ on := 37, ground := Ground.data }, { on := 31, ground := Ground.chain }, { on := 0, ground := Ground.phase }, { on := 1, ground := Ground.phase }, { on := 2, ground := Ground.phase }, { on := 3, ground := Ground.phase }, { on := 4, ground := Ground.phase }, { on := 5, ground := Ground.phase }, { on := 6, ground := Ground.phase }, { on := 7, ground := Ground.phase }, { on := 8, ground := Ground.phase }, { on := 9, ground := Ground.phase }, { on := 10, ground := Ground.phase }, { on := 11, ground := Ground.phase }, { on := 12, ground := Ground.phase }, { on := 13, ground := Ground.phase }, { on := 14, ground := Ground.phase }, { on := 15, ground := Ground.phase }, { on := 16, ground := Ground.phase }, { on := 17, ground := Ground.phase }, { on := 18, ground := Ground.phase }, { on := 19, ground := Ground.phase }, { on := 20, ground := Ground.phase }, { on := 21, ground := Ground.phase }, { on := 22, ground := Ground.phase }, { on := 23, ground := Ground.phase }, { on := 24, ground := Ground.phase }, { on := 25, ground := Ground.phase }, { on := 26, ground := Ground.phase }, { on := 27, ground := Ground.phase }, { on := 28, ground := Ground.phase }, { on := 29, ground := Ground.phase }, { on := 30, ground := Ground.phase }, { on := 31, ground := Ground.phase }, { on := 32, ground := Ground.phase }, { on := 33, ground := Ground.phase }, { on := 34, ground := Ground.phase }, { on := 35, ground := Ground.phase }, { on := 36, ground := Ground.phase }, { on := 37, ground := Ground.phase }] (by kernel_rfl) [37, 31, 0, 1, 2, 3, 4, 5, 6, 7, 8, 9, 10, 11, 12, 13, 14, 15, 16, 17, 18, 19, 20, 21, 22, 23, 24, 25, 26, 27, 28, 29, 30, 31, 32, 33, 34, 35, 36, 37] (by kernel_rfl) fun af v W hb hd => ?_
    have d37 : v 37 = (Value.bool true) := hd 37 (by decide)
    have e70 := (Reg.gfr_eval (ops := (Reg.opsOf Try.f7 7)) (a0 := a0) (v := v) (L := [37, 31, 0, 1, 2, 3, 4, 5, 6, 7, 8, 9, 10, 11, 12, 13, 14, 15, 16, 17, 18, 19, 20, 21, 22, 23, 24, 25, 26, 27, 28, 29, 30, 31, 32, 33, 34, 35, 36, 37]) 70 37 (by kernel_rfl) (by rw [hsz]; omega)).trans d37
    refine ⟨Reg.wanted_none rfl, ?_⟩
    generalize Reg.gfr (Reg.opsOf Try.f7 7) a0 v [37, 31, 0, 1, 2, 3, 4, 5, 6, 7, 8, 9, 10, 11, 12, 13, 14, 15, 16, 17, 18, 19, 20, 21, 22, 23, 24, 25, 26, 27, 28, 29, 30, 31, 32, 33, 34, 35, 36, 37] = G at e70 ⊢
    generalize hρ : G.eval = ρ at e70
    have hρ' : G.eval = ρ := hρ
    refine Reg.go_run (Value.bool true) W ?_ ?_
    · rw [hρ']; simp [execOp, go_sem, e70]
    · exact ⟨Below.refl _ _, rfl⟩
end
set_option maxHeartbeats 4000000 in
set_option maxRecDepth 20000 in
theorem vf7a (bv b8 b10 gs gr nn cc oc rc nl : Nat) (vv xx : List Nat) (l lr : List UInt8) (ee : Int) (vs : Value) (AA oA rA : Option Addr) (w0 : World) {s0 s3 s4 s12 s13 s14 s15 s16 s17 s18 s19 s20 s21 s22 s23 s24 s25 s26 s27 s28 s29 s30 s31 s32 s33 s34 s35 s36 s37 s38 s39 s40 s41 s42 s43 s44 s45 s46 s47 s48 s49 s50 s51 s52 s53 s54 s55 s56 s57 s58 s59 s60 s61 s62 s63 s64 s65 s66 s67 s68 s69 s70 : Value}
    (hv : vv.length = 16) (hx : xx.length = 16) (sv : small vv) (hnl : lr.length = nl)
    (hSL : ∀ W, Below w0.heap.size w0 W → Src 67 gs vs lr W)
    (cA : ∀ W, Below w0.heap.size w0 W → (convert 33 9 (.slice AA nn cc)).run Try.prog W = .ok (.string (bstr l)) W)
    (cO : ∀ W, Below w0.heap.size w0 W → (convert 33 9 (.slice oA nn oc)).run Try.prog W = .ok (.string (bstr l)) W)
    (hee : ee = 0)
    (M_bv : ∀ W, Below w0.heap.size w0 W → W.heap[bv]? = some (.cells (vC vv) 24 (0, 0)))
    (M_b8 : ∀ W, Below w0.heap.size w0 W → W.heap[b8]? = some (.cells (vC xx) 24 (0, 0)))
    (M_b10 : ∀ W, Below w0.heap.size w0 W → W.heap[b10]? = some (.cells (vC xx) 24 (0, 0)))
    (CR : ∀ W, Below w0.heap.size w0 W → W.cell? ⟨gr, 0, none⟩ = some (Value.slice rA nl rc))
    {Q : Exit → Act → World → Prop}
    (hend : ∀ (w : World) (r34 r37 : Value), Below w0.heap.size w0 w → Q .normal { tmps := #[s0, (Value.slice AA nn cc), (Value.pointer (some ⟨bv, 0, none⟩)), s3, (Value.bool true), (Value.slice oA nn oc), (Value.pointer (some ⟨gs, 0, none⟩)), (Value.pointer (some ⟨gr, 0, none⟩)), (Value.pointer (some ⟨b8, 0, none⟩)), (Value.int IntKind.i64 ee), (Value.pointer (some ⟨b10, 0, none⟩)), (Value.int IntKind.i64 ee), s12, s13, s14, s15, s16, s17, s18, s19, s20, s21, s22, s23, s24, s25, s26, s27, s28, s29, s30, s31, s32, (Value.agg (vC vv)), r34, (Value.string (bstr (encV vv))), (Value.agg (vC vv)), r37, (Value.string (bstr (encV vv))), (Value.bool true), (Value.bool true), (Value.agg (vC xx)), (Value.agg (vC xx)), (Value.bool true), (Value.bool true), (Value.bool true), (Value.int IntKind.i64 ee), (Value.int IntKind.i64 ee), (Value.bool true), (Value.bool true), (Value.bool true), (Value.int IntKind.i64 ee), (Value.bool false), (Value.bool false), (Value.pointer (some ⟨gs, 0, none⟩)), (Value.int IntKind.i64 (nl : Int)), (Value.pointer (some ⟨gr, 0, none⟩)), (Value.pointer (some ⟨gr, 0, none⟩)), (Value.pointer (some ⟨gr, 0, none⟩)), (Value.slice rA nl rc), (Value.int IntKind.i64 (nl : Int)), (Value.bool true), (Value.bool true), (Value.bool true), (Value.bool true), (Value.slice oA nn oc), (Value.string (bstr l)), (Value.slice AA nn cc), (Value.string (bstr l)), (Value.bool true), (Value.bool true)], defers := [] } w) :
    (Code.region 7 (Reg.opsOf Try.f7 7) true).wp Try.prog Q { tmps := #[s0, (Value.slice AA nn cc), (Value.pointer (some ⟨bv, 0, none⟩)), s3, s4, (Value.slice oA nn oc), (Value.pointer (some ⟨gs, 0, none⟩)), (Value.pointer (some ⟨gr, 0, none⟩)), (Value.pointer (some ⟨b8, 0, none⟩)), (Value.int IntKind.i64 ee), (Value.pointer (some ⟨b10, 0, none⟩)), (Value.int IntKind.i64 ee), s12, s13, s14, s15, s16, s17, s18, s19, s20, s21, s22, s23, s24, s25, s26, s27, s28, s29, s30, s31, s32, s33, s34, s35, s36, s37, s38, s39, s40, s41, s42, s43, s44, s45, s46, s47, s48, s49, s50, s51, s52, s53, s54, s55, s56, s57, s58, s59, s60, s61, s62, s63, s64, s65, s66, s67, s68, s69, s70], defers := [] } w0 := by
  obtain ⟨a0, ha0⟩ : ∃ a0 : Act, a0 = { tmps := #[s0, (Value.slice AA nn cc), (Value.pointer (some ⟨bv, 0, none⟩)), s3, s4, (Value.slice oA nn oc), (Value.pointer (some ⟨gs, 0, none⟩)), (Value.pointer (some ⟨gr, 0, none⟩)), (Value.pointer (some ⟨b8, 0, none⟩)), (Value.int IntKind.i64 ee), (Value.pointer (some ⟨b10, 0, none⟩)), (Value.int IntKind.i64 ee), s12, s13, s14, s15, s16, s17, s18, s19, s20, s21, s22, s23, s24, s25, s26, s27, s28, s29, s30, s31, s32, s33, s34, s35, s36, s37, s38, s39, s40, s41, s42, s43, s44, s45, s46, s47, s48, s49, s50, s51, s52, s53, s54, s55, s56, s57, s58, s59, s60, s61, s62, s63, s64, s65, s66, s67, s68, s69, s70], defers := [] } := ⟨_, rfl⟩
  have hfin : ∀ v : Nat → Value, Reg.gfr (Reg.opsOf Try.f7 7) a0 v (List.range 39) = { tmps := #[s0, (Value.slice AA nn cc), (Value.pointer (some ⟨bv, 0, none⟩)), s3, v 38, (Value.slice oA nn oc), (Value.pointer (some ⟨gs, 0, none⟩)), (Value.pointer (some ⟨gr, 0, none⟩)), (Value.pointer (some ⟨b8, 0, none⟩)), (Value.int IntKind.i64 ee), (Value.pointer (some ⟨b10, 0, none⟩)), (Value.int IntKind.i64 ee), s12, s13, s14, s15, s16, s17, s18, s19, s20, s21, s22, s23, s24, s25, s26, s27, s28, s29, s30, s31, s32, v 0, v 1, v 2, v 3, v 4, v 5, v 6, v 7, v 8, v 9, v 10, v 11, v 12, v 13, v 14, v 15, v 16, v 17, v 18, v 19, v 20, v 21, v 22, v 23, v 24, v 25, v 26, v 27, v 28, v 29, v 30, v 31, v 32, v 33, v 34, v 35, v 36, v 37], defers := [] } := fun v => by rw [ha0]; kernel_rfl
  rw [← ha0]
  have i1 : a0.eval (.tmp 1) = (Value.slice AA nn cc) := by rw [ha0]; rfl
  have i2 : a0.eval (.tmp 2) = (Value.pointer (some ⟨bv, 0, none⟩)) := by rw [ha0]; rfl
  have i5 : a0.eval (.tmp 5) = (Value.slice oA nn oc) := by rw [ha0]; rfl
  have i6 : a0.eval (.tmp 6) = (Value.pointer (some ⟨gs, 0, none⟩)) := by rw [ha0]; rfl
  have i7 : a0.eval (.tmp 7) = (Value.pointer (some ⟨gr, 0, none⟩)) := by rw [ha0]; rfl
  have i8 : a0.eval (.tmp 8) = (Value.pointer (some ⟨b8, 0, none⟩)) := by rw [ha0]; rfl
  have i9 : a0.eval (.tmp 9) = (Value.int IntKind.i64 ee) := by rw [ha0]; rfl
  have i10 : a0.eval (.tmp 10) = (Value.pointer (some ⟨b10, 0, none⟩)) := by rw [ha0]; rfl
  have i11 : a0.eval (.tmp 11) = (Value.int IntKind.i64 ee) := by rw [ha0]; rfl
  have hsz : a0.tmps.size = 71 := by rw [ha0]; rfl
  clear ha0
  have hn : (Reg.opsOf Try.f7 7).size = 39 := by kernel_rfl
  have h0 := vf7a_h0 bv b8 b10 gs gr nn cc oc rc nl vv xx l lr ee vs AA oA rA w0 a0 hv hx sv hnl hSL cA cO hee M_bv M_b8 M_b10 CR i1 i2 i5 i6 i7 i8 i9 i10 i11 hsz
  have h1 := vf7a_h1 bv b8 b10 gs gr nn cc oc rc nl vv xx l lr ee vs AA oA rA w0 a0 hv hx sv hnl hSL cA cO hee M_bv M_b8 M_b10 CR i1 i2 i5 i6 i7 i8 i9 i10 i11 hsz
  have h2 := vf7a_h2 bv b8 b10 gs gr nn cc oc rc nl vv xx l lr ee vs AA oA rA w0 a0 hv hx sv hnl hSL cA cO hee M_bv M_b8 M_b10 CR i1 i2 i5 i6 i7 i8 i9 i10 i11 hsz
  have h3 := vf7a_h3 bv b8 b10 gs gr nn cc oc rc nl vv xx l lr ee vs AA oA rA w0 a0 hv hx sv hnl hSL cA cO hee M_bv M_b8 M_b10 CR i1 i2 i5 i6 i7 i8 i9 i10 i11 hsz
  have h4 := vf7a_h4 bv b8 b10 gs gr nn cc oc rc nl vv xx l lr ee vs AA oA rA w0 a0 hv hx sv hnl hSL cA cO hee M_bv M_b8 M_b10 CR i1 i2 i5 i6 i7 i8 i9 i10 i11 hsz
  have h5 := vf7a_h5 bv b8 b10 gs gr nn cc oc rc nl vv xx l lr ee vs AA oA rA w0 a0 hv hx sv hnl hSL cA cO hee M_bv M_b8 M_b10 CR i1 i2 i5 i6 i7 i8 i9 i10 i11 hsz
  have h6 := vf7a_h6 bv b8 b10 gs gr nn cc oc rc nl vv xx l lr ee vs AA oA rA w0 a0 hv hx sv hnl hSL cA cO hee M_bv M_b8 M_b10 CR i1 i2 i5 i6 i7 i8 i9 i10 i11 hsz
  have h7 := vf7a_h7 bv b8 b10 gs gr nn cc oc rc nl vv xx l lr ee vs AA oA rA w0 a0 hv hx sv hnl hSL cA cO hee M_bv M_b8 M_b10 CR i1 i2 i5 i6 i7 i8 i9 i10 i11 hsz
  have h8 := vf7a_h8 bv b8 b10 gs gr nn cc oc rc nl vv xx l lr ee vs AA oA rA w0 a0 hv hx sv hnl hSL cA cO hee M_bv M_b8 M_b10 CR i1 i2 i5 i6 i7 i8 i9 i10 i11 hsz
  have h9 := vf7a_h9 bv b8 b10 gs gr nn cc oc rc nl vv xx l lr ee vs AA oA rA w0 a0 hv hx sv hnl hSL cA cO hee M_bv M_b8 M_b10 CR i1 i2 i5 i6 i7 i8 i9 i10 i11 hsz
  have h10 := vf7a_h10 bv b8 b10 gs gr nn cc oc rc nl vv xx l lr ee vs AA oA rA w0 a0 hv hx sv hnl hSL cA cO hee M_bv M_b8 M_b10 CR i1 i2 i5 i6 i7 i8 i9 i10 i11 hsz
  have h11 := vf7a_h11 bv b8 b10 gs gr nn cc oc rc nl vv xx l lr ee vs AA oA rA w0 a0 hv hx sv hnl hSL cA cO hee M_bv M_b8 M_b10 CR i1 i2 i5 i6 i7 i8 i9 i10 i11 hsz
  have h12 := vf7a_h12 bv b8 b10 gs gr nn cc oc rc nl vv xx l lr ee vs AA oA rA w0 a0 hv hx sv hnl hSL cA cO hee M_bv M_b8 M_b10 CR i1 i2 i5 i6 i7 i8 i9 i10 i11 hsz
  have h13 := vf7a_h13 bv b8 b10 gs gr nn cc oc rc nl vv xx l lr ee vs AA oA rA w0 a0 hv hx sv hnl hSL cA cO hee M_bv M_b8 M_b10 CR i1 i2 i5 i6 i7 i8 i9 i10 i11 hsz
  have h14 := vf7a_h14 bv b8 b10 gs gr nn cc oc rc nl vv xx l lr ee vs AA oA rA w0 a0 hv hx sv hnl hSL cA cO hee M_bv M_b8 M_b10 CR i1 i2 i5 i6 i7 i8 i9 i10 i11 hsz
  have h15 := vf7a_h15 bv b8 b10 gs gr nn cc oc rc nl vv xx l lr ee vs AA oA rA w0 a0 hv hx sv hnl hSL cA cO hee M_bv M_b8 M_b10 CR i1 i2 i5 i6 i7 i8 i9 i10 i11 hsz
  have h16 := vf7a_h16 bv b8 b10 gs gr nn cc oc rc nl vv xx l lr ee vs AA oA rA w0 a0 hv hx sv hnl hSL cA cO hee M_bv M_b8 M_b10 CR i1 i2 i5 i6 i7 i8 i9 i10 i11 hsz
  have h17 := vf7a_h17 bv b8 b10 gs gr nn cc oc rc nl vv xx l lr ee vs AA oA rA w0 a0 hv hx sv hnl hSL cA cO hee M_bv M_b8 M_b10 CR i1 i2 i5 i6 i7 i8 i9 i10 i11 hsz
  have h18 := vf7a_h18 bv b8 b10 gs gr nn cc oc rc nl vv xx l lr ee vs AA oA rA w0 a0 hv hx sv hnl hSL cA cO hee M_bv M_b8 M_b10 CR i1 i2 i5 i6 i7 i8 i9 i10 i11 hsz
  have h19 := vf7a_h19 bv b8 b10 gs gr nn cc oc rc nl vv xx l lr ee vs AA oA rA w0 a0 hv hx sv hnl hSL cA cO hee M_bv M_b8 M_b10 CR i1 i2 i5 i6 i7 i8 i9 i10 i11 hsz
  have h20 := vf7a_h20 bv b8 b10 gs gr nn cc oc rc nl vv xx l lr ee vs AA oA rA w0 a0 hv hx sv hnl hSL cA cO hee M_bv M_b8 M_b10 CR i1 i2 i5 i6 i7 i8 i9 i10 i11 hsz
  have h21 := vf7a_h21 bv b8 b10 gs gr nn cc oc rc nl vv xx l lr ee vs AA oA rA w0 a0 hv hx sv hnl hSL cA cO hee M_bv M_b8 M_b10 CR i1 i2 i5 i6 i7 i8 i9 i10 i11 hsz
  have h22 := vf7a_h22 bv b8 b10 gs gr nn cc oc rc nl vv xx l lr ee vs AA oA rA w0 a0 hv hx sv hnl hSL cA cO hee M_bv M_b8 M_b10 CR i1 i2 i5 i6 i7 i8 i9 i10 i11 hsz
  have h23 := vf7a_h23 bv b8 b10 gs gr nn cc oc rc nl vv xx l lr ee vs AA oA rA w0 a0 hv hx sv hnl hSL cA cO hee M_bv M_b8 M_b10 CR i1 i2 i5 i6 i7 i8 i9 i10 i11 hsz
  have h24 := vf7a_h24 bv b8 b10 gs gr nn cc oc rc nl vv xx l lr ee vs AA oA rA w0 a0 hv hx sv hnl hSL cA cO hee M_bv M_b8 M_b10 CR i1 i2 i5 i6 i7 i8 i9 i10 i11 hsz
  have h25 := vf7a_h25 bv b8 b10 gs gr nn cc oc rc nl vv xx l lr ee vs AA oA rA w0 a0 hv hx sv hnl hSL cA cO hee M_bv M_b8 M_b10 CR i1 i2 i5 i6 i7 i8 i9 i10 i11 hsz
  have h26 := vf7a_h26 bv b8 b10 gs gr nn cc oc rc nl vv xx l lr ee vs AA oA rA w0 a0 hv hx sv hnl hSL cA cO hee M_bv M_b8 M_b10 CR i1 i2 i5 i6 i7 i8 i9 i10 i11 hsz
  have h27 := vf7a_h27 bv b8 b10 gs gr nn cc oc rc nl vv xx l lr ee vs AA oA rA w0 a0 hv hx sv hnl hSL cA cO hee M_bv M_b8 M_b10 CR i1 i2 i5 i6 i7 i8 i9 i10 i11 hsz
  have h28 := vf7a_h28 bv b8 b10 gs gr nn cc oc rc nl vv xx l lr ee vs AA oA rA w0 a0 hv hx sv hnl hSL cA cO hee M_bv M_b8 M_b10 CR i1 i2 i5 i6 i7 i8 i9 i10 i11 hsz
  have h29 := vf7a_h29 bv b8 b10 gs gr nn cc oc rc nl vv xx l lr ee vs AA oA rA w0 a0 hv hx sv hnl hSL cA cO hee M_bv M_b8 M_b10 CR i1 i2 i5 i6 i7 i8 i9 i10 i11 hsz
  have h30 := vf7a_h30 bv b8 b10 gs gr nn cc oc rc nl vv xx l lr ee vs AA oA rA w0 a0 hv hx sv hnl hSL cA cO hee M_bv M_b8 M_b10 CR i1 i2 i5 i6 i7 i8 i9 i10 i11 hsz
  have h31 := vf7a_h31 bv b8 b10 gs gr nn cc oc rc nl vv xx l lr ee vs AA oA rA w0 a0 hv hx sv hnl hSL cA cO hee M_bv M_b8 M_b10 CR i1 i2 i5 i6 i7 i8 i9 i10 i11 hsz
  have h32 := vf7a_h32 bv b8 b10 gs gr nn cc oc rc nl vv xx l lr ee vs AA oA rA w0 a0 hv hx sv hnl hSL cA cO hee M_bv M_b8 M_b10 CR i1 i2 i5 i6 i7 i8 i9 i10 i11 hsz
  have h33 := vf7a_h33 bv b8 b10 gs gr nn cc oc rc nl vv xx l lr ee vs AA oA rA w0 a0 hv hx sv hnl hSL cA cO hee M_bv M_b8 M_b10 CR i1 i2 i5 i6 i7 i8 i9 i10 i11 hsz
  have h34 := vf7a_h34 bv b8 b10 gs gr nn cc oc rc nl vv xx l lr ee vs AA oA rA w0 a0 hv hx sv hnl hSL cA cO hee M_bv M_b8 M_b10 CR i1 i2 i5 i6 i7 i8 i9 i10 i11 hsz
  have h35 := vf7a_h35 bv b8 b10 gs gr nn cc oc rc nl vv xx l lr ee vs AA oA rA w0 a0 hv hx sv hnl hSL cA cO hee M_bv M_b8 M_b10 CR i1 i2 i5 i6 i7 i8 i9 i10 i11 hsz
  have h36 := vf7a_h36 bv b8 b10 gs gr nn cc oc rc nl vv xx l lr ee vs AA oA rA w0 a0 hv hx sv hnl hSL cA cO hee M_bv M_b8 M_b10 CR i1 i2 i5 i6 i7 i8 i9 i10 i11 hsz
  have h37 := vf7a_h37 bv b8 b10 gs gr nn cc oc rc nl vv xx l lr ee vs AA oA rA w0 a0 hv hx sv hnl hSL cA cO hee M_bv M_b8 M_b10 CR i1 i2 i5 i6 i7 i8 i9 i10 i11 hsz
  have h38 := vf7a_h38 bv b8 b10 gs gr nn cc oc rc nl vv xx l lr ee vs AA oA rA w0 a0 hv hx sv hnl hSL cA cO hee M_bv M_b8 M_b10 CR i1 i2 i5 i6 i7 i8 i9 i10 i11 hsz
  refine Reg.region_all (by kernel_rfl) (vf7aR bv b8 b10 gs gr nn cc oc rc nl vv xx l lr ee vs AA oA rA) (by rw [hn, hsz]; kernel_rfl) (vf7a_stable bv b8 b10 gs gr nn cc oc rc nl vv xx l lr ee vs AA oA rA) (fun i hi => ?_) (fun v w hb hR => ?_)
  · rw [hn] at hi
    match i, List.mem_range.1 hi with
    | 0, _ => exact h0
    | 1, _ => exact h1
    | 2, _ => exact h2
    | 3, _ => exact h3
    | 4, _ => exact h4
    | 5, _ => exact h5
    | 6, _ => exact h6
    | 7, _ => exact h7
    | 8, _ => exact h8
    | 9, _ => exact h9
    | 10, _ => exact h10
    | 11, _ => exact h11
    | 12, _ => exact h12
    | 13, _ => exact h13
    | 14, _ => exact h14
    | 15, _ => exact h15
    | 16, _ => exact h16
    | 17, _ => exact h17
    | 18, _ => exact h18
    | 19, _ => exact h19
    | 20, _ => exact h20
    | 21, _ => exact h21
    | 22, _ => exact h22
    | 23, _ => exact h23
    | 24, _ => exact h24
    | 25, _ => exact h25
    | 26, _ => exact h26
    | 27, _ => exact h27
    | 28, _ => exact h28
    | 29, _ => exact h29
    | 30, _ => exact h30
    | 31, _ => exact h31
    | 32, _ => exact h32
    | 33, _ => exact h33
    | 34, _ => exact h34
    | 35, _ => exact h35
    | 36, _ => exact h36
    | 37, _ => exact h37
    | 38, _ => exact h38
    | (_ + 39), h => omega
  · rw [hn] at hR ⊢
    have v0 : v 0 = (Value.agg (vC vv)) := hR 0 (by decide)
    have v2 : v 2 = (Value.string (bstr (encV vv))) := hR 2 (by decide)
    have v3 : v 3 = (Value.agg (vC vv)) := hR 3 (by decide)
    have v5 : v 5 = (Value.string (bstr (encV vv))) := hR 5 (by decide)
    have v6 : v 6 = (Value.bool true) := hR 6 (by decide)
    have v7 : v 7 = (Value.bool true) := hR 7 (by decide)
    have v8 : v 8 = (Value.agg (vC xx)) := hR 8 (by decide)
    have v9 : v 9 = (Value.agg (vC xx)) := hR 9 (by decide)
    have v10 : v 10 = (Value.bool true) := hR 10 (by decide)
    have v11 : v 11 = (Value.bool true) := hR 11 (by decide)
    have v12 : v 12 = (Value.bool true) := hR 12 (by decide)
    have v13 : v 13 = (Value.int IntKind.i64 ee) := hR 13 (by decide)
    have v14 : v 14 = (Value.int IntKind.i64 ee) := hR 14 (by decide)
    have v15 : v 15 = (Value.bool true) := hR 15 (by decide)
    have v16 : v 16 = (Value.bool true) := hR 16 (by decide)
    have v17 : v 17 = (Value.bool true) := hR 17 (by decide)
    have v18 : v 18 = (Value.int IntKind.i64 ee) := hR 18 (by decide)
    have v19 : v 19 = (Value.bool false) := hR 19 (by decide)
    have v20 : v 20 = (Value.bool false) := hR 20 (by decide)
    have v21 : v 21 = (Value.pointer (some ⟨gs, 0, none⟩)) := hR 21 (by decide)
    have v22 : v 22 = (Value.int IntKind.i64 (nl : Int)) := hR 22 (by decide)
    have v23 : v 23 = (Value.pointer (some ⟨gr, 0, none⟩)) := hR 23 (by decide)
    have v24 : v 24 = (Value.pointer (some ⟨gr, 0, none⟩)) := hR 24 (by decide)
    have v25 : v 25 = (Value.pointer (some ⟨gr, 0, none⟩)) := hR 25 (by decide)
    have v26 : v 26 = (Value.slice rA nl rc) := hR 26 (by decide)
    have v27 : v 27 = (Value.int IntKind.i64 (nl : Int)) := hR 27 (by decide)
    have v28 : v 28 = (Value.bool true) := hR 28 (by decide)
    have v29 : v 29 = (Value.bool true) := hR 29 (by decide)
    have v30 : v 30 = (Value.bool true) := hR 30 (by decide)
    have v31 : v 31 = (Value.bool true) := hR 31 (by decide)
    have v32 : v 32 = (Value.slice oA nn oc) := hR 32 (by decide)
    have v33 : v 33 = (Value.string (bstr l)) := hR 33 (by decide)
    have v34 : v 34 = (Value.slice AA nn cc) := hR 34 (by decide)
    have v35 : v 35 = (Value.string (bstr l)) := hR 35 (by decide)
    have v36 : v 36 = (Value.bool true) := hR 36 (by decide)
    have v37 : v 37 = (Value.bool true) := hR 37 (by decide)
    have v38 : v 38 = (Value.bool true) := hR 38 (by decide)
    rw [hfin v, v0, v2, v3, v5, v6, v7, v8, v9, v10, v11, v12, v13, v14, v15, v16, v17, v18, v19, v20, v21, v22, v23, v24, v25, v26, v27, v28, v29, v30, v31, v32, v33, v34, v35, v36, v37, v38]
    exact hend w (v 1) (v 4) hb 
def vf7bR (bv b8 b10 gs gr nn cc oc rc nl : Nat) (vv xx : List Nat) (l lr : List UInt8) (ee : Int) (vs : Value) (AA oA rA : Option Addr) : Nat → Value → World → Prop
  | 0 => fun x_ _ => x_ = (Value.agg (vC vv))
  | 1 => (fun u_ w_ => ∃ A_ c_, u_ = Value.slice A_ (encV vv).length c_ ∧ RdC w_ A_ (u8v (encV vv)))
  | 2 => fun x_ _ => x_ = (Value.string (bstr (encV vv)))
  | 3 => fun x_ _ => x_ = (Value.agg (vC vv))
  | 4 => (fun u_ w_ => ∃ A_ c_, u_ = Value.slice A_ (encV vv).length c_ ∧ RdC w_ A_ (u8v (encV vv)))
  | 5 => fun x_ _ => x_ = (Value.string (bstr (encV vv)))
  | 6 => fun x_ _ => x_ = (Value.bool true)
  | 7 => fun x_ _ => x_ = (Value.bool true)
  | 8 => fun x_ _ => x_ = (Value.agg (vC xx))
  | 9 => fun x_ _ => x_ = (Value.agg (vC xx))
  | 10 => fun x_ _ => x_ = (Value.bool true)
  | 11 => fun x_ _ => x_ = (Value.bool true)
  | 12 => fun x_ _ => x_ = (Value.bool true)
  | 13 => fun x_ _ => x_ = (Value.int IntKind.i64 ee)
  | 14 => fun x_ _ => x_ = (Value.int IntKind.i64 ee)
  | 15 => fun x_ _ => x_ = (Value.bool true)
  | 16 => fun x_ _ => x_ = (Value.bool true)
  | 17 => fun x_ _ => x_ = (Value.bool true)
  | 18 => fun x_ _ => x_ = (Value.int IntKind.i64 ee)
  | 19 => fun x_ _ => x_ = (Value.bool true)
  | 20 => fun x_ _ => x_ = (Value.bool true)
  | 21 => fun x_ _ => x_ = undef
  | 22 => fun x_ _ => x_ = undef
  | 23 => fun x_ _ => x_ = undef
  | 24 => fun x_ _ => x_ = undef
  | 25 => fun x_ _ => x_ = undef
  | 26 => fun x_ _ => x_ = undef
  | 27 => fun x_ _ => x_ = undef
  | 28 => fun x_ _ => x_ = undef
  | 29 => fun x_ _ => x_ = (Value.bool true)
  | 30 => fun x_ _ => x_ = (Value.bool true)
  | 31 => fun x_ _ => x_ = (Value.bool true)
  | 32 => fun x_ _ => x_ = (Value.slice oA nn oc)
  | 33 => fun x_ _ => x_ = (Value.string (bstr l))
  | 34 => fun x_ _ => x_ = (Value.slice AA nn cc)
  | 35 => fun x_ _ => x_ = (Value.string (bstr l))
  | 36 => fun x_ _ => x_ = (Value.bool true)
  | 37 => fun x_ _ => x_ = (Value.bool true)
  | 38 => fun x_ _ => x_ = (Value.bool true)
  | _ => fun _ _ => True
theorem vf7b_stable (bv b8 b10 gs gr nn cc oc rc nl : Nat) (vv xx : List Nat) (l lr : List UInt8) (ee : Int) (vs : Value) (AA oA rA : Option Addr) : ∀ i_ u_ w_ w_', (vf7bR bv b8 b10 gs gr nn cc oc rc nl vv xx l lr ee vs AA oA rA) i_ u_ w_ → Below w_.heap.size w_ w_' → (vf7bR bv b8 b10 gs gr nn cc oc rc nl vv xx l lr ee vs AA oA rA) i_ u_ w_' := fun i_ u_ w_ w_' h_ hb_ => by
  match i_, h_ with
  | 0, h_ => exact h_
  | 1, h_ => exact ((by obtain ⟨A_, c_, h1_, h2_⟩ := h_; exact ⟨A_, c_, h1_, h2_.below hb_⟩))
  | 2, h_ => exact h_
  | 3, h_ => exact h_
  | 4, h_ => exact ((by obtain ⟨A_, c_, h1_, h2_⟩ := h_; exact ⟨A_, c_, h1_, h2_.below hb_⟩))
  | 5, h_ => exact h_
  | 6, h_ => exact h_
  | 7, h_ => exact h_
  | 8, h_ => exact h_
  | 9, h_ => exact h_
  | 10, h_ => exact h_
  | 11, h_ => exact h_
  | 12, h_ => exact h_
  | 13, h_ => exact h_
  | 14, h_ => exact h_
  | 15, h_ => exact h_
  | 16, h_ => exact h_
  | 17, h_ => exact h_
  | 18, h_ => exact h_
  | 19, h_ => exact h_
  | 20, h_ => exact h_
  | 21, h_ => exact h_
  | 22, h_ => exact h_
  | 23, h_ => exact h_
  | 24, h_ => exact h_
  | 25, h_ => exact h_
  | 26, h_ => exact h_
  | 27, h_ => exact h_
  | 28, h_ => exact h_
  | 29, h_ => exact h_
  | 30, h_ => exact h_
  | 31, h_ => exact h_
  | 32, h_ => exact h_
  | 33, h_ => exact h_
  | 34, h_ => exact h_
  | 35, h_ => exact h_
  | 36, h_ => exact h_
  | 37, h_ => exact h_
  | 38, h_ => exact h_
  | (_ + 39), _ => trivial
section
variable (bv b8 b10 gs gr nn cc oc rc nl : Nat) (vv xx : List Nat) (l lr : List UInt8) (ee : Int) (vs : Value) (AA oA rA : Option Addr) (w0 : World) (a0 : Act)
variable (hv : vv.length = 16) (hx : xx.length = 16) (sv : small vv) (hnl : lr.length = nl)
variable (hSL : ∀ W, Below w0.heap.size w0 W → Src 67 gs vs lr W)
variable (cA : ∀ W, Below w0.heap.size w0 W → (convert 33 9 (.slice AA nn cc)).run Try.prog W = .ok (.string (bstr l)) W)
variable (cO : ∀ W, Below w0.heap.size w0 W → (convert 33 9 (.slice oA nn oc)).run Try.prog W = .ok (.string (bstr l)) W)
variable (hee : (ee != 0) = true)
variable (M_bv : ∀ W, Below w0.heap.size w0 W → W.heap[bv]? = some (.cells (vC vv) 24 (0, 0)))
variable (M_b8 : ∀ W, Below w0.heap.size w0 W → W.heap[b8]? = some (.cells (vC xx) 24 (0, 0)))
variable (M_b10 : ∀ W, Below w0.heap.size w0 W → W.heap[b10]? = some (.cells (vC xx) 24 (0, 0)))
variable (CR : ∀ W, Below w0.heap.size w0 W → W.cell? ⟨gr, 0, none⟩ = some (Value.slice rA nl rc))
variable (i1 : a0.eval (.tmp 1) = (Value.slice AA nn cc)) (i2 : a0.eval (.tmp 2) = (Value.pointer (some ⟨bv, 0, none⟩))) (i5 : a0.eval (.tmp 5) = (Value.slice oA nn oc)) (i6 : a0.eval (.tmp 6) = (Value.pointer (some ⟨gs, 0, none⟩))) (i7 : a0.eval (.tmp 7) = (Value.pointer (some ⟨gr, 0, none⟩))) (i8 : a0.eval (.tmp 8) = (Value.pointer (some ⟨b8, 0, none⟩))) (i9 : a0.eval (.tmp 9) = (Value.int IntKind.i64 ee)) (i10 : a0.eval (.tmp 10) = (Value.pointer (some ⟨b10, 0, none⟩))) (i11 : a0.eval (.tmp 11) = (Value.int IntKind.i64 ee)) (hsz : a0.tmps.size = 71)
include bv b8 b10 gs gr nn cc oc rc nl vv xx l lr ee vs AA oA rA w0 a0 hv hx sv hnl hSL cA cO hee M_bv M_b8 M_b10 CR i1 i2 i5 i6 i7 i8 i9 i10 i11 hsz
set_option maxHeartbeats 4000000 in
set_option maxRecDepth 20000 in
theorem vf7b_h0 :
    Reg.OpOK Try.prog (Reg.opsOf Try.f7 7) a0 w0 (vf7bR bv b8 b10 gs gr nn cc oc rc nl vv xx l lr ee vs AA oA rA) (fun _ _ _ _ => True) 0 := by
    refine Reg.op_ok2 (fun af => { dst := some 33, op := Op.load 24 (Operand.tmp 2), type := 24, pos := "law.go:40", after := af, guard := none }) #[] (by kernel_rfl) [] (by kernel_rfl) fun af v W hb hd => ?_
    have e2 := (Reg.gfr_eval0 (ops := (Reg.opsOf Try.f7 7)) (a0 := a0) (v := v) (L := []) 2 (by kernel_rfl)).trans i2
    refine ⟨Reg.wanted_none rfl, ?_⟩
    generalize Reg.gfr (Reg.opsOf Try.f7 7) a0 v [] = G at e2 ⊢
    generalize hρ : G.eval = ρ at e2
    have hρ' : G.eval = ρ := hρ
    exact fun K hK => wp_load_row 24 (.tmp 2) rfl bv (by rw [hρ']; exact e2) 24 (vC vv) (0, 0) _ (M_bv W hb) Try.underlying24 rfl (vec_size hv) (hK _ _ ⟨Below.refl _ _, rfl⟩)
set_option maxHeartbeats 4000000 in
set_option maxRecDepth 20000 in
theorem vf7b_h1 :
    Reg.OpOK Try.prog (Reg.opsOf Try.f7 7) a0 w0 (vf7bR bv b8 b10 gs gr nn cc oc rc nl vv xx l lr ee vs AA oA rA) (fun _ _ _ _ => True) 1 := by
    refine Reg.op_ok2 (fun af => { dst := some 34, op := Op.call { callee := Callee.value (Operand.func 31), args := #[Operand.tmp 33], argTypes := #[24] }, type := 33, pos := "law.go:40", after := af, guard := none }) #[{ on := 0, ground := Ground.data }] (by kernel_rfl) [0] (by kernel_rfl) fun af v W hb hd => ?_
    have d0 : v 0 = (Value.agg (vC vv)) := hd 0 (by decide)
    have e33 := (Reg.gfr_eval (ops := (Reg.opsOf Try.f7 7)) (a0 := a0) (v := v) (L := [0]) 33 0 (by kernel_rfl) (by rw [hsz]; omega)).trans d0
    refine ⟨Reg.wanted_none rfl, ?_⟩
    have eF : ∀ f, (Reg.gfr (Reg.opsOf Try.f7 7) a0 v [0]).eval (.func f) = .func (.func f) #[] #[] := fun _ => rfl
    generalize Reg.gfr (Reg.opsOf Try.f7 7) a0 v [0] = G at e33 eF ⊢
    generalize hρ : G.eval = ρ at e33 eF
    have hρ' : G.eval = ρ := hρ
    refine Reg.go_call 31 #[(Value.agg (vC vv))] (by rw [hρ']; simp [execOp, go_sem, e33, eF]) ((encode_any vv hv sv W).mono fun e w' he => ?_)
    obtain ⟨v_, rfl, hn_⟩ := he
    obtain ⟨A_, c_, rfl, _, _, hr_, _⟩ := RdC.of_own hn_.1
    exact ⟨_, rfl, hn_.2, ⟨A_, c_, rfl, hr_⟩⟩
set_option maxHeartbeats 4000000 in
set_option maxRecDepth 20000 in
theorem vf7b_h2 :
    Reg.OpOK Try.prog (Reg.opsOf Try.f7 7) a0 w0 (vf7bR bv b8 b10 gs gr nn cc oc rc nl vv xx l lr ee vs AA oA rA) (fun _ _ _ _ => True) 2 := by
    refine Reg.op_ok2 (fun af => { dst := some 35, op := Op.convert 33 9 (Operand.tmp 34), type := 9, pos := "law.go:40", after := af, guard := none }) #[{ on := 1, ground := Ground.data }] (by kernel_rfl) [1] (by kernel_rfl) fun af v W hb hd => ?_
    have d1 : ((fun u_ w_ => ∃ A_ c_, u_ = Value.slice A_ (encV vv).length c_ ∧ RdC w_ A_ (u8v (encV vv)))) (v 1) W := hd 1 (by decide)
    have e34 := Reg.gfr_eval (ops := (Reg.opsOf Try.f7 7)) (a0 := a0) (v := v) (L := [1]) 34 1 (by kernel_rfl) (by rw [hsz]; omega)
    refine ⟨Reg.wanted_none rfl, ?_⟩
    generalize Reg.gfr (Reg.opsOf Try.f7 7) a0 v [1] = G at e34 ⊢
    generalize hρ : G.eval = ρ at e34
    have hρ' : G.eval = ρ := hρ
    obtain ⟨A_, c_, hv_, hr_⟩ := d1
    rw [hv_] at e34
    have cv := run_string_of (P := Try.prog) W 33 9 5 Try.underlying33 Try.underlying5 Try.underlying9 A_ (encV vv) c_ hr_
    refine Reg.go_run (Value.string (bstr (encV vv))) W (by rw [hρ']; simp [execOp, go_sem, e34, cv]) ⟨Below.refl _ _, rfl⟩
set_option maxHeartbeats 4000000 in
set_option maxRecDepth 20000 in
theorem vf7b_h3 :
    Reg.OpOK Try.prog (Reg.opsOf Try.f7 7) a0 w0 (vf7bR bv b8 b10 gs gr nn cc oc rc nl vv xx l lr ee vs AA oA rA) (fun _ _ _ _ => True) 3 := by
    refine Reg.op_ok2 (fun af => { dst := some 36, op := Op.load 24 (Operand.tmp 2), type := 24, pos := "law.go:40", after := af, guard := none }) #[] (by kernel_rfl) [] (by kernel_rfl) fun af v W hb hd => ?_
    have e2 := (Reg.gfr_eval0 (ops := (Reg.opsOf Try.f7 7)) (a0 := a0) (v := v) (L := []) 2 (by kernel_rfl)).trans i2
    refine ⟨Reg.wanted_none rfl, ?_⟩
    generalize Reg.gfr (Reg.opsOf Try.f7 7) a0 v [] = G at e2 ⊢
    generalize hρ : G.eval = ρ at e2
    have hρ' : G.eval = ρ := hρ
    exact fun K hK => wp_load_row 24 (.tmp 2) rfl bv (by rw [hρ']; exact e2) 24 (vC vv) (0, 0) _ (M_bv W hb) Try.underlying24 rfl (vec_size hv) (hK _ _ ⟨Below.refl _ _, rfl⟩)
set_option maxHeartbeats 4000000 in
set_option maxRecDepth 20000 in
theorem vf7b_h4 :
    Reg.OpOK Try.prog (Reg.opsOf Try.f7 7) a0 w0 (vf7bR bv b8 b10 gs gr nn cc oc rc nl vv xx l lr ee vs AA oA rA) (fun _ _ _ _ => True) 4 := by
    refine Reg.op_ok2 (fun af => { dst := some 37, op := Op.call { callee := Callee.value (Operand.func 32), args := #[Operand.tmp 36], argTypes := #[24] }, type := 33, pos := "law.go:40", after := af, guard := none }) #[{ on := 3, ground := Ground.data }, { on := 1, ground := Ground.chain }] (by kernel_rfl) [3, 1] (by kernel_rfl) fun af v W hb hd => ?_
    have d3 : v 3 = (Value.agg (vC vv)) := hd 3 (by decide)
    have e36 := (Reg.gfr_eval (ops := (Reg.opsOf Try.f7 7)) (a0 := a0) (v := v) (L := [3, 1]) 36 3 (by kernel_rfl) (by rw [hsz]; omega)).trans d3
    refine ⟨Reg.wanted_none rfl, ?_⟩
    have eF : ∀ f, (Reg.gfr (Reg.opsOf Try.f7 7) a0 v [3, 1]).eval (.func f) = .func (.func f) #[] #[] := fun _ => rfl
    generalize Reg.gfr (Reg.opsOf Try.f7 7) a0 v [3, 1] = G at e36 eF ⊢
    generalize hρ : G.eval = ρ at e36 eF
    have hρ' : G.eval = ρ := hρ
    refine Reg.go_call 32 #[(Value.agg (vC vv))] (by rw [hρ']; simp [execOp, go_sem, e36, eF]) ((rencode_any vv hv sv W).mono fun e w' he => ?_)
    obtain ⟨v_, rfl, hn_⟩ := he
    obtain ⟨A_, c_, rfl, _, _, hr_, _⟩ := RdC.of_own hn_.1
    exact ⟨_, rfl, hn_.2, ⟨A_, c_, rfl, hr_⟩⟩
set_option maxHeartbeats 4000000 in
set_option maxRecDepth 20000 in
theorem vf7b_h5 :
    Reg.OpOK Try.prog (Reg.opsOf Try.f7 7) a0 w0 (vf7bR bv b8 b10 gs gr nn cc oc rc nl vv xx l lr ee vs AA oA rA) (fun _ _ _ _ => True) 5 := by
    refine Reg.op_ok2 (fun af => { dst := some 38, op := Op.convert 33 9 (Operand.tmp 37), type := 9, pos := "law.go:40", after := af, guard := none }) #[{ on := 4, ground := Ground.data }] (by kernel_rfl) [4] (by kernel_rfl) fun af v W hb hd => ?_
    have d4 : ((fun u_ w_ => ∃ A_ c_, u_ = Value.slice A_ (encV vv).length c_ ∧ RdC w_ A_ (u8v (encV vv)))) (v 4) W := hd 4 (by decide)
    have e37 := Reg.gfr_eval (ops := (Reg.opsOf Try.f7 7)) (a0 := a0) (v := v) (L := [4]) 37 4 (by kernel_rfl) (by rw [hsz]; omega)
    refine ⟨Reg.wanted_none rfl, ?_⟩
    generalize Reg.gfr (Reg.opsOf Try.f7 7) a0 v [4] = G at e37 ⊢
    generalize hρ : G.eval = ρ at e37
    have hρ' : G.eval = ρ := hρ
    obtain ⟨A_, c_, hv_, hr_⟩ := d4
    rw [hv_] at e37
    have cv := run_string_of (P := Try.prog) W 33 9 5 Try.underlying33 Try.underlying5 Try.underlying9 A_ (encV vv) c_ hr_
    refine Reg.go_run (Value.string (bstr (encV vv))) W (by rw [hρ']; simp [execOp, go_sem, e37, cv]) ⟨Below.refl _ _, rfl⟩
set_option maxHeartbeats 4000000 in
set_option maxRecDepth 20000 in
theorem vf7b_h6 :
    Reg.OpOK Try.prog (Reg.opsOf Try.f7 7) a0 w0 (vf7bR bv b8 b10 gs gr nn cc oc rc nl vv xx l lr ee vs AA oA rA) (fun _ _ _ _ => True) 6 := by
    refine Reg.op_ok2 (fun af => { dst := some 39, op := Op.binOp BinOp.eql 9 (Operand.tmp 35) (Operand.tmp 38) 9, type := 4, pos := "law.go:40", after := af, guard := none }) #[{ on := 2, ground := Ground.data }, { on := 5, ground := Ground.data }] (by kernel_rfl) [2, 5] (by kernel_rfl) fun af v W hb hd => ?_
    have d2 : v 2 = (Value.string (bstr (encV vv))) := hd 2 (by decide)
    have d5 : v 5 = (Value.string (bstr (encV vv))) := hd 5 (by decide)
    have e35 := (Reg.gfr_eval (ops := (Reg.opsOf Try.f7 7)) (a0 := a0) (v := v) (L := [2, 5]) 35 2 (by kernel_rfl) (by rw [hsz]; omega)).trans d2
    have e38 := (Reg.gfr_eval (ops := (Reg.opsOf Try.f7 7)) (a0 := a0) (v := v) (L := [2, 5]) 38 5 (by kernel_rfl) (by rw [hsz]; omega)).trans d5
    refine ⟨Reg.wanted_none rfl, ?_⟩
    generalize Reg.gfr (Reg.opsOf Try.f7 7) a0 v [2, 5] = G at e35 e38 ⊢
    generalize hρ : G.eval = ρ at e35 e38
    have hρ' : G.eval = ρ := hρ
    refine Reg.go_run (Value.bool true) W ?_ ?_
    · rw [hρ']; simp [execOp, go_sem, e35, e38]
    · exact ⟨Below.refl _ _, rfl⟩
set_option maxHeartbeats 4000000 in
set_option maxRecDepth 20000 in
theorem vf7b_h7 :
    Reg.OpOK Try.prog (Reg.opsOf Try.f7 7) a0 w0 (vf7bR bv b8 b10 gs gr nn cc oc rc nl vv xx l lr ee vs AA oA rA) (fun _ _ _ _ => True) 7 := by
    refine Reg.op_ok2 (fun af => { dst := some 40, op := Op.move (Operand.tmp 39), type := 4, pos := "law.go:40", after := af, guard := none }) #[{ on := 6, ground := Ground.data }, { on := 4, ground := Ground.chain }] (by kernel_rfl) [6, 4] (by kernel_rfl) fun af v W hb hd => ?_
    have d6 : v 6 = (Value.bool true) := hd 6 (by decide)
    have e39 := (Reg.gfr_eval (ops := (Reg.opsOf Try.f7 7)) (a0 := a0) (v := v) (L := [6, 4]) 39 6 (by kernel_rfl) (by rw [hsz]; omega)).trans d6
    refine ⟨Reg.wanted_none rfl, ?_⟩
    generalize Reg.gfr (Reg.opsOf Try.f7 7) a0 v [6, 4] = G at e39 ⊢
    generalize hρ : G.eval = ρ at e39
    have hρ' : G.eval = ρ := hρ
    refine Reg.go_run (Value.bool true) W ?_ ?_
    · rw [hρ']; simp [execOp, go_sem, e39]
    · exact ⟨Below.refl _ _, rfl⟩
set_option maxHeartbeats 4000000 in
set_option maxRecDepth 20000 in
theorem vf7b_h8 :
    Reg.OpOK Try.prog (Reg.opsOf Try.f7 7) a0 w0 (vf7bR bv b8 b10 gs gr nn cc oc rc nl vv xx l lr ee vs AA oA rA) (fun _ _ _ _ => True) 8 := by
    refine Reg.op_ok2 (fun af => { dst := some 41, op := Op.load 24 (Operand.tmp 8), type := 24, pos := "law.go:40", after := af, guard := some (7, true) }) #[{ on := 7, ground := Ground.guard }] (by kernel_rfl) [7] (by kernel_rfl) fun af v W hb hd => ?_
    have d7 : v 7 = (Value.bool true) := hd 7 (by decide)
    have e8 := (Reg.gfr_eval0 (ops := (Reg.opsOf Try.f7 7)) (a0 := a0) (v := v) (L := [7]) 8 (by kernel_rfl)).trans i8
    have e40 := (Reg.gfr_eval (ops := (Reg.opsOf Try.f7 7)) (a0 := a0) (v := v) (L := [7]) 40 7 (by kernel_rfl) (by rw [hsz]; omega)).trans d7
    refine ⟨Reg.wanted_of rfl (by kernel_rfl) e40, ?_⟩
    generalize Reg.gfr (Reg.opsOf Try.f7 7) a0 v [7] = G at e8 ⊢
    generalize hρ : G.eval = ρ at e8
    have hρ' : G.eval = ρ := hρ
    exact fun K hK => wp_load_row 24 (.tmp 8) rfl b8 (by rw [hρ']; exact e8) 24 (vC xx) (0, 0) _ (M_b8 W hb) Try.underlying24 rfl (vec_size hx) (hK _ _ ⟨Below.refl _ _, rfl⟩)
set_option maxHeartbeats 4000000 in
set_option maxRecDepth 20000 in
theorem vf7b_h9 :
    Reg.OpOK Try.prog (Reg.opsOf Try.f7 7) a0 w0 (vf7bR bv b8 b10 gs gr nn cc oc rc nl vv xx l lr ee vs AA oA rA) (fun _ _ _ _ => True) 9 := by
    refine Reg.op_ok2 (fun af => { dst := some 42, op := Op.load 24 (Operand.tmp 10), type := 24, pos := "law.go:40", after := af, guard := some (7, true) }) #[{ on := 7, ground := Ground.guard }] (by kernel_rfl) [7] (by kernel_rfl) fun af v W hb hd => ?_
    have d7 : v 7 = (Value.bool true) := hd 7 (by decide)
    have e10 := (Reg.gfr_eval0 (ops := (Reg.opsOf Try.f7 7)) (a0 := a0) (v := v) (L := [7]) 10 (by kernel_rfl)).trans i10
    have e40 := (Reg.gfr_eval (ops := (Reg.opsOf Try.f7 7)) (a0 := a0) (v := v) (L := [7]) 40 7 (by kernel_rfl) (by rw [hsz]; omega)).trans d7
    refine ⟨Reg.wanted_of rfl (by kernel_rfl) e40, ?_⟩
    generalize Reg.gfr (Reg.opsOf Try.f7 7) a0 v [7] = G at e10 ⊢
    generalize hρ : G.eval = ρ at e10
    have hρ' : G.eval = ρ := hρ
    exact fun K hK => wp_load_row 24 (.tmp 10) rfl b10 (by rw [hρ']; exact e10) 24 (vC xx) (0, 0) _ (M_b10 W hb) Try.underlying24 rfl (vec_size hx) (hK _ _ ⟨Below.refl _ _, rfl⟩)
set_option maxHeartbeats 4000000 in
set_option maxRecDepth 20000 in
theorem vf7b_h10 :
    Reg.OpOK Try.prog (Reg.opsOf Try.f7 7) a0 w0 (vf7bR bv b8 b10 gs gr nn cc oc rc nl vv xx l lr ee vs AA oA rA) (fun _ _ _ _ => True) 10 := by
    refine Reg.op_ok2 (fun af => { dst := some 43, op := Op.binOp BinOp.eql 24 (Operand.tmp 41) (Operand.tmp 42) 24, type := 4, pos := "law.go:40", after := af, guard := some (7, true) }) #[{ on := 8, ground := Ground.data }, { on := 9, ground := Ground.data }, { on := 7, ground := Ground.guard }] (by kernel_rfl) [8, 9, 7] (by kernel_rfl) fun af v W hb hd => ?_
    have d7 : v 7 = (Value.bool true) := hd 7 (by decide)
    have d8 : v 8 = (Value.agg (vC xx)) := hd 8 (by decide)
    have d9 : v 9 = (Value.agg (vC xx)) := hd 9 (by decide)
    have e41 := (Reg.gfr_eval (ops := (Reg.opsOf Try.f7 7)) (a0 := a0) (v := v) (L := [8, 9, 7]) 41 8 (by kernel_rfl) (by rw [hsz]; omega)).trans d8
    have e42 := (Reg.gfr_eval (ops := (Reg.opsOf Try.f7 7)) (a0 := a0) (v := v) (L := [8, 9, 7]) 42 9 (by kernel_rfl) (by rw [hsz]; omega)).trans d9
    have e40 := (Reg.gfr_eval (ops := (Reg.opsOf Try.f7 7)) (a0 := a0) (v := v) (L := [8, 9, 7]) 40 7 (by kernel_rfl) (by rw [hsz]; omega)).trans d7
    refine ⟨Reg.wanted_of rfl (by kernel_rfl) e40, ?_⟩
    generalize Reg.gfr (Reg.opsOf Try.f7 7) a0 v [8, 9, 7] = G at e41 e42 ⊢
    generalize hρ : G.eval = ρ at e41 e42
    have hρ' : G.eval = ρ := hρ
    refine Reg.go_run (Value.bool true) W ?_ ?_
    · rw [hρ']; simp [execOp, go_sem, e41, e42, run_eq_vec W xx xx hx hx]
    · exact ⟨Below.refl _ _, rfl⟩
set_option maxHeartbeats 4000000 in
set_option maxRecDepth 20000 in
theorem vf7b_h11 :
    Reg.OpOK Try.prog (Reg.opsOf Try.f7 7) a0 w0 (vf7bR bv b8 b10 gs gr nn cc oc rc nl vv xx l lr ee vs AA oA rA) (fun _ _ _ _ => True) 11 := by
    refine Reg.op_ok2 (fun af => { dst := some 44, op := Op.pick (Operand.tmp 40) (Operand.tmp 43) (Operand.const (Value.bool false)), type := 4, pos := "law.go:40", after := af, guard := none }) #[{ on := 7, ground := Ground.data }, { on := 10, ground := Ground.data }] (by kernel_rfl) [7, 10] (by kernel_rfl) fun af v W hb hd => ?_
    have d7 : v 7 = (Value.bool true) := hd 7 (by decide)
    have d10 : v 10 = (Value.bool true) := hd 10 (by decide)
    have e40 := (Reg.gfr_eval (ops := (Reg.opsOf Try.f7 7)) (a0 := a0) (v := v) (L := [7, 10]) 40 7 (by kernel_rfl) (by rw [hsz]; omega)).trans d7
    have e43 := (Reg.gfr_eval (ops := (Reg.opsOf Try.f7 7)) (a0 := a0) (v := v) (L := [7, 10]) 43 10 (by kernel_rfl) (by rw [hsz]; omega)).trans d10
    refine ⟨Reg.wanted_none rfl, ?_⟩
    have eC : ∀ x, (Reg.gfr (Reg.opsOf Try.f7 7) a0 v [7, 10]).eval (.const x) = x := fun _ => rfl
    generalize Reg.gfr (Reg.opsOf Try.f7 7) a0 v [7, 10] = G at e40 e43 eC ⊢
    generalize hρ : G.eval = ρ at e40 e43 eC
    have hρ' : G.eval = ρ := hρ
    refine Reg.go_run (Value.bool true) W ?_ ?_
    · rw [hρ']; simp [execOp, go_sem, e40, e43, eC]
    · exact ⟨Below.refl _ _, rfl⟩
set_option maxHeartbeats 4000000 in
set_option maxRecDepth 20000 in
theorem vf7b_h12 :
    Reg.OpOK Try.prog (Reg.opsOf Try.f7 7) a0 w0 (vf7bR bv b8 b10 gs gr nn cc oc rc nl vv xx l lr ee vs AA oA rA) (fun _ _ _ _ => True) 12 := by
    refine Reg.op_ok2 (fun af => { dst := some 45, op := Op.move (Operand.tmp 44), type := 4, pos := "law.go:40", after := af, guard := none }) #[{ on := 11, ground := Ground.data }, { on := 7, ground := Ground.chain }] (by kernel_rfl) [11, 7] (by kernel_rfl) fun af v W hb hd => ?_
    have d11 : v 11 = (Value.bool true) := hd 11 (by decide)
    have e44 := (Reg.gfr_eval (ops := (Reg.opsOf Try.f7 7)) (a0 := a0) (v := v) (L := [11, 7]) 44 11 (by kernel_rfl) (by rw [hsz]; omega)).trans d11
    refine ⟨Reg.wanted_none rfl, ?_⟩
    generalize Reg.gfr (Reg.opsOf Try.f7 7) a0 v [11, 7] = G at e44 ⊢
    generalize hρ : G.eval = ρ at e44
    have hρ' : G.eval = ρ := hρ
    refine Reg.go_run (Value.bool true) W ?_ ?_
    · rw [hρ']; simp [execOp, go_sem, e44]
    · exact ⟨Below.refl _ _, rfl⟩
set_option maxHeartbeats 4000000 in
set_option maxRecDepth 20000 in
theorem vf7b_h13 :
    Reg.OpOK Try.prog (Reg.opsOf Try.f7 7) a0 w0 (vf7bR bv b8 b10 gs gr nn cc oc rc nl vv xx l lr ee vs AA oA rA) (fun _ _ _ _ => True) 13 := by
    refine Reg.op_ok2 (fun af => { dst := some 46, op := Op.move (Operand.tmp 9), type := 36, pos := "law.go:40", after := af, guard := some (12, true) }) #[{ on := 12, ground := Ground.guard }] (by kernel_rfl) [12] (by kernel_rfl) fun af v W hb hd => ?_
    have d12 : v 12 = (Value.bool true) := hd 12 (by decide)
    have e9 := (Reg.gfr_eval0 (ops := (Reg.opsOf Try.f7 7)) (a0 := a0) (v := v) (L := [12]) 9 (by kernel_rfl)).trans i9
    have e45 := (Reg.gfr_eval (ops := (Reg.opsOf Try.f7 7)) (a0 := a0) (v := v) (L := [12]) 45 12 (by kernel_rfl) (by rw [hsz]; omega)).trans d12
    refine ⟨Reg.wanted_of rfl (by kernel_rfl) e45, ?_⟩
    generalize Reg.gfr (Reg.opsOf Try.f7 7) a0 v [12] = G at e9 ⊢
    generalize hρ : G.eval = ρ at e9
    have hρ' : G.eval = ρ := hρ
    refine Reg.go_run (Value.int IntKind.i64 ee) W ?_ ?_
    · rw [hρ']; simp [execOp, go_sem, e9]
    · exact ⟨Below.refl _ _, rfl⟩
set_option maxHeartbeats 4000000 in
set_option maxRecDepth 20000 in
theorem vf7b_h14 :
    Reg.OpOK Try.prog (Reg.opsOf Try.f7 7) a0 w0 (vf7bR bv b8 b10 gs gr nn cc oc rc nl vv xx l lr ee vs AA oA rA) (fun _ _ _ _ => True) 14 := by
    refine Reg.op_ok2 (fun af => { dst := some 47, op := Op.move (Operand.tmp 11), type := 3, pos := "law.go:40", after := af, guard := some (12, true) }) #[{ on := 12, ground := Ground.guard }] (by kernel_rfl) [12] (by kernel_rfl) fun af v W hb hd => ?_
    have d12 : v 12 = (Value.bool true) := hd 12 (by decide)
    have e11 := (Reg.gfr_eval0 (ops := (Reg.opsOf Try.f7 7)) (a0 := a0) (v := v) (L := [12]) 11 (by kernel_rfl)).trans i11
    have e45 := (Reg.gfr_eval (ops := (Reg.opsOf Try.f7 7)) (a0 := a0) (v := v) (L := [12]) 45 12 (by kernel_rfl) (by rw [hsz]; omega)).trans d12
    refine ⟨Reg.wanted_of rfl (by kernel_rfl) e45, ?_⟩
    generalize Reg.gfr (Reg.opsOf Try.f7 7) a0 v [12] = G at e11 ⊢
    generalize hρ : G.eval = ρ at e11
    have hρ' : G.eval = ρ := hρ
    refine Reg.go_run (Value.int IntKind.i64 ee) W ?_ ?_
    · rw [hρ']; simp [execOp, go_sem, e11]
    · exact ⟨Below.refl _ _, rfl⟩
set_option maxHeartbeats 4000000 in
set_option maxRecDepth 20000 in
theorem vf7b_h15 :
    Reg.OpOK Try.prog (Reg.opsOf Try.f7 7) a0 w0 (vf7bR bv b8 b10 gs gr nn cc oc rc nl vv xx l lr ee vs AA oA rA) (fun _ _ _ _ => True) 15 := by
    refine Reg.op_ok2 (fun af => { dst := some 48, op := Op.binOp BinOp.eql 3 (Operand.tmp 46) (Operand.tmp 47) 3, type := 4, pos := "law.go:40", after := af, guard := some (12, true) }) #[{ on := 13, ground := Ground.data }, { on := 14, ground := Ground.data }, { on := 12, ground := Ground.guard }] (by kernel_rfl) [13, 14, 12] (by kernel_rfl) fun af v W hb hd => ?_
    have d12 : v 12 = (Value.bool true) := hd 12 (by decide)
    have d13 : v 13 = (Value.int IntKind.i64 ee) := hd 13 (by decide)
    have d14 : v 14 = (Value.int IntKind.i64 ee) := hd 14 (by decide)
    have e46 := (Reg.gfr_eval (ops := (Reg.opsOf Try.f7 7)) (a0 := a0) (v := v) (L := [13, 14, 12]) 46 13 (by kernel_rfl) (by rw [hsz]; omega)).trans d13
    have e47 := (Reg.gfr_eval (ops := (Reg.opsOf Try.f7 7)) (a0 := a0) (v := v) (L := [13, 14, 12]) 47 14 (by kernel_rfl) (by rw [hsz]; omega)).trans d14
    have e45 := (Reg.gfr_eval (ops := (Reg.opsOf Try.f7 7)) (a0 := a0) (v := v) (L := [13, 14, 12]) 45 12 (by kernel_rfl) (by rw [hsz]; omega)).trans d12
    refine ⟨Reg.wanted_of rfl (by kernel_rfl) e45, ?_⟩
    generalize Reg.gfr (Reg.opsOf Try.f7 7) a0 v [13, 14, 12] = G at e46 e47 ⊢
    generalize hρ : G.eval = ρ at e46 e47
    have hρ' : G.eval = ρ := hρ
    refine Reg.go_run (Value.bool true) W ?_ ?_
    · rw [hρ']; simp [execOp, go_sem, e46, e47]
    · exact ⟨Below.refl _ _, rfl⟩
set_option maxHeartbeats 4000000 in
set_option maxRecDepth 20000 in
theorem vf7b_h16 :
    Reg.OpOK Try.prog (Reg.opsOf Try.f7 7) a0 w0 (vf7bR bv b8 b10 gs gr nn cc oc rc nl vv xx l lr ee vs AA oA rA) (fun _ _ _ _ => True) 16 := by
    refine Reg.op_ok2 (fun af => { dst := some 49, op := Op.pick (Operand.tmp 45) (Operand.tmp 48) (Operand.const (Value.bool false)), type := 4, pos := "law.go:40", after := af, guard := none }) #[{ on := 12, ground := Ground.data }, { on := 15, ground := Ground.data }] (by kernel_rfl) [12, 15] (by kernel_rfl) fun af v W hb hd => ?_
    have d12 : v 12 = (Value.bool true) := hd 12 (by decide)
    have d15 : v 15 = (Value.bool true) := hd 15 (by decide)
    have e45 := (Reg.gfr_eval (ops := (Reg.opsOf Try.f7 7)) (a0 := a0) (v := v) (L := [12, 15]) 45 12 (by kernel_rfl) (by rw [hsz]; omega)).trans d12
    have e48 := (Reg.gfr_eval (ops := (Reg.opsOf Try.f7 7)) (a0 := a0) (v := v) (L := [12, 15]) 48 15 (by kernel_rfl) (by rw [hsz]; omega)).trans d15
    refine ⟨Reg.wanted_none rfl, ?_⟩
    have eC : ∀ x, (Reg.gfr (Reg.opsOf Try.f7 7) a0 v [12, 15]).eval (.const x) = x := fun _ => rfl
    generalize Reg.gfr (Reg.opsOf Try.f7 7) a0 v [12, 15] = G at e45 e48 eC ⊢
    generalize hρ : G.eval = ρ at e45 e48 eC
    have hρ' : G.eval = ρ := hρ
    refine Reg.go_run (Value.bool true) W ?_ ?_
    · rw [hρ']; simp [execOp, go_sem, e45, e48, eC]
    · exact ⟨Below.refl _ _, rfl⟩
set_option maxHeartbeats 4000000 in
set_option maxRecDepth 20000 in
theorem vf7b_h17 :
    Reg.OpOK Try.prog (Reg.opsOf Try.f7 7) a0 w0 (vf7bR bv b8 b10 gs gr nn cc oc rc nl vv xx l lr ee vs AA oA rA) (fun _ _ _ _ => True) 17 := by
    refine Reg.op_ok2 (fun af => { dst := some 50, op := Op.move (Operand.tmp 49), type := 4, pos := "law.go:40", after := af, guard := none }) #[{ on := 16, ground := Ground.data }, { on := 12, ground := Ground.chain }] (by kernel_rfl) [16, 12] (by kernel_rfl) fun af v W hb hd => ?_
    have d16 : v 16 = (Value.bool true) := hd 16 (by decide)
    have e49 := (Reg.gfr_eval (ops := (Reg.opsOf Try.f7 7)) (a0 := a0) (v := v) (L := [16, 12]) 49 16 (by kernel_rfl) (by rw [hsz]; omega)).trans d16
    refine ⟨Reg.wanted_none rfl, ?_⟩
    generalize Reg.gfr (Reg.opsOf Try.f7 7) a0 v [16, 12] = G at e49 ⊢
    generalize hρ : G.eval = ρ at e49
    have hρ' : G.eval = ρ := hρ
    refine Reg.go_run (Value.bool true) W ?_ ?_
    · rw [hρ']; simp [execOp, go_sem, e49]
    · exact ⟨Below.refl _ _, rfl⟩
set_option maxHeartbeats 4000000 in
set_option maxRecDepth 20000 in
theorem vf7b_h18 :
    Reg.OpOK Try.prog (Reg.opsOf Try.f7 7) a0 w0 (vf7bR bv b8 b10 gs gr nn cc oc rc nl vv xx l lr ee vs AA oA rA) (fun _ _ _ _ => True) 18 := by
    refine Reg.op_ok2 (fun af => { dst := some 51, op := Op.move (Operand.tmp 11), type := 3, pos := "law.go:40", after := af, guard := some (17, true) }) #[{ on := 17, ground := Ground.guard }] (by kernel_rfl) [17] (by kernel_rfl) fun af v W hb hd => ?_
    have d17 : v 17 = (Value.bool true) := hd 17 (by decide)
    have e11 := (Reg.gfr_eval0 (ops := (Reg.opsOf Try.f7 7)) (a0 := a0) (v := v) (L := [17]) 11 (by kernel_rfl)).trans i11
    have e50 := (Reg.gfr_eval (ops := (Reg.opsOf Try.f7 7)) (a0 := a0) (v := v) (L := [17]) 50 17 (by kernel_rfl) (by rw [hsz]; omega)).trans d17
    refine ⟨Reg.wanted_of rfl (by kernel_rfl) e50, ?_⟩
    generalize Reg.gfr (Reg.opsOf Try.f7 7) a0 v [17] = G at e11 ⊢
    generalize hρ : G.eval = ρ at e11
    have hρ' : G.eval = ρ := hρ
    refine Reg.go_run (Value.int IntKind.i64 ee) W ?_ ?_
    · rw [hρ']; simp [execOp, go_sem, e11]
    · exact ⟨Below.refl _ _, rfl⟩
set_option maxHeartbeats 4000000 in
set_option maxRecDepth 20000 in
theorem vf7b_h19 :
    Reg.OpOK Try.prog (Reg.opsOf Try.f7 7) a0 w0 (vf7bR bv b8 b10 gs gr nn cc oc rc nl vv xx l lr ee vs AA oA rA) (fun _ _ _ _ => True) 19 := by
    refine Reg.op_ok2 (fun af => { dst := some 52, op := Op.binOp BinOp.neq 3 (Operand.tmp 51) (Operand.const (Value.int IntKind.i64 0)) 3, type := 4, pos := "law.go:40", after := af, guard := some (17, true) }) #[{ on := 18, ground := Ground.data }, { on := 17, ground := Ground.guard }] (by kernel_rfl) [18, 17] (by kernel_rfl) fun af v W hb hd => ?_
    have d17 : v 17 = (Value.bool true) := hd 17 (by decide)
    have d18 : v 18 = (Value.int IntKind.i64 ee) := hd 18 (by decide)
    have e51 := (Reg.gfr_eval (ops := (Reg.opsOf Try.f7 7)) (a0 := a0) (v := v) (L := [18, 17]) 51 18 (by kernel_rfl) (by rw [hsz]; omega)).trans d18
    have e50 := (Reg.gfr_eval (ops := (Reg.opsOf Try.f7 7)) (a0 := a0) (v := v) (L := [18, 17]) 50 17 (by kernel_rfl) (by rw [hsz]; omega)).trans d17
    refine ⟨Reg.wanted_of rfl (by kernel_rfl) e50, ?_⟩
    have eC : ∀ x, (Reg.gfr (Reg.opsOf Try.f7 7) a0 v [18, 17]).eval (.const x) = x := fun _ => rfl
    generalize Reg.gfr (Reg.opsOf Try.f7 7) a0 v [18, 17] = G at e51 eC ⊢
    generalize hρ : G.eval = ρ at e51 eC
    have hρ' : G.eval = ρ := hρ
    refine Reg.go_run (Value.bool true) W ?_ ?_
    · rw [hρ']; simp [execOp, go_sem, e51, eC, hee]
    · exact ⟨Below.refl _ _, rfl⟩
set_option maxHeartbeats 4000000 in
set_option maxRecDepth 20000 in
theorem vf7b_h20 :
    Reg.OpOK Try.prog (Reg.opsOf Try.f7 7) a0 w0 (vf7bR bv b8 b10 gs gr nn cc oc rc nl vv xx l lr ee vs AA oA rA) (fun _ _ _ _ => True) 20 := by
    refine Reg.op_ok2 (fun af => { dst := some 53, op := Op.move (Operand.tmp 52), type := 4, pos := "law.go:40", after := af, guard := some (17, true) }) #[{ on := 19, ground := Ground.data }, { on := 17, ground := Ground.chain }, { on := 17, ground := Ground.guard }] (by kernel_rfl) [19, 17, 17] (by kernel_rfl) fun af v W hb hd => ?_
    have d17 : v 17 = (Value.bool true) := hd 17 (by decide)
    have d19 : v 19 = (Value.bool true) := hd 19 (by decide)
    have e52 := (Reg.gfr_eval (ops := (Reg.opsOf Try.f7 7)) (a0 := a0) (v := v) (L := [19, 17, 17]) 52 19 (by kernel_rfl) (by rw [hsz]; omega)).trans d19
    have e50 := (Reg.gfr_eval (ops := (Reg.opsOf Try.f7 7)) (a0 := a0) (v := v) (L := [19, 17, 17]) 50 17 (by kernel_rfl) (by rw [hsz]; omega)).trans d17
    refine ⟨Reg.wanted_of rfl (by kernel_rfl) e50, ?_⟩
    generalize Reg.gfr (Reg.opsOf Try.f7 7) a0 v [19, 17, 17] = G at e52 ⊢
    generalize hρ : G.eval = ρ at e52
    have hρ' : G.eval = ρ := hρ
    refine Reg.go_run (Value.bool true) W ?_ ?_
    · rw [hρ']; simp [execOp, go_sem, e52]
    · exact ⟨Below.refl _ _, rfl⟩
set_option maxHeartbeats 4000000 in
set_option maxRecDepth 20000 in
theorem vf7b_h21 :
    Reg.OpOK Try.prog (Reg.opsOf Try.f7 7) a0 w0 (vf7bR bv b8 b10 gs gr nn cc oc rc nl vv xx l lr ee vs AA oA rA) (fun _ _ _ _ => True) 21 := by
    refine Reg.op_no2 (fun af => { dst := some 54, op := Op.move (Operand.tmp 6), type := 51, pos := "law.go:40", after := af, guard := some (20, false) }) #[{ on := 20, ground := Ground.guard }] (by kernel_rfl) [20] (by kernel_rfl) fun af v W hb hd => ?_
    have d20 : v 20 = (Value.bool true) := hd 20 (by decide)
    have e53 := (Reg.gfr_eval (ops := (Reg.opsOf Try.f7 7)) (a0 := a0) (v := v) (L := [20]) 53 20 (by kernel_rfl) (by rw [hsz]; omega)).trans d20
    exact ⟨Reg.wanted_not rfl (by kernel_rfl) e53, rfl, fun _ _ _ _ => ⟨trivial, trivial⟩⟩
set_option maxHeartbeats 4000000 in
set_option maxRecDepth 20000 in
theorem vf7b_h22 :
    Reg.OpOK Try.prog (Reg.opsOf Try.f7 7) a0 w0 (vf7bR bv b8 b10 gs gr nn cc oc rc nl vv xx l lr ee vs AA oA rA) (fun _ _ _ _ => True) 22 := by
    refine Reg.op_no2 (fun af => { dst := some 55, op := Op.call { callee := Callee.value (Operand.func 33), args := #[Operand.tmp 54], argTypes := #[51] }, type := 3, pos := "law.go:40", after := af, guard := some (20, false) }) #[{ on := 21, ground := Ground.data }, { on := 20, ground := Ground.chain }, { on := 20, ground := Ground.guard }] (by kernel_rfl) [21, 20, 20] (by kernel_rfl) fun af v W hb hd => ?_
    have d20 : v 20 = (Value.bool true) := hd 20 (by decide)
    have e53 := (Reg.gfr_eval (ops := (Reg.opsOf Try.f7 7)) (a0 := a0) (v := v) (L := [21, 20, 20]) 53 20 (by kernel_rfl) (by rw [hsz]; omega)).trans d20
    exact ⟨Reg.wanted_not rfl (by kernel_rfl) e53, rfl, fun _ _ _ _ => ⟨trivial, trivial⟩⟩
set_option maxHeartbeats 4000000 in
set_option maxRecDepth 20000 in
theorem vf7b_h23 :
    Reg.OpOK Try.prog (Reg.opsOf Try.f7 7) a0 w0 (vf7bR bv b8 b10 gs gr nn cc oc rc nl vv xx l lr ee vs AA oA rA) (fun _ _ _ _ => True) 23 := by
    refine Reg.op_no2 (fun af => { dst := some 56, op := Op.move (Operand.tmp 7), type := 53, pos := "law.go:40", after := af, guard := some (20, false) }) #[{ on := 20, ground := Ground.guard }] (by kernel_rfl) [20] (by kernel_rfl) fun af v W hb hd => ?_
    have d20 : v 20 = (Value.bool true) := hd 20 (by decide)
    have e53 := (Reg.gfr_eval (ops := (Reg.opsOf Try.f7 7)) (a0 := a0) (v := v) (L := [20]) 53 20 (by kernel_rfl) (by rw [hsz]; omega)).trans d20
    exact ⟨Reg.wanted_not rfl (by kernel_rfl) e53, rfl, fun _ _ _ _ => ⟨trivial, trivial⟩⟩
set_option maxHeartbeats 4000000 in
set_option maxRecDepth 20000 in
theorem vf7b_h24 :
    Reg.OpOK Try.prog (Reg.opsOf Try.f7 7) a0 w0 (vf7bR bv b8 b10 gs gr nn cc oc rc nl vv xx l lr ee vs AA oA rA) (fun _ _ _ _ => True) 24 := by
    refine Reg.op_no2 (fun af => { dst := some 57, op := Op.nilCheck (Operand.tmp 56), type := 0, pos := "law.go:40", after := af, guard := some (20, false) }) #[{ on := 23, ground := Ground.data }, { on := 20, ground := Ground.guard }] (by kernel_rfl) [23, 20] (by kernel_rfl) fun af v W hb hd => ?_
    have d20 : v 20 = (Value.bool true) := hd 20 (by decide)
    have e53 := (Reg.gfr_eval (ops := (Reg.opsOf Try.f7 7)) (a0 := a0) (v := v) (L := [23, 20]) 53 20 (by kernel_rfl) (by rw [hsz]; omega)).trans d20
    exact ⟨Reg.wanted_not rfl (by kernel_rfl) e53, rfl, fun _ _ _ _ => ⟨trivial, trivial⟩⟩
set_option maxHeartbeats 4000000 in
set_option maxRecDepth 20000 in
theorem vf7b_h25 :
    Reg.OpOK Try.prog (Reg.opsOf Try.f7 7) a0 w0 (vf7bR bv b8 b10 gs gr nn cc oc rc nl vv xx l lr ee vs AA oA rA) (fun _ _ _ _ => True) 25 := by
    refine Reg.op_no2 (fun af => { dst := some 58, op := Op.fieldAddr 55 (Operand.tmp 57) 0, type := 0, pos := "law.go:40", after := af, guard := some (20, false) }) #[{ on := 24, ground := Ground.data }, { on := 20, ground := Ground.guard }] (by kernel_rfl) [24, 20] (by kernel_rfl) fun af v W hb hd => ?_
    have d20 : v 20 = (Value.bool true) := hd 20 (by decide)
    have e53 := (Reg.gfr_eval (ops := (Reg.opsOf Try.f7 7)) (a0 := a0) (v := v) (L := [24, 20]) 53 20 (by kernel_rfl) (by rw [hsz]; omega)).trans d20
    exact ⟨Reg.wanted_not rfl (by kernel_rfl) e53, rfl, fun _ _ _ _ => ⟨trivial, trivial⟩⟩
set_option maxHeartbeats 4000000 in
set_option maxRecDepth 20000 in
theorem vf7b_h26 :
    Reg.OpOK Try.prog (Reg.opsOf Try.f7 7) a0 w0 (vf7bR bv b8 b10 gs gr nn cc oc rc nl vv xx l lr ee vs AA oA rA) (fun _ _ _ _ => True) 26 := by
    refine Reg.op_no2 (fun af => { dst := some 59, op := Op.load 33 (Operand.tmp 58), type := 33, pos := "law.go:40", after := af, guard := some (20, false) }) #[{ on := 25, ground := Ground.data }, { on := 20, ground := Ground.guard }] (by kernel_rfl) [25, 20] (by kernel_rfl) fun af v W hb hd => ?_
    have d20 : v 20 = (Value.bool true) := hd 20 (by decide)
    have e53 := (Reg.gfr_eval (ops := (Reg.opsOf Try.f7 7)) (a0 := a0) (v := v) (L := [25, 20]) 53 20 (by kernel_rfl) (by rw [hsz]; omega)).trans d20
    exact ⟨Reg.wanted_not rfl (by kernel_rfl) e53, rfl, fun _ _ _ _ => ⟨trivial, trivial⟩⟩
set_option maxHeartbeats 4000000 in
set_option maxRecDepth 20000 in
theorem vf7b_h27 :
    Reg.OpOK Try.prog (Reg.opsOf Try.f7 7) a0 w0 (vf7bR bv b8 b10 gs gr nn cc oc rc nl vv xx l lr ee vs AA oA rA) (fun _ _ _ _ => True) 27 := by
    refine Reg.op_no2 (fun af => { dst := some 60, op := Op.call { callee := Callee.builtin Builtin.len, args := #[Operand.tmp 59], argTypes := #[33] }, type := 3, pos := "law.go:40", after := af, guard := some (20, false) }) #[{ on := 26, ground := Ground.data }, { on := 20, ground := Ground.guard }] (by kernel_rfl) [26, 20] (by kernel_rfl) fun af v W hb hd => ?_
    have d20 : v 20 = (Value.bool true) := hd 20 (by decide)
    have e53 := (Reg.gfr_eval (ops := (Reg.opsOf Try.f7 7)) (a0 := a0) (v := v) (L := [26, 20]) 53 20 (by kernel_rfl) (by rw [hsz]; omega)).trans d20
    exact ⟨Reg.wanted_not rfl (by kernel_rfl) e53, rfl, fun _ _ _ _ => ⟨trivial, trivial⟩⟩
set_option maxHeartbeats 4000000 in
set_option maxRecDepth 20000 in
theorem vf7b_h28 :
    Reg.OpOK Try.prog (Reg.opsOf Try.f7 7) a0 w0 (vf7bR bv b8 b10 gs gr nn cc oc rc nl vv xx l lr ee vs AA oA rA) (fun _ _ _ _ => True) 28 := by
    refine Reg.op_no2 (fun af => { dst := some 61, op := Op.binOp BinOp.eql 3 (Operand.tmp 55) (Operand.tmp 60) 3, type := 4, pos := "law.go:40", after := af, guard := some (20, false) }) #[{ on := 22, ground := Ground.data }, { on := 27, ground := Ground.data }, { on := 20, ground := Ground.guard }] (by kernel_rfl) [22, 27, 20] (by kernel_rfl) fun af v W hb hd => ?_
    have d20 : v 20 = (Value.bool true) := hd 20 (by decide)
    have e53 := (Reg.gfr_eval (ops := (Reg.opsOf Try.f7 7)) (a0 := a0) (v := v) (L := [22, 27, 20]) 53 20 (by kernel_rfl) (by rw [hsz]; omega)).trans d20
    exact ⟨Reg.wanted_not rfl (by kernel_rfl) e53, rfl, fun _ _ _ _ => ⟨trivial, trivial⟩⟩
set_option maxHeartbeats 4000000 in
set_option maxRecDepth 20000 in
theorem vf7b_h29 :
    Reg.OpOK Try.prog (Reg.opsOf Try.f7 7) a0 w0 (vf7bR bv b8 b10 gs gr nn cc oc rc nl vv xx l lr ee vs AA oA rA) (fun _ _ _ _ => True) 29 := by
    refine Reg.op_ok2 (fun af => { dst := some 62, op := Op.pick (Operand.tmp 53) (Operand.const (Value.bool true)) (Operand.tmp 61), type := 4, pos := "law.go:40", after := af, guard := some (17, true) }) #[{ on := 20, ground := Ground.data }, { on := 28, ground := Ground.data }, { on := 17, ground := Ground.guard }] (by kernel_rfl) [20, 28, 17] (by kernel_rfl) fun af v W hb hd => ?_
    have d17 : v 17 = (Value.bool true) := hd 17 (by decide)
    have d20 : v 20 = (Value.bool true) := hd 20 (by decide)
    have d28 : v 28 = undef := hd 28 (by decide)
    have e53 := (Reg.gfr_eval (ops := (Reg.opsOf Try.f7 7)) (a0 := a0) (v := v) (L := [20, 28, 17]) 53 20 (by kernel_rfl) (by rw [hsz]; omega)).trans d20
    have e61 := (Reg.gfr_eval (ops := (Reg.opsOf Try.f7 7)) (a0 := a0) (v := v) (L := [20, 28, 17]) 61 28 (by kernel_rfl) (by rw [hsz]; omega)).trans d28
    have e50 := (Reg.gfr_eval (ops := (Reg.opsOf Try.f7 7)) (a0 := a0) (v := v) (L := [20, 28, 17]) 50 17 (by kernel_rfl) (by rw [hsz]; omega)).trans d17
    refine ⟨Reg.wanted_of rfl (by kernel_rfl) e50, ?_⟩
    have eC : ∀ x, (Reg.gfr (Reg.opsOf Try.f7 7) a0 v [20, 28, 17]).eval (.const x) = x := fun _ => rfl
    generalize Reg.gfr (Reg.opsOf Try.f7 7) a0 v [20, 28, 17] = G at e53 e61 eC ⊢
    generalize hρ : G.eval = ρ at e53 e61 eC
    have hρ' : G.eval = ρ := hρ
    refine Reg.go_run (Value.bool true) W ?_ ?_
    · rw [hρ']; simp [execOp, go_sem, e53, e61, eC]
    · exact ⟨Below.refl _ _, rfl⟩
set_option maxHeartbeats 4000000 in
set_option maxRecDepth 20000 in
theorem vf7b_h30 :
    Reg.OpOK Try.prog (Reg.opsOf Try.f7 7) a0 w0 (vf7bR bv b8 b10 gs gr nn cc oc rc nl vv xx l lr ee vs AA oA rA) (fun _ _ _ _ => True) 30 := by
    refine Reg.op_ok2 (fun af => { dst := some 63, op := Op.pick (Operand.tmp 50) (Operand.tmp 62) (Operand.const (Value.bool false)), type := 4, pos := "law.go:40", after := af, guard := none }) #[{ on := 17, ground := Ground.data }, { on := 29, ground := Ground.data }] (by kernel_rfl) [17, 29] (by kernel_rfl) fun af v W hb hd => ?_
    have d17 : v 17 = (Value.bool true) := hd 17 (by decide)
    have d29 : v 29 = (Value.bool true) := hd 29 (by decide)
    have e50 := (Reg.gfr_eval (ops := (Reg.opsOf Try.f7 7)) (a0 := a0) (v := v) (L := [17, 29]) 50 17 (by kernel_rfl) (by rw [hsz]; omega)).trans d17
    have e62 := (Reg.gfr_eval (ops := (Reg.opsOf Try.f7 7)) (a0 := a0) (v := v) (L := [17, 29]) 62 29 (by kernel_rfl) (by rw [hsz]; omega)).trans d29
    refine ⟨Reg.wanted_none rfl, ?_⟩
    have eC : ∀ x, (Reg.gfr (Reg.opsOf Try.f7 7) a0 v [17, 29]).eval (.const x) = x := fun _ => rfl
    generalize Reg.gfr (Reg.opsOf Try.f7 7) a0 v [17, 29] = G at e50 e62 eC ⊢
    generalize hρ : G.eval = ρ at e50 e62 eC
    have hρ' : G.eval = ρ := hρ
    refine Reg.go_run (Value.bool true) W ?_ ?_
    · rw [hρ']; simp [execOp, go_sem, e50, e62, eC]
    · exact ⟨Below.refl _ _, rfl⟩
set_option maxHeartbeats 4000000 in
set_option maxRecDepth 20000 in
theorem vf7b_h31 :
    Reg.OpOK Try.prog (Reg.opsOf Try.f7 7) a0 w0 (vf7bR bv b8 b10 gs gr nn cc oc rc nl vv xx l lr ee vs AA oA rA) (fun _ _ _ _ => True) 31 := by
    refine Reg.op_ok2 (fun af => { dst := some 64, op := Op.move (Operand.tmp 63), type := 4, pos := "law.go:40", after := af, guard := none }) #[{ on := 30, ground := Ground.data }, { on := 22, ground := Ground.chain }] (by kernel_rfl) [30, 22] (by kernel_rfl) fun af v W hb hd => ?_
    have d30 : v 30 = (Value.bool true) := hd 30 (by decide)
    have e63 := (Reg.gfr_eval (ops := (Reg.opsOf Try.f7 7)) (a0 := a0) (v := v) (L := [30, 22]) 63 30 (by kernel_rfl) (by rw [hsz]; omega)).trans d30
    refine ⟨Reg.wanted_none rfl, ?_⟩
    generalize Reg.gfr (Reg.opsOf Try.f7 7) a0 v [30, 22] = G at e63 ⊢
    generalize hρ : G.eval = ρ at e63
    have hρ' : G.eval = ρ := hρ
    refine Reg.go_run (Value.bool true) W ?_ ?_
    · rw [hρ']; simp [execOp, go_sem, e63]
    · exact ⟨Below.refl _ _, rfl⟩
set_option maxHeartbeats 4000000 in
set_option maxRecDepth 20000 in
theorem vf7b_h32 :
    Reg.OpOK Try.prog (Reg.opsOf Try.f7 7) a0 w0 (vf7bR bv b8 b10 gs gr nn cc oc rc nl vv xx l lr ee vs AA oA rA) (fun _ _ _ _ => True) 32 := by
    refine Reg.op_ok2 (fun af => { dst := some 65, op := Op.move (Operand.tmp 5), type := 33, pos := "law.go:40", after := af, guard := some (31, true) }) #[{ on := 31, ground := Ground.guard }] (by kernel_rfl) [31] (by kernel_rfl) fun af v W hb hd => ?_
    have d31 : v 31 = (Value.bool true) := hd 31 (by decide)
    have e5 := (Reg.gfr_eval0 (ops := (Reg.opsOf Try.f7 7)) (a0 := a0) (v := v) (L := [31]) 5 (by kernel_rfl)).trans i5
    have e64 := (Reg.gfr_eval (ops := (Reg.opsOf Try.f7 7)) (a0 := a0) (v := v) (L := [31]) 64 31 (by kernel_rfl) (by rw [hsz]; omega)).trans d31
    refine ⟨Reg.wanted_of rfl (by kernel_rfl) e64, ?_⟩
    generalize Reg.gfr (Reg.opsOf Try.f7 7) a0 v [31] = G at e5 ⊢
    generalize hρ : G.eval = ρ at e5
    have hρ' : G.eval = ρ := hρ
    refine Reg.go_run (Value.slice oA nn oc) W ?_ ?_
    · rw [hρ']; simp [execOp, go_sem, e5]
    · exact ⟨Below.refl _ _, rfl⟩
set_option maxHeartbeats 4000000 in
set_option maxRecDepth 20000 in
theorem vf7b_h33 :
    Reg.OpOK Try.prog (Reg.opsOf Try.f7 7) a0 w0 (vf7bR bv b8 b10 gs gr nn cc oc rc nl vv xx l lr ee vs AA oA rA) (fun _ _ _ _ => True) 33 := by
    refine Reg.op_ok2 (fun af => { dst := some 66, op := Op.convert 33 9 (Operand.tmp 65), type := 9, pos := "law.go:40", after := af, guard := some (31, true) }) #[{ on := 32, ground := Ground.data }, { on := 31, ground := Ground.guard }] (by kernel_rfl) [32, 31] (by kernel_rfl) fun af v W hb hd => ?_
    have d31 : v 31 = (Value.bool true) := hd 31 (by decide)
    have d32 : v 32 = (Value.slice oA nn oc) := hd 32 (by decide)
    have e65 := (Reg.gfr_eval (ops := (Reg.opsOf Try.f7 7)) (a0 := a0) (v := v) (L := [32, 31]) 65 32 (by kernel_rfl) (by rw [hsz]; omega)).trans d32
    have e64 := (Reg.gfr_eval (ops := (Reg.opsOf Try.f7 7)) (a0 := a0) (v := v) (L := [32, 31]) 64 31 (by kernel_rfl) (by rw [hsz]; omega)).trans d31
    refine ⟨Reg.wanted_of rfl (by kernel_rfl) e64, ?_⟩
    generalize Reg.gfr (Reg.opsOf Try.f7 7) a0 v [32, 31] = G at e65 ⊢
    generalize hρ : G.eval = ρ at e65
    have hρ' : G.eval = ρ := hρ
    refine Reg.go_run (Value.string (bstr l)) W ?_ ?_
    · rw [hρ']; simp [execOp, go_sem, e65, cO W hb]
    · exact ⟨Below.refl _ _, rfl⟩
set_option maxHeartbeats 4000000 in
set_option maxRecDepth 20000 in
theorem vf7b_h34 :
    Reg.OpOK Try.prog (Reg.opsOf Try.f7 7) a0 w0 (vf7bR bv b8 b10 gs gr nn cc oc rc nl vv xx l lr ee vs AA oA rA) (fun _ _ _ _ => True) 34 := by
    refine Reg.op_ok2 (fun af => { dst := some 67, op := Op.move (Operand.tmp 1), type := 33, pos := "law.go:40", after := af, guard := some (31, true) }) #[{ on := 31, ground := Ground.guard }] (by kernel_rfl) [31] (by kernel_rfl) fun af v W hb hd => ?_
    have d31 : v 31 = (Value.bool true) := hd 31 (by decide)
    have e1 := (Reg.gfr_eval0 (ops := (Reg.opsOf Try.f7 7)) (a0 := a0) (v := v) (L := [31]) 1 (by kernel_rfl)).trans i1
    have e64 := (Reg.gfr_eval (ops := (Reg.opsOf Try.f7 7)) (a0 := a0) (v := v) (L := [31]) 64 31 (by kernel_rfl) (by rw [hsz]; omega)).trans d31
    refine ⟨Reg.wanted_of rfl (by kernel_rfl) e64, ?_⟩
    generalize Reg.gfr (Reg.opsOf Try.f7 7) a0 v [31] = G at e1 ⊢
    generalize hρ : G.eval = ρ at e1
    have hρ' : G.eval = ρ := hρ
    refine Reg.go_run (Value.slice AA nn cc) W ?_ ?_
    · rw [hρ']; simp [execOp, go_sem, e1]
    · exact ⟨Below.refl _ _, rfl⟩
set_option maxHeartbeats 4000000 in
set_option maxRecDepth 20000 in
theorem vf7b_h35 :
    Reg.OpOK Try.prog (Reg.opsOf Try.f7 7) a0 w0 (vf7bR bv b8 b10 gs gr nn cc oc rc nl vv xx l lr ee vs AA oA rA) (fun _ _ _ _ => True) 35 := by
    refine Reg.op_ok2 (fun af => { dst := some 68, op := Op.convert 33 9 (Operand.tmp 67), type := 9, pos := "law.go:40", after := af, guard := some (31, true) }) #[{ on := 34, ground := Ground.data }, { on := 31, ground := Ground.guard }] (by kernel_rfl) [34, 31] (by kernel_rfl) fun af v W hb hd => ?_
    have d31 : v 31 = (Value.bool true) := hd 31 (by decide)
    have d34 : v 34 = (Value.slice AA nn cc) := hd 34 (by decide)
    have e67 := (Reg.gfr_eval (ops := (Reg.opsOf Try.f7 7)) (a0 := a0) (v := v) (L := [34, 31]) 67 34 (by kernel_rfl) (by rw [hsz]; omega)).trans d34
    have e64 := (Reg.gfr_eval (ops := (Reg.opsOf Try.f7 7)) (a0 := a0) (v := v) (L := [34, 31]) 64 31 (by kernel_rfl) (by rw [hsz]; omega)).trans d31
    refine ⟨Reg.wanted_of rfl (by kernel_rfl) e64, ?_⟩
    generalize Reg.gfr (Reg.opsOf Try.f7 7) a0 v [34, 31] = G at e67 ⊢
    generalize hρ : G.eval = ρ at e67
    have hρ' : G.eval = ρ := hρ
    refine Reg.go_run (Value.string (bstr l)) W ?_ ?_
    · rw [hρ']; simp [execOp, go_sem, e67, cA W hb]
    · exact ⟨Below.refl _ _, rfl⟩
set_option maxHeartbeats 4000000 in
set_option maxRecDepth 20000 in
theorem vf7b_h36 :
    Reg.OpOK Try.prog (Reg.opsOf Try.f7 7) a0 w0 (vf7bR bv b8 b10 gs gr nn cc oc rc nl vv xx l lr ee vs AA oA rA) (fun _ _ _ _ => True) 36 := by
    refine Reg.op_ok2 (fun af => { dst := some 69, op := Op.binOp BinOp.eql 9 (Operand.tmp 66) (Operand.tmp 68) 9, type := 4, pos := "law.go:40", after := af, guard := some (31, true) }) #[{ on := 33, ground := Ground.data }, { on := 35, ground := Ground.data }, { on := 31, ground := Ground.guard }] (by kernel_rfl) [33, 35, 31] (by kernel_rfl) fun af v W hb hd => ?_
    have d31 : v 31 = (Value.bool true) := hd 31 (by decide)
    have d33 : v 33 = (Value.string (bstr l)) := hd 33 (by decide)
    have d35 : v 35 = (Value.string (bstr l)) := hd 35 (by decide)
    have e66 := (Reg.gfr_eval (ops := (Reg.opsOf Try.f7 7)) (a0 := a0) (v := v) (L := [33, 35, 31]) 66 33 (by kernel_rfl) (by rw [hsz]; omega)).trans d33
    have e68 := (Reg.gfr_eval (ops := (Reg.opsOf Try.f7 7)) (a0 := a0) (v := v) (L := [33, 35, 31]) 68 35 (by kernel_rfl) (by rw [hsz]; omega)).trans d35
    have e64 := (Reg.gfr_eval (ops := (Reg.opsOf Try.f7 7)) (a0 := a0) (v := v) (L := [33, 35, 31]) 64 31 (by kernel_rfl) (by rw [hsz]; omega)).trans d31
    refine ⟨Reg.wanted_of rfl (by kernel_rfl) e64, ?_⟩
    generalize Reg.gfr (Reg.opsOf Try.f7 7) a0 v [33, 35, 31] = G at e66 e68 ⊢
    generalize hρ : G.eval = ρ at e66 e68
    have hρ' : G.eval = ρ := hρ
    refine Reg.go_run (Value.bool true) W ?_ ?_
    · rw [hρ']; simp [execOp, go_sem, e66, e68]
    · exact ⟨Below.refl _ _, rfl⟩
set_option maxHeartbeats 4000000 in
set_option maxRecDepth 20000 in
theorem vf7b_h37 :
    Reg.OpOK Try.prog (Reg.opsOf Try.f7 7) a0 w0 (vf7bR bv b8 b10 gs gr nn cc oc rc nl vv xx l lr ee vs AA oA rA) (fun _ _ _ _ => True) 37 := by
    refine Reg.op_ok2 (fun af => { dst := some 70, op := Op.pick (Operand.tmp 64) (Operand.tmp 69) (Operand.const (Value.bool false)), type := 4, pos := "law.go:40", after := af, guard := none }) #[{ on := 31, ground := Ground.data }, { on := 36, ground := Ground.data }] (by kernel_rfl) [31, 36] (by kernel_rfl) fun af v W hb hd => ?_
    have d31 : v 31 = (Value.bool true) := hd 31 (by decide)
    have d36 : v 36 = (Value.bool true) := hd 36 (by decide)
    have e64 := (Reg.gfr_eval (ops := (Reg.opsOf Try.f7 7)) (a0 := a0) (v := v) (L := [31, 36]) 64 31 (by kernel_rfl) (by rw [hsz]; omega)).trans d31
    have e69 := (Reg.gfr_eval (ops := (Reg.opsOf Try.f7 7)) (a0 := a0) (v := v) (L := [31, 36]) 69 36 (by kernel_rfl) (by rw [hsz]; omega)).trans d36
    refine ⟨Reg.wanted_none rfl, ?_⟩
    have eC : ∀ x, (Reg.gfr (Reg.opsOf Try.f7 7) a0 v [31, 36]).eval (.const x) = x := fun _ => rfl
    generalize Reg.gfr (Reg.opsOf Try.f7 7) a0 v [31, 36] = G at e64 e69 eC ⊢
    generalize hρ : G.eval = ρ at e64 e69 eC
    have hρ' : G.eval = ρ := hρ
    refine Reg.go_run (Value.bool true) W ?_ ?_
    · rw [hρ']; simp [execOp, go_sem, e64, e69, eC]
    · exact ⟨Below.refl _ _, rfl⟩
set_option maxHeartbeats 4000000 in
set_option maxRecDepth 20000 in
theorem vf7b_h38 :
    Reg.OpOK Try.prog (Reg.opsOf Try.f7 7) a0 w0 (vf7bR bv b8 b10 gs gr nn cc oc rc nl vv xx l lr ee vs AA oA rA) (fun _ _ _ _ => True) 38 := by
    refine Reg.op_ok2 (fun af => { dst := some 4, op := Op.assign (Operand.tmp 70), type := 4, pos := "law.go:40", after := af, guard := none }) #[{ on := 37, ground := Ground.data }, { on := 31, ground := Ground.chain }, { on := 0, ground := Ground.phase }, { on := 1, ground := Ground.phase }, { on := 2, ground := Ground.phase }, { on := 3, ground := Ground.phase }, { on := 4, ground := Ground.phase }, { on := 5, ground := Ground.phase }, { on := 6, ground := Ground.phase }, { on := 7, ground := Ground.phase }, { on := 8, ground := Ground.phase }, { on := 9, ground := Ground.phase }, { on := 10, ground := Ground.phase }, { on := 11, ground := Ground.phase }, { on := 12, ground := Ground.phase }, { on := 13, ground := Ground.phase }, { on := 14, ground := Ground.phase }, { on := 15, ground := Ground.phase }, { on := 16, ground := Ground.phase }, { on := 17, ground := Ground.phase }, { on := 18, ground := Ground.phase }, { on := 19, ground := Ground.phase }, { on := 20, ground := Ground.phase }, { on := 21, ground := Ground.phase }, { on := 22, ground := Ground.phase }, { on := 23, ground := Ground.phase }, { on := 24, ground := Ground.phase }, { on := 25, ground := Ground.phase }, { on := 26, ground := Ground.phase }, { on := 27, ground := Ground.phase }, { on := 28, ground := Ground.phase }, { on := 29, ground := Ground.phase }, { on := 30, ground := Ground.phase }, { on := 31, ground := Ground.phase }, { on := 32, ground := Ground.phase }, { on := 33, ground := Ground.phase }, { on := 34, ground := Ground.phase }, { on := 35, ground := Ground.phase }, { on := 36, ground := Ground.phase }, { on := 37, ground := Ground.phase }] (by kernel_rfl) [37, 31, 0, 1, 2, 3, 4, 5, 6, 7, 8, 9, 10, 11, 12, 13, 14, 15, 16, 17, 18, 19, 20, 21, 22, 23, 24, 25, 26, 27, 28, 29, 30, 31, 32, 33, 34, 35, 36, 37] (by kernel_rfl) fun af v W hb hd => ?_
    have d37 : v 37 = (Value.bool true) := hd 37 (by decide)
    have e70 := (Reg.gfr_eval (ops := (Reg.opsOf Try.f7 7)) (a0 := a0) (v := v) (L := [37, 31, 0, 1, 2, 3, 4, 5, 6, 7, 8, 9, 10, 11, 12, 13, 14, 15, 16, 17, 18, 19, 20, 21, 22, 23, 24, 25, 26, 27, 28, 29, 30, 31, 32, 33, 34, 35, 36, 37]) 70 37 (by kernel_rfl) (by rw [hsz]; omega)).trans d37
    refine ⟨Reg.wanted_none rfl, ?_⟩
    generalize Reg.gfr (Reg.opsOf Try.f7 7) a0 v [37, 31, 0, 1, 2, 3, 4, 5, 6, 7, 8, 9, 10, 11, 12, 13, 14, 15, 16, 17, 18, 19, 20, 21, 22, 23, 24, 25, 26, 27, 28, 29, 30, 31, 32, 33, 34, 35, 36, 37] = G at e70 ⊢
    generalize hρ : G.eval = ρ at e70
    have hρ' : G.eval = ρ := hρ
    refine Reg.go_run (Value.bool true) W ?_ ?_
    · rw [hρ']; simp [execOp, go_sem, e70]
    · exact ⟨Below.refl _ _, rfl⟩
end
set_option maxHeartbeats 4000000 in
set_option maxRecDepth 20000 in
theorem vf7b (bv b8 b10 gs gr nn cc oc rc nl : Nat) (vv xx : List Nat) (l lr : List UInt8) (ee : Int) (vs : Value) (AA oA rA : Option Addr) (w0 : World) {s0 s3 s4 s12 s13 s14 s15 s16 s17 s18 s19 s20 s21 s22 s23 s24 s25 s26 s27 s28 s29 s30 s31 s32 s33 s34 s35 s36 s37 s38 s39 s40 s41 s42 s43 s44 s45 s46 s47 s48 s49 s50 s51 s52 s53 s54 s55 s56 s57 s58 s59 s60 s61 s62 s63 s64 s65 s66 s67 s68 s69 s70 : Value}
    (hv : vv.length = 16) (hx : xx.length = 16) (sv : small vv) (hnl : lr.length = nl)
    (hSL : ∀ W, Below w0.heap.size w0 W → Src 67 gs vs lr W)
    (cA : ∀ W, Below w0.heap.size w0 W → (convert 33 9 (.slice AA nn cc)).run Try.prog W = .ok (.string (bstr l)) W)
    (cO : ∀ W, Below w0.heap.size w0 W → (convert 33 9 (.slice oA nn oc)).run Try.prog W = .ok (.string (bstr l)) W)
    (hee : (ee != 0) = true)
    (M_bv : ∀ W, Below w0.heap.size w0 W → W.heap[bv]? = some (.cells (vC vv) 24 (0, 0)))
    (M_b8 : ∀ W, Below w0.heap.size w0 W → W.heap[b8]? = some (.cells (vC xx) 24 (0, 0)))
    (M_b10 : ∀ W, Below w0.heap.size w0 W → W.heap[b10]? = some (.cells (vC xx) 24 (0, 0)))
    (CR : ∀ W, Below w0.heap.size w0 W → W.cell? ⟨gr, 0, none⟩ = some (Value.slice rA nl rc))
    {Q : Exit → Act → World → Prop}
    (hend : ∀ (w : World) (r34 r37 : Value), Below w0.heap.size w0 w → Q .normal { tmps := #[s0, (Value.slice AA nn cc), (Value.pointer (some ⟨bv, 0, none⟩)), s3, (Value.bool true), (Value.slice oA nn oc), (Value.pointer (some ⟨gs, 0, none⟩)), (Value.pointer (some ⟨gr, 0, none⟩)), (Value.pointer (some ⟨b8, 0, none⟩)), (Value.int IntKind.i64 ee), (Value.pointer (some ⟨b10, 0, none⟩)), (Value.int IntKind.i64 ee), s12, s13, s14, s15, s16, s17, s18, s19, s20, s21, s22, s23, s24, s25, s26, s27, s28, s29, s30, s31, s32, (Value.agg (vC vv)), r34, (Value.string (bstr (encV vv))), (Value.agg (vC vv)), r37, (Value.string (bstr (encV vv))), (Value.bool true), (Value.bool true), (Value.agg (vC xx)), (Value.agg (vC xx)), (Value.bool true), (Value.bool true), (Value.bool true), (Value.int IntKind.i64 ee), (Value.int IntKind.i64 ee), (Value.bool true), (Value.bool true), (Value.bool true), (Value.int IntKind.i64 ee), (Value.bool true), (Value.bool true), undef, undef, undef, undef, undef, undef, undef, undef, (Value.bool true), (Value.bool true), (Value.bool true), (Value.slice oA nn oc), (Value.string (bstr l)), (Value.slice AA nn cc), (Value.string (bstr l)), (Value.bool true), (Value.bool true)], defers := [] } w) :
    (Code.region 7 (Reg.opsOf Try.f7 7) true).wp Try.prog Q { tmps := #[s0, (Value.slice AA nn cc), (Value.pointer (some ⟨bv, 0, none⟩)), s3, s4, (Value.slice oA nn oc), (Value.pointer (some ⟨gs, 0, none⟩)), (Value.pointer (some ⟨gr, 0, none⟩)), (Value.pointer (some ⟨b8, 0, none⟩)), (Value.int IntKind.i64 ee), (Value.pointer (some ⟨b10, 0, none⟩)), (Value.int IntKind.i64 ee), s12, s13, s14, s15, s16, s17, s18, s19, s20, s21, s22, s23, s24, s25, s26, s27, s28, s29, s30, s31, s32, s33, s34, s35, s36, s37, s38, s39, s40, s41, s42, s43, s44, s45, s46, s47, s48, s49, s50, s51, s52, s53, s54, s55, s56, s57, s58, s59, s60, s61, s62, s63, s64, s65, s66, s67, s68, s69, s70], defers := [] } w0 := by
  obtain ⟨a0, ha0⟩ : ∃ a0 : Act, a0 = { tmps := #[s0, (Value.slice AA nn cc), (Value.pointer (some ⟨bv, 0, none⟩)), s3, s4, (Value.slice oA nn oc), (Value.pointer (some ⟨gs, 0, none⟩)), (Value.pointer (some ⟨gr, 0, none⟩)), (Value.pointer (some ⟨b8, 0, none⟩)), (Value.int IntKind.i64 ee), (Value.pointer (some ⟨b10, 0, none⟩)), (Value.int IntKind.i64 ee), s12, s13, s14, s15, s16, s17, s18, s19, s20, s21, s22, s23, s24, s25, s26, s27, s28, s29, s30, s31, s32, s33, s34, s35, s36, s37, s38, s39, s40, s41, s42, s43, s44, s45, s46, s47, s48, s49, s50, s51, s52, s53, s54, s55, s56, s57, s58, s59, s60, s61, s62, s63, s64, s65, s66, s67, s68, s69, s70], defers := [] } := ⟨_, rfl⟩
  have hfin : ∀ v : Nat → Value, Reg.gfr (Reg.opsOf Try.f7 7) a0 v (List.range 39) = { tmps := #[s0, (Value.slice AA nn cc), (Value.pointer (some ⟨bv, 0, none⟩)), s3, v 38, (Value.slice oA nn oc), (Value.pointer (some ⟨gs, 0, none⟩)), (Value.pointer (some ⟨gr, 0, none⟩)), (Value.pointer (some ⟨b8, 0, none⟩)), (Value.int IntKind.i64 ee), (Value.pointer (some ⟨b10, 0, none⟩)), (Value.int IntKind.i64 ee), s12, s13, s14, s15, s16, s17, s18, s19, s20, s21, s22, s23, s24, s25, s26, s27, s28, s29, s30, s31, s32, v 0, v 1, v 2, v 3, v 4, v 5, v 6, v 7, v 8, v 9, v 10, v 11, v 12, v 13, v 14, v 15, v 16, v 17, v 18, v 19, v 20, v 21, v 22, v 23, v 24, v 25, v 26, v 27, v 28, v 29, v 30, v 31, v 32, v 33, v 34, v 35, v 36, v 37], defers := [] } := fun v => by rw [ha0]; kernel_rfl
  rw [← ha0]
  have i1 : a0.eval (.tmp 1) = (Value.slice AA nn cc) := by rw [ha0]; rfl
  have i2 : a0.eval (.tmp 2) = (Value.pointer (some ⟨bv, 0, none⟩)) := by rw [ha0]; rfl
  have i5 : a0.eval (.tmp 5) = (Value.slice oA nn oc) := by rw [ha0]; rfl
  have i6 : a0.eval (.tmp 6) = (Value.pointer (some ⟨gs, 0, none⟩)) := by rw [ha0]; rfl
  have i7 : a0.eval (.tmp 7) = (Value.pointer (some ⟨gr, 0, none⟩)) := by rw [ha0]; rfl
  have i8 : a0.eval (.tmp 8) = (Value.pointer (some ⟨b8, 0, none⟩)) := by rw [ha0]; rfl
  have i9 : a0.eval (.tmp 9) = (Value.int IntKind.i64 ee) := by rw [ha0]; rfl
  have i10 : a0.eval (.tmp 10) = (Value.pointer (some ⟨b10, 0, none⟩)) := by rw [ha0]; rfl
  have i11 : a0.eval (.tmp 11) = (Value.int IntKind.i64 ee) := by rw [ha0]; rfl
  have hsz : a0.tmps.size = 71 := by rw [ha0]; rfl
  clear ha0
  have hn : (Reg.opsOf Try.f7 7).size = 39 := by kernel_rfl
  have h0 := vf7b_h0 bv b8 b10 gs gr nn cc oc rc nl vv xx l lr ee vs AA oA rA w0 a0 hv hx sv hnl hSL cA cO hee M_bv M_b8 M_b10 CR i1 i2 i5 i6 i7 i8 i9 i10 i11 hsz
  have h1 := vf7b_h1 bv b8 b10 gs gr nn cc oc rc nl vv xx l lr ee vs AA oA rA w0 a0 hv hx sv hnl hSL cA cO hee M_bv M_b8 M_b10 CR i1 i2 i5 i6 i7 i8 i9 i10 i11 hsz
  have h2 := vf7b_h2 bv b8 b10 gs gr nn cc oc rc nl vv xx l lr ee vs AA oA rA w0 a0 hv hx sv hnl hSL cA cO hee M_bv M_b8 M_b10 CR i1 i2 i5 i6 i7 i8 i9 i10 i11 hsz
  have h3 := vf7b_h3 bv b8 b10 gs gr nn cc oc rc nl vv xx l lr ee vs AA oA rA w0 a0 hv hx sv hnl hSL cA cO hee M_bv M_b8 M_b10 CR i1 i2 i5 i6 i7 i8 i9 i10 i11 hsz
  have h4 := vf7b_h4 bv b8 b10 gs gr nn cc oc rc nl vv xx l lr ee vs AA oA rA w0 a0 hv hx sv hnl hSL cA cO hee M_bv M_b8 M_b10 CR i1 i2 i5 i6 i7 i8 i9 i10 i11 hsz
  have h5 := vf7b_h5 bv b8 b10 gs gr nn cc oc rc nl vv xx l lr ee vs AA oA rA w0 a0 hv hx sv hnl hSL cA cO hee M_bv M_b8 M_b10 CR i1 i2 i5 i6 i7 i8 i9 i10 i11 hsz
  have h6 := vf7b_h6 bv b8 b10 gs gr nn cc oc rc nl vv xx l lr ee vs AA oA rA w0 a0 hv hx sv hnl hSL cA cO hee M_bv M_b8 M_b10 CR i1 i2 i5 i6 i7 i8 i9 i10 i11 hsz
  have h7 := vf7b_h7 bv b8 b10 gs gr nn cc oc rc nl vv xx l lr ee vs AA oA rA w0 a0 hv hx sv hnl hSL cA cO hee M_bv M_b8 M_b10 CR i1 i2 i5 i6 i7 i8 i9 i10 i11 hsz
  have h8 := vf7b_h8 bv b8 b10 gs gr nn cc oc rc nl vv xx l lr ee vs AA oA rA w0 a0 hv hx sv hnl hSL cA cO hee M_bv M_b8 M_b10 CR i1 i2 i5 i6 i7 i8 i9 i10 i11 hsz
  have h9 := vf7b_h9 bv b8 b10 gs gr nn cc oc rc nl vv xx l lr ee vs AA oA rA w0 a0 hv hx sv hnl hSL cA cO hee M_bv M_b8 M_b10 CR i1 i2 i5 i6 i7 i8 i9 i10 i11 hsz
  have h10 := vf7b_h10 bv b8 b10 gs gr nn cc oc rc nl vv xx l lr ee vs AA oA rA w0 a0 hv hx sv hnl hSL cA cO hee M_bv M_b8 M_b10 CR i1 i2 i5 i6 i7 i8 i9 i10 i11 hsz
  have h11 := vf7b_h11 bv b8 b10 gs gr nn cc oc rc nl vv xx l lr ee vs AA oA rA w0 a0 hv hx sv hnl hSL cA cO hee M_bv M_b8 M_b10 CR i1 i2 i5 i6 i7 i8 i9 i10 i11 hsz
  have h12 := vf7b_h12 bv b8 b10 gs gr nn cc oc rc nl vv xx l lr ee vs AA oA rA w0 a0 hv hx sv hnl hSL cA cO hee M_bv M_b8 M_b10 CR i1 i2 i5 i6 i7 i8 i9 i10 i11 hsz
  have h13 := vf7b_h13 bv b8 b10 gs gr nn cc oc rc nl vv xx l lr ee vs AA oA rA w0 a0 hv hx sv hnl hSL cA cO hee M_bv M_b8 M_b10 CR i1 i2 i5 i6 i7 i8 i9 i10 i11 hsz
  have h14 := vf7b_h14 bv b8 b10 gs gr nn cc oc rc nl vv xx l lr ee vs AA oA rA w0 a0 hv hx sv hnl hSL cA cO hee M_bv M_b8 M_b10 CR i1 i2 i5 i6 i7 i8 i9 i10 i11 hsz
  have h15 := vf7b_h15 bv b8 b10 gs gr nn cc oc rc nl vv xx l lr ee vs AA oA rA w0 a0 hv hx sv hnl hSL cA cO hee M_bv M_b8 M_b10 CR i1 i2 i5 i6 i7 i8 i9 i10 i11 hsz
  have h16 := vf7b_h16 bv b8 b10 gs gr nn cc oc rc nl vv xx l lr ee vs AA oA rA w0 a0 hv hx sv hnl hSL cA cO hee M_bv M_b8 M_b10 CR i1 i2 i5 i6 i7 i8 i9 i10 i11 hsz
  have h17 := vf7b_h17 bv b8 b10 gs gr nn cc oc rc nl vv xx l lr ee vs AA oA rA w0 a0 hv hx sv hnl hSL cA cO hee M_bv M_b8 M_b10 CR i1 i2 i5 i6 i7 i8 i9 i10 i11 hsz
  have h18 := vf7b_h18 bv b8 b10 gs gr nn cc oc rc nl vv xx l lr ee vs AA oA rA w0 a0 hv hx sv hnl hSL cA cO hee M_bv M_b8 M_b10 CR i1 i2 i5 i6 i7 i8 i9 i10 i11 hsz
  have h19 := vf7b_h19 bv b8 b10 gs gr nn cc oc rc nl vv xx l lr ee vs AA oA rA w0 a0 hv hx sv hnl hSL cA cO hee M_bv M_b8 M_b10 CR i1 i2 i5 i6 i7 i8 i9 i10 i11 hsz
  have h20 := vf7b_h20 bv b8 b10 gs gr nn cc oc rc nl vv xx l lr ee vs AA oA rA w0 a0 hv hx sv hnl hSL cA cO hee M_bv M_b8 M_b10 CR i1 i2 i5 i6 i7 i8 i9 i10 i11 hsz
  have h21 := vf7b_h21 bv b8 b10 gs gr nn cc oc rc nl vv xx l lr ee vs AA oA rA w0 a0 hv hx sv hnl hSL cA cO hee M_bv M_b8 M_b10 CR i1 i2 i5 i6 i7 i8 i9 i10 i11 hsz
  have h22 := vf7b_h22 bv b8 b10 gs gr nn cc oc rc nl vv xx l lr ee vs AA oA rA w0 a0 hv hx sv hnl hSL cA cO hee M_bv M_b8 M_b10 CR i1 i2 i5 i6 i7 i8 i9 i10 i11 hsz
  have h23 := vf7b_h23 bv b8 b10 gs gr nn cc oc rc nl vv xx l lr ee vs AA oA rA w0 a0 hv hx sv hnl hSL cA cO hee M_bv M_b8 M_b10 CR i1 i2 i5 i6 i7 i8 i9 i10 i11 hsz
  have h24 := vf7b_h24 bv b8 b10 gs gr nn cc oc rc nl vv xx l lr ee vs AA oA rA w0 a0 hv hx sv hnl hSL cA cO hee M_bv M_b8 M_b10 CR i1 i2 i5 i6 i7 i8 i9 i10 i11 hsz
  have h25 := vf7b_h25 bv b8 b10 gs gr nn cc oc rc nl vv xx l lr ee vs AA oA rA w0 a0 hv hx sv hnl hSL cA cO hee M_bv M_b8 M_b10 CR i1 i2 i5 i6 i7 i8 i9 i10 i11 hsz
  have h26 := vf7b_h26 bv b8 b10 gs gr nn cc oc rc nl vv xx l lr ee vs AA oA rA w0 a0 hv hx sv hnl hSL cA cO hee M_bv M_b8 M_b10 CR i1 i2 i5 i6 i7 i8 i9 i10 i11 hsz
  have h27 := vf7b_h27 bv b8 b10 gs gr nn cc oc rc nl vv xx l lr ee vs AA oA rA w0 a0 hv hx sv hnl hSL cA cO hee M_bv M_b8 M_b10 CR i1 i2 i5 i6 i7 i8 i9 i10 i11 hsz
  have h28 := vf7b_h28 bv b8 b10 gs gr nn cc oc rc nl vv xx l lr ee vs AA oA rA w0 a0 hv hx sv hnl hSL cA cO hee M_bv M_b8 M_b10 CR i1 i2 i5 i6 i7 i8 i9 i10 i11 hsz
  have h29 := vf7b_h29 bv b8 b10 gs gr nn cc oc rc nl vv xx l lr ee vs AA oA rA w0 a0 hv hx sv hnl hSL cA cO hee M_bv M_b8 M_b10 CR i1 i2 i5 i6 i7 i8 i9 i10 i11 hsz
  have h30 := vf7b_h30 bv b8 b10 gs gr nn cc oc rc nl vv xx l lr ee vs AA oA rA w0 a0 hv hx sv hnl hSL cA cO hee M_bv M_b8 M_b10 CR i1 i2 i5 i6 i7 i8 i9 i10 i11 hsz
  have h31 := vf7b_h31 bv b8 b10 gs gr nn cc oc rc nl vv xx l lr ee vs AA oA rA w0 a0 hv hx sv hnl hSL cA cO hee M_bv M_b8 M_b10 CR i1 i2 i5 i6 i7 i8 i9 i10 i11 hsz
  have h32 := vf7b_h32 bv b8 b10 gs gr nn cc oc rc nl vv xx l lr ee vs AA oA rA w0 a0 hv hx sv hnl hSL cA cO hee M_bv M_b8 M_b10 CR i1 i2 i5 i6 i7 i8 i9 i10 i11 hsz
  have h33 := vf7b_h33 bv b8 b10 gs gr nn cc oc rc nl vv xx l lr ee vs AA oA rA w0 a0 hv hx sv hnl hSL cA cO hee M_bv M_b8 M_b10 CR i1 i2 i5 i6 i7 i8 i9 i10 i11 hsz
  have h34 := vf7b_h34 bv b8 b10 gs gr nn cc oc rc nl vv xx l lr ee vs AA oA rA w0 a0 hv hx sv hnl hSL cA cO hee M_bv M_b8 M_b10 CR i1 i2 i5 i6 i7 i8 i9 i10 i11 hsz
  have h35 := vf7b_h35 bv b8 b10 gs gr nn cc oc rc nl vv xx l lr ee vs AA oA rA w0 a0 hv hx sv hnl hSL cA cO hee M_bv M_b8 M_b10 CR i1 i2 i5 i6 i7 i8 i9 i10 i11 hsz
  have h36 := vf7b_h36 bv b8 b10 gs gr nn cc oc rc nl vv xx l lr ee vs AA oA rA w0 a0 hv hx sv hnl hSL cA cO hee M_bv M_b8 M_b10 CR i1 i2 i5 i6 i7 i8 i9 i10 i11 hsz
  have h37 := vf7b_h37 bv b8 b10 gs gr nn cc oc rc nl vv xx l lr ee vs AA oA rA w0 a0 hv hx sv hnl hSL cA cO hee M_bv M_b8 M_b10 CR i1 i2 i5 i6 i7 i8 i9 i10 i11 hsz
  have h38 := vf7b_h38 bv b8 b10 gs gr nn cc oc rc nl vv xx l lr ee vs AA oA rA w0 a0 hv hx sv hnl hSL cA cO hee M_bv M_b8 M_b10 CR i1 i2 i5 i6 i7 i8 i9 i10 i11 hsz
  refine Reg.region_all (by kernel_rfl) (vf7bR bv b8 b10 gs gr nn cc oc rc nl vv xx l lr ee vs AA oA rA) (by rw [hn, hsz]; kernel_rfl) (vf7b_stable bv b8 b10 gs gr nn cc oc rc nl vv xx l lr ee vs AA oA rA) (fun i hi => ?_) (fun v w hb hR => ?_)
  · rw [hn] at hi
    match i, List.mem_range.1 hi with
    | 0, _ => exact h0
    | 1, _ => exact h1
    | 2, _ => exact h2
    | 3, _ => exact h3
    | 4, _ => exact h4
    | 5, _ => exact h5
    | 6, _ => exact h6
    | 7, _ => exact h7
    | 8, _ => exact h8
    | 9, _ => exact h9
    | 10, _ => exact h10
    | 11, _ => exact h11
    | 12, _ => exact h12
    | 13, _ => exact h13
    | 14, _ => exact h14
    | 15, _ => exact h15
    | 16, _ => exact h16
    | 17, _ => exact h17
    | 18, _ => exact h18
    | 19, _ => exact h19
    | 20, _ => exact h20
    | 21, _ => exact h21
    | 22, _ => exact h22
    | 23, _ => exact h23
    | 24, _ => exact h24
    | 25, _ => exact h25
    | 26, _ => exact h26
    | 27, _ => exact h27
    | 28, _ => exact h28
    | 29, _ => exact h29
    | 30, _ => exact h30
    | 31, _ => exact h31
    | 32, _ => exact h32
    | 33, _ => exact h33
    | 34, _ => exact h34
    | 35, _ => exact h35
    | 36, _ => exact h36
    | 37, _ => exact h37
    | 38, _ => exact h38
    | (_ + 39), h => omega
  · rw [hn] at hR ⊢
    have v0 : v 0 = (Value.agg (vC vv)) := hR 0 (by decide)
    have v2 : v 2 = (Value.string (bstr (encV vv))) := hR 2 (by decide)
    have v3 : v 3 = (Value.agg (vC vv)) := hR 3 (by decide)
    have v5 : v 5 = (Value.string (bstr (encV vv))) := hR 5 (by decide)
    have v6 : v 6 = (Value.bool true) := hR 6 (by decide)
    have v7 : v 7 = (Value.bool true) := hR 7 (by decide)
    have v8 : v 8 = (Value.agg (vC xx)) := hR 8 (by decide)
    have v9 : v 9 = (Value.agg (vC xx)) := hR 9 (by decide)
    have v10 : v 10 = (Value.bool true) := hR 10 (by decide)
    have v11 : v 11 = (Value.bool true) := hR 11 (by decide)
    have v12 : v 12 = (Value.bool true) := hR 12 (by decide)
    have v13 : v 13 = (Value.int IntKind.i64 ee) := hR 13 (by decide)
    have v14 : v 14 = (Value.int IntKind.i64 ee) := hR 14 (by decide)
    have v15 : v 15 = (Value.bool true) := hR 15 (by decide)
    have v16 : v 16 = (Value.bool true) := hR 16 (by decide)
    have v17 : v 17 = (Value.bool true) := hR 17 (by decide)
    have v18 : v 18 = (Value.int IntKind.i64 ee) := hR 18 (by decide)
    have v19 : v 19 = (Value.bool true) := hR 19 (by decide)
    have v20 : v 20 = (Value.bool true) := hR 20 (by decide)
    have v21 : v 21 = undef := hR 21 (by decide)
    have v22 : v 22 = undef := hR 22 (by decide)
    have v23 : v 23 = undef := hR 23 (by decide)
    have v24 : v 24 = undef := hR 24 (by decide)
    have v25 : v 25 = undef := hR 25 (by decide)
    have v26 : v 26 = undef := hR 26 (by decide)
    have v27 : v 27 = undef := hR 27 (by decide)
    have v28 : v 28 = undef := hR 28 (by decide)
    have v29 : v 29 = (Value.bool true) := hR 29 (by decide)
    have v30 : v 30 = (Value.bool true) := hR 30 (by decide)
    have v31 : v 31 = (Value.bool true) := hR 31 (by decide)
    have v32 : v 32 = (Value.slice oA nn oc) := hR 32 (by decide)
    have v33 : v 33 = (Value.string (bstr l)) := hR 33 (by decide)
    have v34 : v 34 = (Value.slice AA nn cc) := hR 34 (by decide)
    have v35 : v 35 = (Value.string (bstr l)) := hR 35 (by decide)
    have v36 : v 36 = (Value.bool true) := hR 36 (by decide)
    have v37 : v 37 = (Value.bool true) := hR 37 (by decide)
    have v38 : v 38 = (Value.bool true) := hR 38 (by decide)
    rw [hfin v, v0, v2, v3, v5, v6, v7, v8, v9, v10, v11, v12, v13, v14, v15, v16, v17, v18, v19, v20, v21, v22, v23, v24, v25, v26, v27, v28, v29, v30, v31, v32, v33, v34, v35, v36, v37, v38]
    exact hend w (v 1) (v 4) hb 
end Go.Proofs.Ytfifbjlmbdgmjaa
