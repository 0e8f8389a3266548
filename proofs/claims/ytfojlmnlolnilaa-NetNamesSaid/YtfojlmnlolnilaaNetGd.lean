/- Regions that draw their order: their obligations (printed by regen2.py). -/
import Derived.Test.YtfojlmnlolnilaaNetA
import Derived.Test.YtfojlmnlolnilaaApp
import Derived.Test.YtfojlmnlolnilaaRegT
import Derived.Test.YtfojlmnlolnilaaRegIn
namespace Go.Proofs.Ytfojlmnlolnilaa
open Go.RowKit
set_option linter.unusedVariables false
set_option linter.unusedSimpArgs false
set_option linter.unusedSectionVars false
def ndbl10R (gg b2 ss nn cc rn rc B0 : Nat) (AA RA : Option Addr) (xs : List Value) (ff tt : Int) (bb : Bool) : Nat → Value → World → Prop
  | 0 => fun x_ _ => x_ = (Value.pointer (some ⟨gg, 0, none⟩))
  | 1 => fun x_ _ => x_ = (Value.pointer (some ⟨gg, 0, none⟩))
  | 2 => fun x_ _ => x_ = (Value.pointer (some ⟨gg, 0, none⟩))
  | 3 => fun x_ _ => x_ = (Value.pointer (some ⟨gg, 1, none⟩))
  | 4 => fun x_ _ => x_ = (Value.slice AA nn cc)
  | 5 => fun x_ _ => x_ = (Value.slice AA nn nn)
  | 6 => fun x_ _ => x_ = (Value.agg #[Value.int IntKind.i64 ff, Value.int IntKind.i64 tt, Value.slice RA rn rc, Value.bool bb])
  | 7 => (fun u_ w_ => ∃ b_, u_ = Value.slice (some ⟨b_, 0, none⟩) 1 1 ∧ w_.heap[b_]? = some (.cells #[Value.int IntKind.i64 ff, Value.int IntKind.i64 tt, Value.slice RA rn rc, Value.bool bb] 74 (0, 0)))
  | 8 => (fun u_ w_ => ∃ A2_ c2_, u_ = Value.slice A2_ (nn + 1) c2_ ∧ w_.ownsRow B0 74 4 (Value.slice A2_ (nn + 1) c2_) (nn + 1) (xs ++ [Value.int IntKind.i64 ff, Value.int IntKind.i64 tt, Value.slice RA rn rc, Value.bool bb]))
  | 9 => fun x_ _ => x_ = (Value.pointer (some ⟨gg, 0, none⟩))
  | 10 => fun x_ _ => x_ = (Value.pointer (some ⟨gg, 1, none⟩))
  | _ => fun _ _ => True
theorem ndbl10_stable (gg b2 ss nn cc rn rc B0 : Nat) (AA RA : Option Addr) (xs : List Value) (ff tt : Int) (bb : Bool) : ∀ i_ u_ w_ w_', (ndbl10R gg b2 ss nn cc rn rc B0 AA RA xs ff tt bb) i_ u_ w_ → Below w_.heap.size w_ w_' → (ndbl10R gg b2 ss nn cc rn rc B0 AA RA xs ff tt bb) i_ u_ w_' := fun i_ u_ w_ w_' h_ hb_ => by
  match i_, h_ with
  | 0, h_ => exact h_
  | 1, h_ => exact h_
  | 2, h_ => exact h_
  | 3, h_ => exact h_
  | 4, h_ => exact h_
  | 5, h_ => exact h_
  | 6, h_ => exact h_
  | 7, h_ => exact ((by obtain ⟨b_, h1_, h2_⟩ := h_; exact ⟨b_, h1_, (hb_.block _ (lt_get h2_)).trans h2_⟩))
  | 8, h_ => exact ((by obtain ⟨A2_, c2_, h0_, h1_⟩ := h_; exact ⟨A2_, c2_, h0_, own_below h1_ hb_⟩))
  | 9, h_ => exact h_
  | 10, h_ => exact h_
  | 11, h_ => exact h_
  | (_ + 12), _ => trivial
section
variable (gg b2 ss nn cc rn rc B0 : Nat) (AA RA : Option Addr) (xs : List Value) (ff tt : Int) (bb : Bool) (w0 : World) (a0 : Act)
variable (hB0 : B0 ≤ w0.heap.size) (hxl : xs.length = nn * 4) (hnn : nn ≤ 10000) (hncc : nn ≤ cc) (hccm : cc ≤ maxLen) (hA0 : AA = none → nn = 0)
variable (hrow : ∀ W, Below w0.heap.size w0 W → RdC W AA xs)
variable (M_ss : ∀ W, Below w0.heap.size w0 W → W.heap[ss]? = some (.cells #[Value.int IntKind.i64 ff, Value.int IntKind.i64 tt, Value.slice RA rn rc, Value.bool bb] 74 (0, 0)))
variable (CN : ∀ W, Below w0.heap.size w0 W → W.cell? ⟨gg, 1, none⟩ = some (Value.slice AA nn cc))
variable (CB : ∀ W, Below w0.heap.size w0 W → W.cell? ⟨b2, 0, none⟩ = some (Value.pointer (some ⟨gg, 0, none⟩)))
variable (i2 : a0.eval (.tmp 2) = (Value.pointer (some ⟨b2, 0, none⟩))) (i7 : a0.eval (.tmp 7) = (Value.pointer (some ⟨ss, 0, none⟩))) (hsz : a0.tmps.size = 42)
include gg b2 ss nn cc rn rc B0 AA RA xs ff tt bb w0 a0 hB0 hxl hnn hncc hccm hA0 hrow M_ss CN CB i2 i7 hsz
set_option maxHeartbeats 4000000 in
set_option maxRecDepth 20000 in
theorem ndbl10_h0 :
    Reg.OpOK Try.prog (Reg.opsOf2 Try.f15 10) a0 w0 (ndbl10R gg b2 ss nn cc rn rc B0 AA RA xs ff tt bb) (fun _ _ _ _ => True) 0 := by
    refine Reg.op_ok2 (fun af => { dst := some 31, op := Op.load 30 (Operand.tmp 2), type := 30, pos := "net.go:126", after := af, guard := none }) #[] (by kernel_rfl) [] (by kernel_rfl) fun af v W hb hd => ?_
    have e2 := (Reg.gfr_eval0 (ops := (Reg.opsOf2 Try.f15 10)) (a0 := a0) (v := v) (L := []) 2 (by kernel_rfl)).trans i2
    refine ⟨Reg.wanted_none rfl, ?_⟩
    generalize Reg.gfr (Reg.opsOf2 Try.f15 10) a0 v [] = G at e2 ⊢
    generalize hρ : G.eval = ρ at e2
    have hρ' : G.eval = ρ := hρ
    refine Reg.go_run (Value.pointer (some ⟨gg, 0, none⟩)) W ?_ ?_
    · rw [hρ']; simp [execOp, go_sem, e2, CB W hb]
    · exact ⟨Below.refl _ _, rfl⟩
set_option maxHeartbeats 4000000 in
set_option maxRecDepth 20000 in
theorem ndbl10_h1 :
    Reg.OpOK Try.prog (Reg.opsOf2 Try.f15 10) a0 w0 (ndbl10R gg b2 ss nn cc rn rc B0 AA RA xs ff tt bb) (fun _ _ _ _ => True) 1 := by
    refine Reg.op_ok2 (fun af => { dst := some 32, op := Op.load 30 (Operand.tmp 2), type := 30, pos := "net.go:126", after := af, guard := none }) #[] (by kernel_rfl) [] (by kernel_rfl) fun af v W hb hd => ?_
    have e2 := (Reg.gfr_eval0 (ops := (Reg.opsOf2 Try.f15 10)) (a0 := a0) (v := v) (L := []) 2 (by kernel_rfl)).trans i2
    refine ⟨Reg.wanted_none rfl, ?_⟩
    generalize Reg.gfr (Reg.opsOf2 Try.f15 10) a0 v [] = G at e2 ⊢
    generalize hρ : G.eval = ρ at e2
    have hρ' : G.eval = ρ := hρ
    refine Reg.go_run (Value.pointer (some ⟨gg, 0, none⟩)) W ?_ ?_
    · rw [hρ']; simp [execOp, go_sem, e2, CB W hb]
    · exact ⟨Below.refl _ _, rfl⟩
set_option maxHeartbeats 4000000 in
set_option maxRecDepth 20000 in
theorem ndbl10_h2 :
    Reg.OpOK Try.prog (Reg.opsOf2 Try.f15 10) a0 w0 (ndbl10R gg b2 ss nn cc rn rc B0 AA RA xs ff tt bb) (fun _ _ _ _ => True) 2 := by
    refine Reg.op_ok2 (fun af => { dst := some 33, op := Op.nilCheck (Operand.tmp 32), type := 0, pos := "net.go:126", after := af, guard := none }) #[{ on := 1, ground := Ground.data }] (by kernel_rfl) [1] (by kernel_rfl) fun af v W hb hd => ?_
    have d1 : v 1 = (Value.pointer (some ⟨gg, 0, none⟩)) := hd 1 (by decide)
    have e32 := (Reg.gfr_eval (ops := (Reg.opsOf2 Try.f15 10)) (a0 := a0) (v := v) (L := [1]) 32 1 (by kernel_rfl) (by rw [hsz]; omega)).trans d1
    refine ⟨Reg.wanted_none rfl, ?_⟩
    generalize Reg.gfr (Reg.opsOf2 Try.f15 10) a0 v [1] = G at e32 ⊢
    generalize hρ : G.eval = ρ at e32
    have hρ' : G.eval = ρ := hρ
    refine Reg.go_run (Value.pointer (some ⟨gg, 0, none⟩)) W ?_ ?_
    · rw [hρ']; simp [execOp, go_sem, e32]
    · exact ⟨Below.refl _ _, rfl⟩
set_option maxHeartbeats 4000000 in
set_option maxRecDepth 20000 in
theorem ndbl10_h3 :
    Reg.OpOK Try.prog (Reg.opsOf2 Try.f15 10) a0 w0 (ndbl10R gg b2 ss nn cc rn rc B0 AA RA xs ff tt bb) (fun _ _ _ _ => True) 3 := by
    refine Reg.op_ok2 (fun af => { dst := some 34, op := Op.fieldAddr 70 (Operand.tmp 33) 1, type := 0, pos := "net.go:126", after := af, guard := none }) #[{ on := 2, ground := Ground.data }] (by kernel_rfl) [2] (by kernel_rfl) fun af v W hb hd => ?_
    have d2 : v 2 = (Value.pointer (some ⟨gg, 0, none⟩)) := hd 2 (by decide)
    have e33 := (Reg.gfr_eval (ops := (Reg.opsOf2 Try.f15 10)) (a0 := a0) (v := v) (L := [2]) 33 2 (by kernel_rfl) (by rw [hsz]; omega)).trans d2
    refine ⟨Reg.wanted_none rfl, ?_⟩
    generalize Reg.gfr (Reg.opsOf2 Try.f15 10) a0 v [2] = G at e33 ⊢
    generalize hρ : G.eval = ρ at e33
    have hρ' : G.eval = ρ := hρ
    refine Reg.go_run (Value.pointer (some ⟨gg, 1, none⟩)) W ?_ ?_
    · rw [hρ']; simp [execOp, go_sem, e33]
    · exact ⟨Below.refl _ _, rfl⟩
set_option maxHeartbeats 4000000 in
set_option maxRecDepth 20000 in
theorem ndbl10_h4 :
    Reg.OpOK Try.prog (Reg.opsOf2 Try.f15 10) a0 w0 (ndbl10R gg b2 ss nn cc rn rc B0 AA RA xs ff tt bb) (fun _ _ _ _ => True) 4 := by
    refine Reg.op_ok2 (fun af => { dst := some 35, op := Op.load 67 (Operand.tmp 34), type := 67, pos := "net.go:126", after := af, guard := none }) #[{ on := 3, ground := Ground.data }] (by kernel_rfl) [3] (by kernel_rfl) fun af v W hb hd => ?_
    have d3 : v 3 = (Value.pointer (some ⟨gg, 1, none⟩)) := hd 3 (by decide)
    have e34 := (Reg.gfr_eval (ops := (Reg.opsOf2 Try.f15 10)) (a0 := a0) (v := v) (L := [3]) 34 3 (by kernel_rfl) (by rw [hsz]; omega)).trans d3
    refine ⟨Reg.wanted_none rfl, ?_⟩
    generalize Reg.gfr (Reg.opsOf2 Try.f15 10) a0 v [3] = G at e34 ⊢
    generalize hρ : G.eval = ρ at e34
    have hρ' : G.eval = ρ := hρ
    refine Reg.go_run (Value.slice AA nn cc) W ?_ ?_
    · rw [hρ']; simp [execOp, go_sem, e34, CN W hb]
    · exact ⟨Below.refl _ _, rfl⟩
set_option maxHeartbeats 4000000 in
set_option maxRecDepth 20000 in
theorem ndbl10_h5 :
    Reg.OpOK Try.prog (Reg.opsOf2 Try.f15 10) a0 w0 (ndbl10R gg b2 ss nn cc rn rc B0 AA RA xs ff tt bb) (fun _ _ _ _ => True) 5 := by
    refine Reg.op_ok2 (fun af => { dst := some 36, op := Op.call { callee := Callee.value (Operand.func 32), args := #[Operand.tmp 35], argTypes := #[67] }, type := 67, pos := "net.go:126", after := af, guard := none }) #[{ on := 4, ground := Ground.data }] (by kernel_rfl) [4] (by kernel_rfl) fun af v W hb hd => ?_
    have d4 : v 4 = (Value.slice AA nn cc) := hd 4 (by decide)
    have e35 := (Reg.gfr_eval (ops := (Reg.opsOf2 Try.f15 10)) (a0 := a0) (v := v) (L := [4]) 35 4 (by kernel_rfl) (by rw [hsz]; omega)).trans d4
    refine ⟨Reg.wanted_none rfl, ?_⟩
    have eF : ∀ f, (Reg.gfr (Reg.opsOf2 Try.f15 10) a0 v [4]).eval (.func f) = .func (.func f) #[] #[] := fun _ => rfl
    generalize Reg.gfr (Reg.opsOf2 Try.f15 10) a0 v [4] = G at e35 eF ⊢
    generalize hρ : G.eval = ρ at e35 eF
    have hρ' : G.eval = ρ := hρ
    refine Reg.go_call 32 #[(Value.slice AA nn cc)] (by rw [hρ']; simp [execOp, go_sem, e35, eF]) ((clip_any AA nn cc hncc hccm W).mono fun e w' he => ?_)
    obtain ⟨rfl, hw_⟩ := he
    subst hw_
    exact ⟨_, rfl, Below.refl _ _, rfl⟩
set_option maxHeartbeats 4000000 in
set_option maxRecDepth 20000 in
theorem ndbl10_h6 :
    Reg.OpOK Try.prog (Reg.opsOf2 Try.f15 10) a0 w0 (ndbl10R gg b2 ss nn cc rn rc B0 AA RA xs ff tt bb) (fun _ _ _ _ => True) 6 := by
    refine Reg.op_ok2 (fun af => { dst := some 37, op := Op.load 74 (Operand.tmp 7), type := 74, pos := "net.go:126", after := af, guard := none }) #[] (by kernel_rfl) [] (by kernel_rfl) fun af v W hb hd => ?_
    have e7 := (Reg.gfr_eval0 (ops := (Reg.opsOf2 Try.f15 10)) (a0 := a0) (v := v) (L := []) 7 (by kernel_rfl)).trans i7
    refine ⟨Reg.wanted_none rfl, ?_⟩
    generalize Reg.gfr (Reg.opsOf2 Try.f15 10) a0 v [] = G at e7 ⊢
    generalize hρ : G.eval = ρ at e7
    have hρ' : G.eval = ρ := hρ
    exact fun K hK => wp_load_row 74 (.tmp 7) rfl ss (by rw [hρ']; exact e7) 74 #[Value.int IntKind.i64 ff, Value.int IntKind.i64 tt, Value.slice RA rn rc, Value.bool bb] (0, 0) _ (M_ss W hb) Try.underlying74 rfl size_fl4 (hK _ _ ⟨Below.refl _ _, rfl⟩)
set_option maxHeartbeats 4000000 in
set_option maxRecDepth 20000 in
theorem ndbl10_h7 :
    Reg.OpOK Try.prog (Reg.opsOf2 Try.f15 10) a0 w0 (ndbl10R gg b2 ss nn cc rn rc B0 AA RA xs ff tt bb) (fun _ _ _ _ => True) 7 := by
    refine Reg.op_ok2 (fun af => { dst := some 38, op := Op.buildSlice 67 1 #[(0, Operand.tmp 37)], type := 67, pos := "net.go:126", after := af, guard := none }) #[{ on := 6, ground := Ground.data }] (by kernel_rfl) [6] (by kernel_rfl) fun af v W hb hd => ?_
    have d6 : v 6 = (Value.agg #[Value.int IntKind.i64 ff, Value.int IntKind.i64 tt, Value.slice RA rn rc, Value.bool bb]) := hd 6 (by decide)
    have e37 := (Reg.gfr_eval (ops := (Reg.opsOf2 Try.f15 10)) (a0 := a0) (v := v) (L := [6]) 37 6 (by kernel_rfl) (by rw [hsz]; omega)).trans d6
    refine ⟨Reg.wanted_none rfl, ?_⟩
    generalize Reg.gfr (Reg.opsOf2 Try.f15 10) a0 v [6] = G at e37 ⊢
    generalize hρ : G.eval = ρ at e37
    have hρ' : G.eval = ρ := hρ
    refine Reg.go_run (Value.slice (some ⟨W.heap.size, 0, none⟩) 1 1) (W.alloc (.cells #[Value.int IntKind.i64 ff, Value.int IntKind.i64 tt, Value.slice RA rn rc, Value.bool bb] 74)) (by rw [hρ']; simp [execOp, go_sem, e37]) ⟨(Below.refl _ _).alloc (Nat.le_refl _) _, ⟨_, rfl, heap_alloc_new _ _⟩⟩
set_option maxHeartbeats 4000000 in
set_option maxRecDepth 20000 in
theorem ndbl10_h8 :
    Reg.OpOK Try.prog (Reg.opsOf2 Try.f15 10) a0 w0 (ndbl10R gg b2 ss nn cc rn rc B0 AA RA xs ff tt bb) (fun _ _ _ _ => True) 8 := by
    refine Reg.op_ok2 (fun af => { dst := some 39, op := Op.call { callee := Callee.builtin Builtin.append, args := #[Operand.tmp 36, Operand.tmp 38], argTypes := #[67, 67] }, type := 67, pos := "net.go:126", after := af, guard := none }) #[{ on := 5, ground := Ground.data }, { on := 7, ground := Ground.data }, { on := 5, ground := Ground.chain }] (by kernel_rfl) [5, 7, 5] (by kernel_rfl) fun af v W hb hd => ?_
    have d5 : v 5 = (Value.slice AA nn nn) := hd 5 (by decide)
    have d7 : ((fun u_ w_ => ∃ b_, u_ = Value.slice (some ⟨b_, 0, none⟩) 1 1 ∧ w_.heap[b_]? = some (.cells #[Value.int IntKind.i64 ff, Value.int IntKind.i64 tt, Value.slice RA rn rc, Value.bool bb] 74 (0, 0)))) (v 7) W := hd 7 (by decide)
    have e36 := (Reg.gfr_eval (ops := (Reg.opsOf2 Try.f15 10)) (a0 := a0) (v := v) (L := [5, 7, 5]) 36 5 (by kernel_rfl) (by rw [hsz]; omega)).trans d5
    have e38 := Reg.gfr_eval (ops := (Reg.opsOf2 Try.f15 10)) (a0 := a0) (v := v) (L := [5, 7, 5]) 38 7 (by kernel_rfl) (by rw [hsz]; omega)
    refine ⟨Reg.wanted_none rfl, ?_⟩
    generalize Reg.gfr (Reg.opsOf2 Try.f15 10) a0 v [5, 7, 5] = G at e36 e38 ⊢
    generalize hρ : G.eval = ρ at e36 e38
    have hρ' : G.eval = ρ := hρ
    obtain ⟨b_, hv_, hc_⟩ := d7
    rw [hv_] at e38
    obtain ⟨v_, w_, hrun_, ho2_, hb2_⟩ := run_app_new (P := Try.prog) elt74 67 W AA nn nn xs hxl (hrow W hb) (fun h => ⟨hA0 h, hA0 h⟩) ⟨b_, 0, none⟩ 1 1 [Value.int IntKind.i64 ff, Value.int IntKind.i64 tt, Value.slice RA rn rc, Value.bool bb] rfl (rd_fl hc_) (by omega) (by unfold maxLen; omega) (by omega)
    rw [appK_hide] at hrun_
    obtain ⟨A2_, c2_, rfl, _⟩ := RdC.of_own ho2_
    refine Reg.go_run _ w_ (by rw [hρ']; simp [execOp, go_sem, e36, e38, ↓appK_hide, hrun_]) ⟨hb2_, ⟨A2_, c2_, rfl, own_mono ho2_ (Nat.le_trans hB0 hb.size)⟩⟩
set_option maxHeartbeats 4000000 in
set_option maxRecDepth 20000 in
theorem ndbl10_h9 :
    Reg.OpOK Try.prog (Reg.opsOf2 Try.f15 10) a0 w0 (ndbl10R gg b2 ss nn cc rn rc B0 AA RA xs ff tt bb) (fun _ _ _ _ => True) 9 := by
    refine Reg.op_ok2 (fun af => { dst := some 40, op := Op.nilCheck (Operand.tmp 31), type := 0, pos := "net.go:126", after := af, guard := none }) #[{ on := 0, ground := Ground.data }, { on := 0, ground := Ground.phase }, { on := 1, ground := Ground.phase }, { on := 2, ground := Ground.phase }, { on := 3, ground := Ground.phase }, { on := 4, ground := Ground.phase }, { on := 5, ground := Ground.phase }, { on := 6, ground := Ground.phase }, { on := 7, ground := Ground.phase }, { on := 8, ground := Ground.phase }] (by kernel_rfl) [0, 0, 1, 2, 3, 4, 5, 6, 7, 8] (by kernel_rfl) fun af v W hb hd => ?_
    have d0 : v 0 = (Value.pointer (some ⟨gg, 0, none⟩)) := hd 0 (by decide)
    have e31 := (Reg.gfr_eval (ops := (Reg.opsOf2 Try.f15 10)) (a0 := a0) (v := v) (L := [0, 0, 1, 2, 3, 4, 5, 6, 7, 8]) 31 0 (by kernel_rfl) (by rw [hsz]; omega)).trans d0
    refine ⟨Reg.wanted_none rfl, ?_⟩
    generalize Reg.gfr (Reg.opsOf2 Try.f15 10) a0 v [0, 0, 1, 2, 3, 4, 5, 6, 7, 8] = G at e31 ⊢
    generalize hρ : G.eval = ρ at e31
    have hρ' : G.eval = ρ := hρ
    refine Reg.go_run (Value.pointer (some ⟨gg, 0, none⟩)) W ?_ ?_
    · rw [hρ']; simp [execOp, go_sem, e31]
    · exact ⟨Below.refl _ _, rfl⟩
set_option maxHeartbeats 4000000 in
set_option maxRecDepth 20000 in
theorem ndbl10_h10 :
    Reg.OpOK Try.prog (Reg.opsOf2 Try.f15 10) a0 w0 (ndbl10R gg b2 ss nn cc rn rc B0 AA RA xs ff tt bb) (fun _ _ _ _ => True) 10 := by
    refine Reg.op_ok2 (fun af => { dst := some 41, op := Op.fieldAddr 70 (Operand.tmp 40) 1, type := 0, pos := "net.go:126", after := af, guard := none }) #[{ on := 9, ground := Ground.data }, { on := 0, ground := Ground.phase }, { on := 1, ground := Ground.phase }, { on := 2, ground := Ground.phase }, { on := 3, ground := Ground.phase }, { on := 4, ground := Ground.phase }, { on := 5, ground := Ground.phase }, { on := 6, ground := Ground.phase }, { on := 7, ground := Ground.phase }, { on := 8, ground := Ground.phase }] (by kernel_rfl) [9, 0, 1, 2, 3, 4, 5, 6, 7, 8] (by kernel_rfl) fun af v W hb hd => ?_
    have d9 : v 9 = (Value.pointer (some ⟨gg, 0, none⟩)) := hd 9 (by decide)
    have e40 := (Reg.gfr_eval (ops := (Reg.opsOf2 Try.f15 10)) (a0 := a0) (v := v) (L := [9, 0, 1, 2, 3, 4, 5, 6, 7, 8]) 40 9 (by kernel_rfl) (by rw [hsz]; omega)).trans d9
    refine ⟨Reg.wanted_none rfl, ?_⟩
    generalize Reg.gfr (Reg.opsOf2 Try.f15 10) a0 v [9, 0, 1, 2, 3, 4, 5, 6, 7, 8] = G at e40 ⊢
    generalize hρ : G.eval = ρ at e40
    have hρ' : G.eval = ρ := hρ
    refine Reg.go_run (Value.pointer (some ⟨gg, 1, none⟩)) W ?_ ?_
    · rw [hρ']; simp [execOp, go_sem, e40]
    · exact ⟨Below.refl _ _, rfl⟩
end
set_option maxHeartbeats 4000000 in
set_option maxRecDepth 20000 in
theorem ndbl10 (gg b2 ss nn cc rn rc B0 : Nat) (AA RA : Option Addr) (xs : List Value) (ff tt : Int) (bb : Bool) (w0 : World) {s0 s1 s3 s4 s5 s6 s8 s9 s10 s11 s12 s13 s14 s15 s16 s17 s18 s19 s20 s21 s22 s23 s24 s25 s26 s27 s28 s29 s30 s31 s32 s33 s34 s35 s36 s37 s38 s39 s40 s41 : Value}
    (hB0 : B0 ≤ w0.heap.size) (hxl : xs.length = nn * 4) (hnn : nn ≤ 10000) (hncc : nn ≤ cc) (hccm : cc ≤ maxLen) (hA0 : AA = none → nn = 0)
    (hrow : ∀ W, Below w0.heap.size w0 W → RdC W AA xs)
    (M_ss : ∀ W, Below w0.heap.size w0 W → W.heap[ss]? = some (.cells #[Value.int IntKind.i64 ff, Value.int IntKind.i64 tt, Value.slice RA rn rc, Value.bool bb] 74 (0, 0)))
    (CN : ∀ W, Below w0.heap.size w0 W → W.cell? ⟨gg, 1, none⟩ = some (Value.slice AA nn cc))
    (CB : ∀ W, Below w0.heap.size w0 W → W.cell? ⟨b2, 0, none⟩ = some (Value.pointer (some ⟨gg, 0, none⟩)))
    {lr nr : Nat} {Q : Exit → Act → World → Prop} (hQ : ¬ LetsOut Q)
    (FRO : ∀ W, Below w0.heap.size w0 W → W.frozen? ⟨gg, 1, none⟩ = false)
    (hend : ∀ (w : World) (r38 : Value) (A2_ : Option Addr) (c2_ : Nat), Below w0.heap.size w0 w → (w.ownsRow B0 74 4 (Value.slice A2_ (nn + 1) c2_) (nn + 1) (xs ++ [Value.int IntKind.i64 ff, Value.int IntKind.i64 tt, Value.slice RA rn rc, Value.bool bb])) → Q .normal { tmps := #[s0, s1, (Value.pointer (some ⟨b2, 0, none⟩)), s3, s4, s5, s6, (Value.pointer (some ⟨ss, 0, none⟩)), s8, s9, s10, s11, s12, s13, s14, s15, s16, s17, s18, s19, s20, s21, s22, s23, s24, s25, s26, s27, s28, s29, s30, (Value.pointer (some ⟨gg, 0, none⟩)), (Value.pointer (some ⟨gg, 0, none⟩)), (Value.pointer (some ⟨gg, 0, none⟩)), (Value.pointer (some ⟨gg, 1, none⟩)), (Value.slice AA nn cc), (Value.slice AA nn nn), (Value.agg #[Value.int IntKind.i64 ff, Value.int IntKind.i64 tt, Value.slice RA rn rc, Value.bool bb]), r38, (Value.slice A2_ (nn + 1) c2_), (Value.pointer (some ⟨gg, 0, none⟩)), (Value.pointer (some ⟨gg, 1, none⟩))], defers := [] } (w.setCell ⟨gg, 1, none⟩ (Value.slice A2_ (nn + 1) c2_))) :
    (Code.region 10 (Reg.opsOf2 Try.f15 10) true).wpIn (Fence.wide.inRound lr) nr Try.prog Q { tmps := #[s0, s1, (Value.pointer (some ⟨b2, 0, none⟩)), s3, s4, s5, s6, (Value.pointer (some ⟨ss, 0, none⟩)), s8, s9, s10, s11, s12, s13, s14, s15, s16, s17, s18, s19, s20, s21, s22, s23, s24, s25, s26, s27, s28, s29, s30, s31, s32, s33, s34, s35, s36, s37, s38, s39, s40, s41], defers := [] } w0 := by
  obtain ⟨a0, ha0⟩ : ∃ a0 : Act, a0 = { tmps := #[s0, s1, (Value.pointer (some ⟨b2, 0, none⟩)), s3, s4, s5, s6, (Value.pointer (some ⟨ss, 0, none⟩)), s8, s9, s10, s11, s12, s13, s14, s15, s16, s17, s18, s19, s20, s21, s22, s23, s24, s25, s26, s27, s28, s29, s30, s31, s32, s33, s34, s35, s36, s37, s38, s39, s40, s41], defers := [] } := ⟨_, rfl⟩
  have hfin : ∀ v : Nat → Value, Reg.gfr (Reg.opsOf2 Try.f15 10) a0 v [0, 1, 2, 3, 4, 5, 6, 7, 8, 9, 10] = { tmps := #[s0, s1, (Value.pointer (some ⟨b2, 0, none⟩)), s3, s4, s5, s6, (Value.pointer (some ⟨ss, 0, none⟩)), s8, s9, s10, s11, s12, s13, s14, s15, s16, s17, s18, s19, s20, s21, s22, s23, s24, s25, s26, s27, s28, s29, s30, v 0, v 1, v 2, v 3, v 4, v 5, v 6, v 7, v 8, v 9, v 10], defers := [] } := fun v => by rw [ha0]; kernel_rfl
  rw [← ha0]
  have i2 : a0.eval (.tmp 2) = (Value.pointer (some ⟨b2, 0, none⟩)) := by rw [ha0]; rfl
  have i7 : a0.eval (.tmp 7) = (Value.pointer (some ⟨ss, 0, none⟩)) := by rw [ha0]; rfl
  have hsz : a0.tmps.size = 42 := by rw [ha0]; rfl
  clear ha0
  have hn : (Reg.opsOf2 Try.f15 10).size = 12 := by kernel_rfl
  have h0 := ndbl10_h0 gg b2 ss nn cc rn rc B0 AA RA xs ff tt bb w0 a0 hB0 hxl hnn hncc hccm hA0 hrow M_ss CN CB i2 i7 hsz
  have h1 := ndbl10_h1 gg b2 ss nn cc rn rc B0 AA RA xs ff tt bb w0 a0 hB0 hxl hnn hncc hccm hA0 hrow M_ss CN CB i2 i7 hsz
  have h2 := ndbl10_h2 gg b2 ss nn cc rn rc B0 AA RA xs ff tt bb w0 a0 hB0 hxl hnn hncc hccm hA0 hrow M_ss CN CB i2 i7 hsz
  have h3 := ndbl10_h3 gg b2 ss nn cc rn rc B0 AA RA xs ff tt bb w0 a0 hB0 hxl hnn hncc hccm hA0 hrow M_ss CN CB i2 i7 hsz
  have h4 := ndbl10_h4 gg b2 ss nn cc rn rc B0 AA RA xs ff tt bb w0 a0 hB0 hxl hnn hncc hccm hA0 hrow M_ss CN CB i2 i7 hsz
  have h5 := ndbl10_h5 gg b2 ss nn cc rn rc B0 AA RA xs ff tt bb w0 a0 hB0 hxl hnn hncc hccm hA0 hrow M_ss CN CB i2 i7 hsz
  have h6 := ndbl10_h6 gg b2 ss nn cc rn rc B0 AA RA xs ff tt bb w0 a0 hB0 hxl hnn hncc hccm hA0 hrow M_ss CN CB i2 i7 hsz
  have h7 := ndbl10_h7 gg b2 ss nn cc rn rc B0 AA RA xs ff tt bb w0 a0 hB0 hxl hnn hncc hccm hA0 hrow M_ss CN CB i2 i7 hsz
  have h8 := ndbl10_h8 gg b2 ss nn cc rn rc B0 AA RA xs ff tt bb w0 a0 hB0 hxl hnn hncc hccm hA0 hrow M_ss CN CB i2 i7 hsz
  have h9 := ndbl10_h9 gg b2 ss nn cc rn rc B0 AA RA xs ff tt bb w0 a0 hB0 hxl hnn hncc hccm hA0 hrow M_ss CN CB i2 i7 hsz
  have h10 := ndbl10_h10 gg b2 ss nn cc rn rc B0 AA RA xs ff tt bb w0 a0 hB0 hxl hnn hncc hccm hA0 hrow M_ss CN CB i2 i7 hsz
  refine Reg.region_rel_in (Reg.noDefer_spec (by kernel_rfl)) hQ (by kernel_rfl) [0, 1, 2, 3, 4, 5, 6, 7, 8, 9, 10] (ndbl10R gg b2 ss nn cc rn rc B0 AA RA xs ff tt bb) (fun _ _ _ _ => True) (by rw [hsz]; kernel_rfl) (ndbl10_stable gg b2 ss nn cc rn rc B0 AA RA xs ff tt bb) (fun i hi => ?_) (fun v w hb hR hD fuel hf => ?_)
  · simp only [List.mem_cons, List.not_mem_nil, or_false] at hi
    rcases hi with rfl | rfl | rfl | rfl | rfl | rfl | rfl | rfl | rfl | rfl | rfl
    · exact h0
    · exact h1
    · exact h2
    · exact h3
    · exact h4
    · exact h5
    · exact h6
    · exact h7
    · exact h8
    · exact h9
    · exact h10
  · obtain ⟨A2_, c2_, hv8, hf8⟩ := hR 8 (by decide)
    refine Reg.tail_one 11 (fun af => { dst := none, op := Op.store 67 (Operand.tmp 41) (Operand.tmp 39), type := 0, pos := "net.go:126", after := af, guard := none }) #[{ on := 10, ground := Ground.data }, { on := 8, ground := Ground.data }, { on := 8, ground := Ground.chain }, { on := 0, ground := Ground.phase }, { on := 1, ground := Ground.phase }, { on := 2, ground := Ground.phase }, { on := 3, ground := Ground.phase }, { on := 4, ground := Ground.phase }, { on := 5, ground := Ground.phase }, { on := 6, ground := Ground.phase }, { on := 7, ground := Ground.phase }, { on := 8, ground := Ground.phase }] (by kernel_rfl) (fun _ => rfl) (by decide) (by rw [hn]; decide) (by rw [hn]; decide) (by decide) (fun a' w' => a' = Reg.gfr (Reg.opsOf2 Try.f15 10) a0 v [0, 1, 2, 3, 4, 5, 6, 7, 8, 9, 10] ∧ w' = w.setCell ⟨gg, 1, none⟩ (Value.slice A2_ (nn + 1) c2_)) (fun af K hK => ?_) ?_ fuel hf
    · have v10 : v 10 = (Value.pointer (some ⟨gg, 1, none⟩)) := hR 10 (by decide)
      have e41 := (Reg.gfr_eval (ops := (Reg.opsOf2 Try.f15 10)) (a0 := a0) (v := v) (L := [0, 1, 2, 3, 4, 5, 6, 7, 8, 9, 10]) 41 10 (by kernel_rfl) (by rw [hsz]; omega)).trans v10
      have v8 := hv8
      have e39 := (Reg.gfr_eval (ops := (Reg.opsOf2 Try.f15 10)) (a0 := a0) (v := v) (L := [0, 1, 2, 3, 4, 5, 6, 7, 8, 9, 10]) 39 8 (by kernel_rfl) (by rw [hsz]; omega)).trans v8
      have hp := hK _ _ ⟨rfl, rfl⟩
      have c1 := CN w hb
      have c2 := FRO w hb
      generalize Reg.gfr (Reg.opsOf2 Try.f15 10) a0 v [0, 1, 2, 3, 4, 5, 6, 7, 8, 9, 10] = G at hp e41 e39 ⊢
      exact wp_store_slc 67 (Operand.tmp 41) (Operand.tmp 39) rfl _ e41 _ _ _ e39 _ c1 c2 (by kernel_rfl) rfl hp
    · rintro a' w' ⟨rfl, rfl⟩
      have v0 : v 0 = (Value.pointer (some ⟨gg, 0, none⟩)) := hR 0 (by decide)
      have v1 : v 1 = (Value.pointer (some ⟨gg, 0, none⟩)) := hR 1 (by decide)
      have v2 : v 2 = (Value.pointer (some ⟨gg, 0, none⟩)) := hR 2 (by decide)
      have v3 : v 3 = (Value.pointer (some ⟨gg, 1, none⟩)) := hR 3 (by decide)
      have v4 : v 4 = (Value.slice AA nn cc) := hR 4 (by decide)
      have v5 : v 5 = (Value.slice AA nn nn) := hR 5 (by decide)
      have v6 : v 6 = (Value.agg #[Value.int IntKind.i64 ff, Value.int IntKind.i64 tt, Value.slice RA rn rc, Value.bool bb]) := hR 6 (by decide)
      have v9 : v 9 = (Value.pointer (some ⟨gg, 0, none⟩)) := hR 9 (by decide)
      have v10 : v 10 = (Value.pointer (some ⟨gg, 1, none⟩)) := hR 10 (by decide)
      rw [hfin v, v0, v1, v2, v3, v4, v5, v6, v9, v10, hv8]
      exact hend w (v 7) A2_ c2_ hb hf8
end Go.Proofs.Ytfojlmnlolnilaa
