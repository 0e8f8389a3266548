/- Regions that draw their order: their obligations (printed by regen2.py). -/
import Derived.Test.YtfojlmnlolnilaaNetKp
import Derived.Test.YtfojlmnlolnilaaApp3
import Derived.Test.YtfojlmnlolnilaaRegE
import Derived.Test.YtfojlmnlolnilaaRegT
import Derived.Test.YtfojlmnlolnilaaRegIn
namespace Go.Proofs.Ytfojlmnlolnilaa
open Go.RowKit
set_option linter.unusedVariables false
set_option linter.unusedSimpArgs false
set_option linter.unusedSectionVars false
def ncopy6R (gc bb3 b5 nn cc rn rc B0 : Nat) (AA RA : Option Addr) (xs : List Value) (ff tt : Int) (bb : Bool) : Nat → Value → World → Prop
  | 0 => fun x_ _ => x_ = (Value.pointer (some ⟨gc, 0, none⟩))
  | 1 => fun x_ _ => x_ = (Value.pointer (some ⟨gc, 0, none⟩))
  | 2 => fun x_ _ => x_ = (Value.pointer (some ⟨gc, 0, none⟩))
  | 3 => fun x_ _ => x_ = (Value.pointer (some ⟨gc, 1, none⟩))
  | 4 => fun x_ _ => x_ = (Value.slice AA nn cc)
  | 5 => fun x_ _ => x_ = (Value.agg #[Value.int IntKind.i64 ff, Value.int IntKind.i64 tt, Value.slice RA rn rc, Value.bool bb])
  | 6 => (fun u_ w_ => ∃ b_, u_ = Value.slice (some ⟨b_, 0, none⟩) 1 1 ∧ w_.heap[b_]? = some (.cells #[Value.int IntKind.i64 ff, Value.int IntKind.i64 tt, Value.slice RA rn rc, Value.bool bb] 74 (0, 0)))
  | 7 => (fun u_ w_ => ∃ A2_ c2_, u_ = Value.slice A2_ (nn + 1) c2_ ∧ w_.ownsRow B0 74 4 (Value.slice A2_ (nn + 1) c2_) (nn + 1) (xs ++ [Value.int IntKind.i64 ff, Value.int IntKind.i64 tt, Value.slice RA rn rc, Value.bool bb]))
  | 8 => fun x_ _ => x_ = (Value.pointer (some ⟨gc, 0, none⟩))
  | 9 => fun x_ _ => x_ = (Value.pointer (some ⟨gc, 1, none⟩))
  | _ => fun _ _ => True
theorem ncopy6_stable (gc bb3 b5 nn cc rn rc B0 : Nat) (AA RA : Option Addr) (xs : List Value) (ff tt : Int) (bb : Bool) : ∀ i_ u_ w_ w_', (ncopy6R gc bb3 b5 nn cc rn rc B0 AA RA xs ff tt bb) i_ u_ w_ → Below w_.heap.size w_ w_' → (ncopy6R gc bb3 b5 nn cc rn rc B0 AA RA xs ff tt bb) i_ u_ w_' := fun i_ u_ w_ w_' h_ hb_ => by
  match i_, h_ with
  | 0, h_ => exact h_
  | 1, h_ => exact h_
  | 2, h_ => exact h_
  | 3, h_ => exact h_
  | 4, h_ => exact h_
  | 5, h_ => exact h_
  | 6, h_ => exact ((by obtain ⟨b_, h1_, h2_⟩ := h_; exact ⟨b_, h1_, (hb_.block _ (lt_get h2_)).trans h2_⟩))
  | 7, h_ => exact ((by obtain ⟨A2_, c2_, h0_, h1_⟩ := h_; exact ⟨A2_, c2_, h0_, own_below h1_ hb_⟩))
  | 8, h_ => exact h_
  | 9, h_ => exact h_
  | 10, h_ => exact h_
  | (_ + 11), _ => trivial
section
variable (gc bb3 b5 nn cc rn rc B0 : Nat) (AA RA : Option Addr) (xs : List Value) (ff tt : Int) (bb : Bool) (w0 : World) (a0 : Act) (S : World → Prop)
variable (hSb : ∀ w w', S w → Below w.heap.size w w' → S w')
variable (hnn : nn ≤ 10000)
variable (hBs : ∀ W, S W → B0 ≤ W.heap.size)
variable (hown : ∀ W, S W → W.ownsRow B0 74 4 (.slice AA nn cc) nn xs)
variable (hSg : ∀ W W', S W → W.grownBy W' (Value.slice AA nn cc).ownBlock → W'.ownsRow B0 74 4 (.slice AA nn cc) nn xs → S W')
variable (M_b5 : ∀ W, S W → W.heap[b5]? = some (.cells #[Value.int IntKind.i64 ff, Value.int IntKind.i64 tt, Value.slice RA rn rc, Value.bool bb] 74 (0, 0)))
variable (CB : ∀ W, S W → W.cell? ⟨bb3, 0, none⟩ = some (Value.pointer (some ⟨gc, 0, none⟩)))
variable (CN : ∀ W, S W → W.cell? ⟨gc, 1, none⟩ = some (Value.slice AA nn cc))
variable (i3 : a0.eval (.tmp 3) = (Value.pointer (some ⟨bb3, 0, none⟩))) (i5 : a0.eval (.tmp 5) = (Value.pointer (some ⟨b5, 0, none⟩))) (hsz : a0.tmps.size = 33)
include gc bb3 b5 nn cc rn rc B0 AA RA xs ff tt bb w0 a0 S hSb hnn hBs hown hSg M_b5 CB CN i3 i5 hsz
set_option maxHeartbeats 4000000 in
set_option maxRecDepth 20000 in
theorem ncopy6_h0 :
    RegE.OpOK Try.prog (Reg.opsOf2 Try.f24 6) a0 S (fun i_ => if i_ = 6 then some 7 else none) (ncopy6R gc bb3 b5 nn cc rn rc B0 AA RA xs ff tt bb) (fun _ _ _ _ => True) 0 := by
    refine RegE.op_okS (ncopy6_stable gc bb3 b5 nn cc rn rc B0 AA RA xs ff tt bb) hSb (fun _ _ _ => ⟨trivial, trivial⟩) (fun af => { dst := some 22, op := Op.load 30 (Operand.tmp 3), type := 30, pos := "net.go:190", after := af, guard := none }) #[] (by kernel_rfl) [] (by kernel_rfl) fun af v W hb hd => ?_
    have e3 := (Reg.gfr_eval0 (ops := (Reg.opsOf2 Try.f24 6)) (a0 := a0) (v := v) (L := []) 3 (by kernel_rfl)).trans i3
    refine ⟨Reg.wanted_none rfl, ?_⟩
    generalize Reg.gfr (Reg.opsOf2 Try.f24 6) a0 v [] = G at e3 ⊢
    generalize hρ : G.eval = ρ at e3
    have hρ' : G.eval = ρ := hρ
    refine Reg.go_run (Value.pointer (some ⟨gc, 0, none⟩)) W ?_ ?_
    · rw [hρ']; simp [execOp, go_sem, e3, CB W hb]
    · exact ⟨Below.refl _ _, rfl⟩
set_option maxHeartbeats 4000000 in
set_option maxRecDepth 20000 in
theorem ncopy6_h1 :
    RegE.OpOK Try.prog (Reg.opsOf2 Try.f24 6) a0 S (fun i_ => if i_ = 6 then some 7 else none) (ncopy6R gc bb3 b5 nn cc rn rc B0 AA RA xs ff tt bb) (fun _ _ _ _ => True) 1 := by
    refine RegE.op_okS (ncopy6_stable gc bb3 b5 nn cc rn rc B0 AA RA xs ff tt bb) hSb (fun _ _ _ => ⟨trivial, trivial⟩) (fun af => { dst := some 23, op := Op.load 30 (Operand.tmp 3), type := 30, pos := "net.go:190", after := af, guard := none }) #[] (by kernel_rfl) [] (by kernel_rfl) fun af v W hb hd => ?_
    have e3 := (Reg.gfr_eval0 (ops := (Reg.opsOf2 Try.f24 6)) (a0 := a0) (v := v) (L := []) 3 (by kernel_rfl)).trans i3
    refine ⟨Reg.wanted_none rfl, ?_⟩
    generalize Reg.gfr (Reg.opsOf2 Try.f24 6) a0 v [] = G at e3 ⊢
    generalize hρ : G.eval = ρ at e3
    have hρ' : G.eval = ρ := hρ
    refine Reg.go_run (Value.pointer (some ⟨gc, 0, none⟩)) W ?_ ?_
    · rw [hρ']; simp [execOp, go_sem, e3, CB W hb]
    · exact ⟨Below.refl _ _, rfl⟩
set_option maxHeartbeats 4000000 in
set_option maxRecDepth 20000 in
theorem ncopy6_h2 :
    RegE.OpOK Try.prog (Reg.opsOf2 Try.f24 6) a0 S (fun i_ => if i_ = 6 then some 7 else none) (ncopy6R gc bb3 b5 nn cc rn rc B0 AA RA xs ff tt bb) (fun _ _ _ _ => True) 2 := by
    refine RegE.op_okS (ncopy6_stable gc bb3 b5 nn cc rn rc B0 AA RA xs ff tt bb) hSb (fun _ _ _ => ⟨trivial, trivial⟩) (fun af => { dst := some 24, op := Op.nilCheck (Operand.tmp 23), type := 0, pos := "net.go:190", after := af, guard := none }) #[{ on := 1, ground := Ground.data }] (by kernel_rfl) [1] (by kernel_rfl) fun af v W hb hd => ?_
    have d1 : v 1 = (Value.pointer (some ⟨gc, 0, none⟩)) := hd 1 (by decide) (by decide)
    have e23 := (Reg.gfr_eval (ops := (Reg.opsOf2 Try.f24 6)) (a0 := a0) (v := v) (L := [1]) 23 1 (by kernel_rfl) (by rw [hsz]; omega)).trans d1
    refine ⟨Reg.wanted_none rfl, ?_⟩
    generalize Reg.gfr (Reg.opsOf2 Try.f24 6) a0 v [1] = G at e23 ⊢
    generalize hρ : G.eval = ρ at e23
    have hρ' : G.eval = ρ := hρ
    refine Reg.go_run (Value.pointer (some ⟨gc, 0, none⟩)) W ?_ ?_
    · rw [hρ']; simp [execOp, go_sem, e23]
    · exact ⟨Below.refl _ _, rfl⟩
set_option maxHeartbeats 4000000 in
set_option maxRecDepth 20000 in
theorem ncopy6_h3 :
    RegE.OpOK Try.prog (Reg.opsOf2 Try.f24 6) a0 S (fun i_ => if i_ = 6 then some 7 else none) (ncopy6R gc bb3 b5 nn cc rn rc B0 AA RA xs ff tt bb) (fun _ _ _ _ => True) 3 := by
    refine RegE.op_okS (ncopy6_stable gc bb3 b5 nn cc rn rc B0 AA RA xs ff tt bb) hSb (fun _ _ _ => ⟨trivial, trivial⟩) (fun af => { dst := some 25, op := Op.fieldAddr 70 (Operand.tmp 24) 1, type := 0, pos := "net.go:190", after := af, guard := none }) #[{ on := 2, ground := Ground.data }] (by kernel_rfl) [2] (by kernel_rfl) fun af v W hb hd => ?_
    have d2 : v 2 = (Value.pointer (some ⟨gc, 0, none⟩)) := hd 2 (by decide) (by decide)
    have e24 := (Reg.gfr_eval (ops := (Reg.opsOf2 Try.f24 6)) (a0 := a0) (v := v) (L := [2]) 24 2 (by kernel_rfl) (by rw [hsz]; omega)).trans d2
    refine ⟨Reg.wanted_none rfl, ?_⟩
    generalize Reg.gfr (Reg.opsOf2 Try.f24 6) a0 v [2] = G at e24 ⊢
    generalize hρ : G.eval = ρ at e24
    have hρ' : G.eval = ρ := hρ
    refine Reg.go_run (Value.pointer (some ⟨gc, 1, none⟩)) W ?_ ?_
    · rw [hρ']; simp [execOp, go_sem, e24]
    · exact ⟨Below.refl _ _, rfl⟩
set_option maxHeartbeats 4000000 in
set_option maxRecDepth 20000 in
theorem ncopy6_h4 :
    RegE.OpOK Try.prog (Reg.opsOf2 Try.f24 6) a0 S (fun i_ => if i_ = 6 then some 7 else none) (ncopy6R gc bb3 b5 nn cc rn rc B0 AA RA xs ff tt bb) (fun _ _ _ _ => True) 4 := by
    refine RegE.op_okS (ncopy6_stable gc bb3 b5 nn cc rn rc B0 AA RA xs ff tt bb) hSb (fun _ _ _ => ⟨trivial, trivial⟩) (fun af => { dst := some 26, op := Op.load 67 (Operand.tmp 25), type := 67, pos := "net.go:190", after := af, guard := none }) #[{ on := 3, ground := Ground.data }] (by kernel_rfl) [3] (by kernel_rfl) fun af v W hb hd => ?_
    have d3 : v 3 = (Value.pointer (some ⟨gc, 1, none⟩)) := hd 3 (by decide) (by decide)
    have e25 := (Reg.gfr_eval (ops := (Reg.opsOf2 Try.f24 6)) (a0 := a0) (v := v) (L := [3]) 25 3 (by kernel_rfl) (by rw [hsz]; omega)).trans d3
    refine ⟨Reg.wanted_none rfl, ?_⟩
    generalize Reg.gfr (Reg.opsOf2 Try.f24 6) a0 v [3] = G at e25 ⊢
    generalize hρ : G.eval = ρ at e25
    have hρ' : G.eval = ρ := hρ
    refine Reg.go_run (Value.slice AA nn cc) W ?_ ?_
    · rw [hρ']; simp [execOp, go_sem, e25, CN W hb]
    · exact ⟨Below.refl _ _, rfl⟩
set_option maxHeartbeats 4000000 in
set_option maxRecDepth 20000 in
theorem ncopy6_h5 :
    RegE.OpOK Try.prog (Reg.opsOf2 Try.f24 6) a0 S (fun i_ => if i_ = 6 then some 7 else none) (ncopy6R gc bb3 b5 nn cc rn rc B0 AA RA xs ff tt bb) (fun _ _ _ _ => True) 5 := by
    refine RegE.op_okS (ncopy6_stable gc bb3 b5 nn cc rn rc B0 AA RA xs ff tt bb) hSb (fun _ _ _ => ⟨trivial, trivial⟩) (fun af => { dst := some 27, op := Op.load 74 (Operand.tmp 5), type := 74, pos := "net.go:190", after := af, guard := none }) #[] (by kernel_rfl) [] (by kernel_rfl) fun af v W hb hd => ?_
    have e5 := (Reg.gfr_eval0 (ops := (Reg.opsOf2 Try.f24 6)) (a0 := a0) (v := v) (L := []) 5 (by kernel_rfl)).trans i5
    refine ⟨Reg.wanted_none rfl, ?_⟩
    generalize Reg.gfr (Reg.opsOf2 Try.f24 6) a0 v [] = G at e5 ⊢
    generalize hρ : G.eval = ρ at e5
    have hρ' : G.eval = ρ := hρ
    exact fun K hK => wp_load_row 74 (.tmp 5) rfl b5 (by rw [hρ']; exact e5) 74 #[Value.int IntKind.i64 ff, Value.int IntKind.i64 tt, Value.slice RA rn rc, Value.bool bb] (0, 0) _ (M_b5 W hb) Try.underlying74 rfl size_fl4 (hK _ _ ⟨Below.refl _ _, rfl⟩)
set_option maxHeartbeats 4000000 in
set_option maxRecDepth 20000 in
theorem ncopy6_h6 :
    RegE.OpOK Try.prog (Reg.opsOf2 Try.f24 6) a0 S (fun i_ => if i_ = 6 then some 7 else none) (ncopy6R gc bb3 b5 nn cc rn rc B0 AA RA xs ff tt bb) (fun _ _ _ _ => True) 6 := by
    refine RegE.op_okS (ncopy6_stable gc bb3 b5 nn cc rn rc B0 AA RA xs ff tt bb) hSb (fun _ _ _ => ⟨trivial, trivial⟩) (fun af => { dst := some 28, op := Op.buildSlice 67 1 #[(0, Operand.tmp 27)], type := 67, pos := "net.go:190", after := af, guard := none }) #[{ on := 5, ground := Ground.data }] (by kernel_rfl) [5] (by kernel_rfl) fun af v W hb hd => ?_
    have d5 : v 5 = (Value.agg #[Value.int IntKind.i64 ff, Value.int IntKind.i64 tt, Value.slice RA rn rc, Value.bool bb]) := hd 5 (by decide) (by decide)
    have e27 := (Reg.gfr_eval (ops := (Reg.opsOf2 Try.f24 6)) (a0 := a0) (v := v) (L := [5]) 27 5 (by kernel_rfl) (by rw [hsz]; omega)).trans d5
    refine ⟨Reg.wanted_none rfl, ?_⟩
    generalize Reg.gfr (Reg.opsOf2 Try.f24 6) a0 v [5] = G at e27 ⊢
    generalize hρ : G.eval = ρ at e27
    have hρ' : G.eval = ρ := hρ
    refine Reg.go_run (Value.slice (some ⟨W.heap.size, 0, none⟩) 1 1) (W.alloc (.cells #[Value.int IntKind.i64 ff, Value.int IntKind.i64 tt, Value.slice RA rn rc, Value.bool bb] 74)) (by rw [hρ']; simp [execOp, go_sem, e27]) ⟨(Below.refl _ _).alloc (Nat.le_refl _) _, ⟨_, rfl, heap_alloc_new _ _⟩⟩
set_option maxHeartbeats 4000000 in
set_option maxRecDepth 20000 in
theorem ncopy6_h7 :
    RegE.OpOK Try.prog (Reg.opsOf2 Try.f24 6) a0 S (fun i_ => if i_ = 6 then some 7 else none) (ncopy6R gc bb3 b5 nn cc rn rc B0 AA RA xs ff tt bb) (fun _ _ _ _ => True) 7 := by
    refine RegE.op_ok2 (fun af => { dst := some 29, op := Op.call { callee := Callee.builtin Builtin.append, args := #[Operand.tmp 26, Operand.tmp 28], argTypes := #[67, 67] }, type := 67, pos := "net.go:190", after := af, guard := none }) #[{ on := 4, ground := Ground.data }, { on := 6, ground := Ground.data }] (by kernel_rfl) [4, 6] (by kernel_rfl) fun af v W hb hd => ?_
    have d4 : v 4 = (Value.slice AA nn cc) := hd 4 (by decide) (by decide)
    have d6 : ((fun u_ w_ => ∃ b_, u_ = Value.slice (some ⟨b_, 0, none⟩) 1 1 ∧ w_.heap[b_]? = some (.cells #[Value.int IntKind.i64 ff, Value.int IntKind.i64 tt, Value.slice RA rn rc, Value.bool bb] 74 (0, 0)))) (v 6) W := hd 6 (by decide) (by decide)
    have e26 := (Reg.gfr_eval (ops := (Reg.opsOf2 Try.f24 6)) (a0 := a0) (v := v) (L := [4, 6]) 26 4 (by kernel_rfl) (by rw [hsz]; omega)).trans d4
    have e28 := Reg.gfr_eval (ops := (Reg.opsOf2 Try.f24 6)) (a0 := a0) (v := v) (L := [4, 6]) 28 6 (by kernel_rfl) (by rw [hsz]; omega)
    refine ⟨Reg.wanted_none rfl, ?_⟩
    generalize Reg.gfr (Reg.opsOf2 Try.f24 6) a0 v [4, 6] = G at e26 e28 ⊢
    generalize hρ : G.eval = ρ at e26 e28
    have hρ' : G.eval = ρ := hρ
    obtain ⟨b_, hv_, hc_⟩ := d6
    rw [hv_] at e28
    obtain ⟨v_, w_, hrun_, ho2_, hg2_, hold_⟩ := run_app3 (P := Try.prog) elt74 67 W B0 (.slice AA nn cc) nn xs (hown W hb) ⟨b_, 0, none⟩ 1 1 [Value.int IntKind.i64 ff, Value.int IntKind.i64 tt, Value.slice RA rn rc, Value.bool bb] (by omega) rfl (rd_fl hc_) (by simp [Value.oneCell']) (by unfold maxLen; omega) (by omega) (hBs W hb)
    rw [appK_hide] at hrun_
    obtain ⟨A2_, c2_, rfl, _⟩ := RdC.of_own ho2_
    refine Reg.go_run _ w_ (by rw [hρ']; simp [execOp, go_sem, e26, e28, ↓appK_hide, hrun_]) ⟨hSg W w_ hb hg2_ hold_, ⟨A2_, c2_, rfl, ho2_⟩, ?_⟩
    refine fun j_ x_ hj_ hg_ hx_ _ => ?_
    match j_, hj_, hg_, hx_ with
    | 0, _, _, hx_ => exact ⟨hx_, trivial, trivial⟩
    | 1, _, _, hx_ => exact ⟨hx_, trivial, trivial⟩
    | 2, _, _, hx_ => exact ⟨hx_, trivial, trivial⟩
    | 3, _, _, hx_ => exact ⟨hx_, trivial, trivial⟩
    | 4, _, _, hx_ => exact ⟨hx_, trivial, trivial⟩
    | 5, _, _, hx_ => exact ⟨hx_, trivial, trivial⟩
    | 6, _, hg_, _ => exact absurd hg_ (by rw [show RegC.gone (Reg.opsOf2 Try.f24 6) (fun i_ => if i_ = 6 then some 7 else none) 7 6 = true by kernel_rfl]; decide)
    | 7, hj_, _, _ => exact absurd rfl hj_
    | 8, _, _, hx_ => exact ⟨hx_, trivial, trivial⟩
    | 9, _, _, hx_ => exact ⟨hx_, trivial, trivial⟩
    | 10, _, _, hx_ => exact ⟨hx_, trivial, trivial⟩
    | (j_ + 11), _, _, _ => exact ⟨trivial, trivial, trivial⟩
set_option maxHeartbeats 4000000 in
set_option maxRecDepth 20000 in
theorem ncopy6_h8 :
    RegE.OpOK Try.prog (Reg.opsOf2 Try.f24 6) a0 S (fun i_ => if i_ = 6 then some 7 else none) (ncopy6R gc bb3 b5 nn cc rn rc B0 AA RA xs ff tt bb) (fun _ _ _ _ => True) 8 := by
    refine RegE.op_okS (ncopy6_stable gc bb3 b5 nn cc rn rc B0 AA RA xs ff tt bb) hSb (fun _ _ _ => ⟨trivial, trivial⟩) (fun af => { dst := some 30, op := Op.nilCheck (Operand.tmp 22), type := 0, pos := "net.go:190", after := af, guard := none }) #[{ on := 0, ground := Ground.data }, { on := 0, ground := Ground.phase }, { on := 1, ground := Ground.phase }, { on := 2, ground := Ground.phase }, { on := 3, ground := Ground.phase }, { on := 4, ground := Ground.phase }, { on := 5, ground := Ground.phase }, { on := 6, ground := Ground.phase }, { on := 7, ground := Ground.phase }] (by kernel_rfl) [0, 0, 1, 2, 3, 4, 5, 6, 7] (by kernel_rfl) fun af v W hb hd => ?_
    have d0 : v 0 = (Value.pointer (some ⟨gc, 0, none⟩)) := hd 0 (by decide) (by decide)
    have e22 := (Reg.gfr_eval (ops := (Reg.opsOf2 Try.f24 6)) (a0 := a0) (v := v) (L := [0, 0, 1, 2, 3, 4, 5, 6, 7]) 22 0 (by kernel_rfl) (by rw [hsz]; omega)).trans d0
    refine ⟨Reg.wanted_none rfl, ?_⟩
    generalize Reg.gfr (Reg.opsOf2 Try.f24 6) a0 v [0, 0, 1, 2, 3, 4, 5, 6, 7] = G at e22 ⊢
    generalize hρ : G.eval = ρ at e22
    have hρ' : G.eval = ρ := hρ
    refine Reg.go_run (Value.pointer (some ⟨gc, 0, none⟩)) W ?_ ?_
    · rw [hρ']; simp [execOp, go_sem, e22]
    · exact ⟨Below.refl _ _, rfl⟩
set_option maxHeartbeats 4000000 in
set_option maxRecDepth 20000 in
theorem ncopy6_h9 :
    RegE.OpOK Try.prog (Reg.opsOf2 Try.f24 6) a0 S (fun i_ => if i_ = 6 then some 7 else none) (ncopy6R gc bb3 b5 nn cc rn rc B0 AA RA xs ff tt bb) (fun _ _ _ _ => True) 9 := by
    refine RegE.op_okS (ncopy6_stable gc bb3 b5 nn cc rn rc B0 AA RA xs ff tt bb) hSb (fun _ _ _ => ⟨trivial, trivial⟩) (fun af => { dst := some 31, op := Op.fieldAddr 70 (Operand.tmp 30) 1, type := 0, pos := "net.go:190", after := af, guard := none }) #[{ on := 8, ground := Ground.data }, { on := 0, ground := Ground.phase }, { on := 1, ground := Ground.phase }, { on := 2, ground := Ground.phase }, { on := 3, ground := Ground.phase }, { on := 4, ground := Ground.phase }, { on := 5, ground := Ground.phase }, { on := 6, ground := Ground.phase }, { on := 7, ground := Ground.phase }] (by kernel_rfl) [8, 0, 1, 2, 3, 4, 5, 6, 7] (by kernel_rfl) fun af v W hb hd => ?_
    have d8 : v 8 = (Value.pointer (some ⟨gc, 0, none⟩)) := hd 8 (by decide) (by decide)
    have e30 := (Reg.gfr_eval (ops := (Reg.opsOf2 Try.f24 6)) (a0 := a0) (v := v) (L := [8, 0, 1, 2, 3, 4, 5, 6, 7]) 30 8 (by kernel_rfl) (by rw [hsz]; omega)).trans d8
    refine ⟨Reg.wanted_none rfl, ?_⟩
    generalize Reg.gfr (Reg.opsOf2 Try.f24 6) a0 v [8, 0, 1, 2, 3, 4, 5, 6, 7] = G at e30 ⊢
    generalize hρ : G.eval = ρ at e30
    have hρ' : G.eval = ρ := hρ
    refine Reg.go_run (Value.pointer (some ⟨gc, 1, none⟩)) W ?_ ?_
    · rw [hρ']; simp [execOp, go_sem, e30]
    · exact ⟨Below.refl _ _, rfl⟩
end
set_option maxHeartbeats 4000000 in
set_option maxRecDepth 20000 in
theorem ncopy6 (gc bb3 b5 nn cc rn rc B0 : Nat) (AA RA : Option Addr) (xs : List Value) (ff tt : Int) (bb : Bool) (w0 : World) {s0 s1 s2 s4 s6 s7 s8 s9 s10 s11 s12 s13 s14 s15 s16 s17 s18 s19 s20 s21 s22 s23 s24 s25 s26 s27 s28 s29 s30 s31 s32 : Value}
    (S : World → Prop) (hS0 : S w0.drew) (hSb : ∀ w w', S w → Below w.heap.size w w' → S w')
    (hnn : nn ≤ 10000)
    (hBs : ∀ W, S W → B0 ≤ W.heap.size)
    (hown : ∀ W, S W → W.ownsRow B0 74 4 (.slice AA nn cc) nn xs)
    (hSg : ∀ W W', S W → W.grownBy W' (Value.slice AA nn cc).ownBlock → W'.ownsRow B0 74 4 (.slice AA nn cc) nn xs → S W')
    (M_b5 : ∀ W, S W → W.heap[b5]? = some (.cells #[Value.int IntKind.i64 ff, Value.int IntKind.i64 tt, Value.slice RA rn rc, Value.bool bb] 74 (0, 0)))
    (CB : ∀ W, S W → W.cell? ⟨bb3, 0, none⟩ = some (Value.pointer (some ⟨gc, 0, none⟩)))
    (CN : ∀ W, S W → W.cell? ⟨gc, 1, none⟩ = some (Value.slice AA nn cc))
    {lr nr : Nat} {Q : Exit → Act → World → Prop} (hQ : ¬ LetsOut Q)
    (FRO : ∀ W, S W → W.frozen? ⟨gc, 1, none⟩ = false)
    (hend : ∀ (w : World) (r28 : Value) (A2_ : Option Addr) (c2_ : Nat), S w → (w.ownsRow B0 74 4 (Value.slice A2_ (nn + 1) c2_) (nn + 1) (xs ++ [Value.int IntKind.i64 ff, Value.int IntKind.i64 tt, Value.slice RA rn rc, Value.bool bb])) → Q .normal { tmps := #[s0, s1, s2, (Value.pointer (some ⟨bb3, 0, none⟩)), s4, (Value.pointer (some ⟨b5, 0, none⟩)), s6, s7, s8, s9, s10, s11, s12, s13, s14, s15, s16, s17, s18, s19, s20, s21, (Value.pointer (some ⟨gc, 0, none⟩)), (Value.pointer (some ⟨gc, 0, none⟩)), (Value.pointer (some ⟨gc, 0, none⟩)), (Value.pointer (some ⟨gc, 1, none⟩)), (Value.slice AA nn cc), (Value.agg #[Value.int IntKind.i64 ff, Value.int IntKind.i64 tt, Value.slice RA rn rc, Value.bool bb]), r28, (Value.slice A2_ (nn + 1) c2_), (Value.pointer (some ⟨gc, 0, none⟩)), (Value.pointer (some ⟨gc, 1, none⟩)), s32], defers := [] } (w.setCell ⟨gc, 1, none⟩ (Value.slice A2_ (nn + 1) c2_))) :
    (Code.region 6 (Reg.opsOf2 Try.f24 6) true).wpIn (Fence.wide.inRound lr) nr Try.prog Q { tmps := #[s0, s1, s2, (Value.pointer (some ⟨bb3, 0, none⟩)), s4, (Value.pointer (some ⟨b5, 0, none⟩)), s6, s7, s8, s9, s10, s11, s12, s13, s14, s15, s16, s17, s18, s19, s20, s21, s22, s23, s24, s25, s26, s27, s28, s29, s30, s31, s32], defers := [] } w0 := by
  obtain ⟨a0, ha0⟩ : ∃ a0 : Act, a0 = { tmps := #[s0, s1, s2, (Value.pointer (some ⟨bb3, 0, none⟩)), s4, (Value.pointer (some ⟨b5, 0, none⟩)), s6, s7, s8, s9, s10, s11, s12, s13, s14, s15, s16, s17, s18, s19, s20, s21, s22, s23, s24, s25, s26, s27, s28, s29, s30, s31, s32], defers := [] } := ⟨_, rfl⟩
  have hfin : ∀ v : Nat → Value, Reg.gfr (Reg.opsOf2 Try.f24 6) a0 v [0, 1, 2, 3, 4, 5, 6, 7, 8, 9] = { tmps := #[s0, s1, s2, (Value.pointer (some ⟨bb3, 0, none⟩)), s4, (Value.pointer (some ⟨b5, 0, none⟩)), s6, s7, s8, s9, s10, s11, s12, s13, s14, s15, s16, s17, s18, s19, s20, s21, v 0, v 1, v 2, v 3, v 4, v 5, v 6, v 7, v 8, v 9, s32], defers := [] } := fun v => by rw [ha0]; kernel_rfl
  rw [← ha0]
  have i3 : a0.eval (.tmp 3) = (Value.pointer (some ⟨bb3, 0, none⟩)) := by rw [ha0]; rfl
  have i5 : a0.eval (.tmp 5) = (Value.pointer (some ⟨b5, 0, none⟩)) := by rw [ha0]; rfl
  have hsz : a0.tmps.size = 33 := by rw [ha0]; rfl
  clear ha0
  have hn : (Reg.opsOf2 Try.f24 6).size = 11 := by kernel_rfl
  have h0 := ncopy6_h0 gc bb3 b5 nn cc rn rc B0 AA RA xs ff tt bb w0 a0 S hSb hnn hBs hown hSg M_b5 CB CN i3 i5 hsz
  have h1 := ncopy6_h1 gc bb3 b5 nn cc rn rc B0 AA RA xs ff tt bb w0 a0 S hSb hnn hBs hown hSg M_b5 CB CN i3 i5 hsz
  have h2 := ncopy6_h2 gc bb3 b5 nn cc rn rc B0 AA RA xs ff tt bb w0 a0 S hSb hnn hBs hown hSg M_b5 CB CN i3 i5 hsz
  have h3 := ncopy6_h3 gc bb3 b5 nn cc rn rc B0 AA RA xs ff tt bb w0 a0 S hSb hnn hBs hown hSg M_b5 CB CN i3 i5 hsz
  have h4 := ncopy6_h4 gc bb3 b5 nn cc rn rc B0 AA RA xs ff tt bb w0 a0 S hSb hnn hBs hown hSg M_b5 CB CN i3 i5 hsz
  have h5 := ncopy6_h5 gc bb3 b5 nn cc rn rc B0 AA RA xs ff tt bb w0 a0 S hSb hnn hBs hown hSg M_b5 CB CN i3 i5 hsz
  have h6 := ncopy6_h6 gc bb3 b5 nn cc rn rc B0 AA RA xs ff tt bb w0 a0 S hSb hnn hBs hown hSg M_b5 CB CN i3 i5 hsz
  have h7 := ncopy6_h7 gc bb3 b5 nn cc rn rc B0 AA RA xs ff tt bb w0 a0 S hSb hnn hBs hown hSg M_b5 CB CN i3 i5 hsz
  have h8 := ncopy6_h8 gc bb3 b5 nn cc rn rc B0 AA RA xs ff tt bb w0 a0 S hSb hnn hBs hown hSg M_b5 CB CN i3 i5 hsz
  have h9 := ncopy6_h9 gc bb3 b5 nn cc rn rc B0 AA RA xs ff tt bb w0 a0 S hSb hnn hBs hown hSg M_b5 CB CN i3 i5 hsz
  refine RegE.region_rel_in (Reg.noDefer_spec (by kernel_rfl)) hQ hS0 (by kernel_rfl) [0, 1, 2, 3, 4, 5, 6, 7, 8, 9] (fun i_ => if i_ = 6 then some 7 else none) (ncopy6R gc bb3 b5 nn cc rn rc B0 AA RA xs ff tt bb) (fun _ _ _ _ => True) (by rw [hsz]; kernel_rfl) (fun i hi => ?_) (fun v w hb hR fuel hf => ?_)
  · simp only [List.mem_cons, List.not_mem_nil, or_false] at hi
    rcases hi with rfl | rfl | rfl | rfl | rfl | rfl | rfl | rfl | rfl | rfl
    · exact h0
    · exact h1
    · exact h2
    · exact h3
    · exact h4
    · exact h5
    · exact h6
    · exact h7
    · exact h8
    · exact h9
  · obtain ⟨A2_, c2_, hv7, hf7⟩ := hR 7 (by decide) rfl
    refine Reg.tail_one 10 (fun af => { dst := none, op := Op.store 67 (Operand.tmp 31) (Operand.tmp 29), type := 0, pos := "net.go:190", after := af, guard := none }) #[{ on := 9, ground := Ground.data }, { on := 7, ground := Ground.data }, { on := 7, ground := Ground.chain }, { on := 0, ground := Ground.phase }, { on := 1, ground := Ground.phase }, { on := 2, ground := Ground.phase }, { on := 3, ground := Ground.phase }, { on := 4, ground := Ground.phase }, { on := 5, ground := Ground.phase }, { on := 6, ground := Ground.phase }, { on := 7, ground := Ground.phase }] (by kernel_rfl) (fun _ => rfl) (by decide) (by rw [hn]; decide) (by rw [hn]; decide) (by decide) (fun a' w' => a' = Reg.gfr (Reg.opsOf2 Try.f24 6) a0 v [0, 1, 2, 3, 4, 5, 6, 7, 8, 9] ∧ w' = (w.setCell ⟨gc, 1, none⟩ (Value.slice A2_ (nn + 1) c2_))) (fun af K hK => ?_) ?_ fuel hf
    · have v9 : v 9 = (Value.pointer (some ⟨gc, 1, none⟩)) := hR 9 (by decide) rfl
      have e31 := (Reg.gfr_eval (ops := (Reg.opsOf2 Try.f24 6)) (a0 := a0) (v := v) (L := [0, 1, 2, 3, 4, 5, 6, 7, 8, 9]) 31 9 (by kernel_rfl) (by rw [hsz]; omega)).trans v9
      have v7 := hv7
      have e29 := (Reg.gfr_eval (ops := (Reg.opsOf2 Try.f24 6)) (a0 := a0) (v := v) (L := [0, 1, 2, 3, 4, 5, 6, 7, 8, 9]) 29 7 (by kernel_rfl) (by rw [hsz]; omega)).trans v7
      have hp := hK _ _ ⟨rfl, rfl⟩
      have c1 := CN w hb
      have c2 := FRO w hb
      generalize Reg.gfr (Reg.opsOf2 Try.f24 6) a0 v [0, 1, 2, 3, 4, 5, 6, 7, 8, 9] = G at hp e31 e29 ⊢
      exact wp_store_slc 67 (Operand.tmp 31) (Operand.tmp 29) rfl _ e31 _ _ _ e29 _ c1 c2 (by kernel_rfl) rfl hp
    · rintro a' w' ⟨rfl, rfl⟩
      have v0 : v 0 = (Value.pointer (some ⟨gc, 0, none⟩)) := hR 0 (by decide) rfl
      have v1 : v 1 = (Value.pointer (some ⟨gc, 0, none⟩)) := hR 1 (by decide) rfl
      have v2 : v 2 = (Value.pointer (some ⟨gc, 0, none⟩)) := hR 2 (by decide) rfl
      have v3 : v 3 = (Value.pointer (some ⟨gc, 1, none⟩)) := hR 3 (by decide) rfl
      have v4 : v 4 = (Value.slice AA nn cc) := hR 4 (by decide) rfl
      have v5 : v 5 = (Value.agg #[Value.int IntKind.i64 ff, Value.int IntKind.i64 tt, Value.slice RA rn rc, Value.bool bb]) := hR 5 (by decide) rfl
      have v8 : v 8 = (Value.pointer (some ⟨gc, 0, none⟩)) := hR 8 (by decide) rfl
      have v9 : v 9 = (Value.pointer (some ⟨gc, 1, none⟩)) := hR 9 (by decide) rfl
      rw [hfin v, v0, v1, v2, v3, v4, v5, v8, v9, hv7]
      exact hend w (v 6) A2_ c2_ hb hf7
end Go.Proofs.Ytfojlmnlolnilaa
