/- Regions that draw their order: their obligations (printed by regen2.py). -/
import Derived.Test.YtfojlmnlolnilaaNetA
import Derived.Test.YtfojlmnlolnilaaApp
import Derived.Test.YtfojlmnlolnilaaRegT
namespace Go.Proofs.Ytfojlmnlolnilaa
open Go.RowKit
set_option linter.unusedVariables false
set_option linter.unusedSimpArgs false
set_option linter.unusedSectionVars false
def nsend7R (gg ss nn cc rn rc B0 : Nat) (AA RA : Option Addr) (xs : List Value) (rl : List UInt8) (ff tt : Int) : Nat → Value → World → Prop
  | 0 => fun x_ _ => x_ = (Value.pointer (some ⟨gg, 0, none⟩))
  | 1 => fun x_ _ => x_ = (Value.pointer (some ⟨gg, 0, none⟩))
  | 2 => fun x_ _ => x_ = (Value.pointer (some ⟨gg, 0, none⟩))
  | 3 => fun x_ _ => x_ = (Value.pointer (some ⟨gg, 1, none⟩))
  | 4 => fun x_ _ => x_ = (Value.slice AA nn cc)
  | 5 => fun x_ _ => x_ = (Value.slice AA nn nn)
  | 6 => fun x_ _ => x_ = (Value.agg #[Value.int IntKind.i64 ff, Value.int IntKind.i64 tt, Value.slice RA rn rc])
  | 7 => fun x_ _ => x_ = (Value.agg #[Value.int IntKind.i64 ff, Value.int IntKind.i64 tt, Value.slice RA rn rc, Value.bool false])
  | 8 => (fun u_ w_ => ∃ A_ c_, u_ = Value.agg #[Value.int IntKind.i64 ff, Value.int IntKind.i64 tt, Value.slice A_ rn c_, Value.bool false] ∧ w_.ownsRow B0 5 1 (Value.slice A_ rn c_) rn (u8v rl))
  | 9 => (fun u_ w_ => ∃ A_ c_ b_, u_ = Value.slice (some ⟨b_, 0, none⟩) 1 1 ∧ w_.heap[b_]? = some (.cells #[Value.int IntKind.i64 ff, Value.int IntKind.i64 tt, Value.slice A_ rn c_, Value.bool false] 74 (0, 0)) ∧ w_.ownsRow B0 5 1 (Value.slice A_ rn c_) rn (u8v rl))
  | 10 => (fun u_ w_ => ∃ A2_ c2_, u_ = Value.slice A2_ (nn + 1) c2_ ∧ ∃ A_ c_, w_.ownsRow B0 74 4 (Value.slice A2_ (nn + 1) c2_) (nn + 1) (xs ++ [Value.int IntKind.i64 ff, Value.int IntKind.i64 tt, Value.slice A_ rn c_, Value.bool false]) ∧ w_.ownsRow B0 5 1 (Value.slice A_ rn c_) rn (u8v rl))
  | 11 => fun x_ _ => x_ = (Value.pointer (some ⟨gg, 0, none⟩))
  | 12 => fun x_ _ => x_ = (Value.pointer (some ⟨gg, 1, none⟩))
  | _ => fun _ _ => True
theorem nsend7_stable (gg ss nn cc rn rc B0 : Nat) (AA RA : Option Addr) (xs : List Value) (rl : List UInt8) (ff tt : Int) : ∀ i_ u_ w_ w_', (nsend7R gg ss nn cc rn rc B0 AA RA xs rl ff tt) i_ u_ w_ → Below w_.heap.size w_ w_' → (nsend7R gg ss nn cc rn rc B0 AA RA xs rl ff tt) i_ u_ w_' := fun i_ u_ w_ w_' h_ hb_ => by
  match i_, h_ with
  | 0, h_ => exact h_
  | 1, h_ => exact h_
  | 2, h_ => exact h_
  | 3, h_ => exact h_
  | 4, h_ => exact h_
  | 5, h_ => exact h_
  | 6, h_ => exact h_
  | 7, h_ => exact h_
  | 8, h_ => exact ((by obtain ⟨A_, c_, h1_, h2_⟩ := h_; exact ⟨A_, c_, h1_, own_below h2_ hb_⟩))
  | 9, h_ => exact ((by obtain ⟨A_, c_, b_, h1_, h2_, h3_⟩ := h_; exact ⟨A_, c_, b_, h1_, (hb_.block _ (lt_get h2_)).trans h2_, own_below h3_ hb_⟩))
  | 10, h_ => exact ((by obtain ⟨A2_, c2_, h0_, A_, c_, h1_, h2_⟩ := h_; exact ⟨A2_, c2_, h0_, A_, c_, own_below h1_ hb_, own_below h2_ hb_⟩))
  | 11, h_ => exact h_
  | 12, h_ => exact h_
  | 13, h_ => exact h_
  | (_ + 14), _ => trivial
section
variable (gg ss nn cc rn rc B0 : Nat) (AA RA : Option Addr) (xs : List Value) (rl : List UInt8) (ff tt : Int) (w0 : World) (a0 : Act)
variable (hB0 : B0 ≤ w0.heap.size) (hxl : xs.length = nn * 4) (hnn : nn ≤ 10000) (hncc : nn ≤ cc) (hccm : cc ≤ maxLen) (hA0 : AA = none → nn = 0) (hrn : rn ≤ 100000000) (hrl : rl.length = rn)
variable (hrow : ∀ W, Below w0.heap.size w0 W → RdC W AA xs)
variable (hraw : ∀ W, Below w0.heap.size w0 W → RdC W RA (u8v rl))
variable (M_ss : ∀ W, Below w0.heap.size w0 W → W.heap[ss]? = some (.cells #[Value.int IntKind.i64 ff, Value.int IntKind.i64 tt, Value.slice RA rn rc] 38 (0, 0)))
variable (CN : ∀ W, Below w0.heap.size w0 W → W.cell? ⟨gg, 1, none⟩ = some (Value.slice AA nn cc))
variable (i0 : a0.eval (.tmp 0) = (Value.pointer (some ⟨gg, 0, none⟩))) (i3 : a0.eval (.tmp 3) = (Value.pointer (some ⟨ss, 0, none⟩))) (hsz : a0.tmps.size = 48)
include gg ss nn cc rn rc B0 AA RA xs rl ff tt w0 a0 hB0 hxl hnn hncc hccm hA0 hrn hrl hrow hraw M_ss CN i0 i3 hsz
set_option maxHeartbeats 4000000 in
set_option maxRecDepth 20000 in
theorem nsend7_h0 :
    Reg.OpOK Try.prog (Reg.opsOf Try.f13 7) a0 w0 (nsend7R gg ss nn cc rn rc B0 AA RA xs rl ff tt) (fun _ _ _ _ => True) 0 := by
    refine Reg.op_ok2 (fun af => { dst := some 35, op := Op.move (Operand.tmp 0), type := 30, pos := "net.go:82", after := af, guard := none }) #[] (by kernel_rfl) [] (by kernel_rfl) fun af v W hb hd => ?_
    have e0 := (Reg.gfr_eval0 (ops := (Reg.opsOf Try.f13 7)) (a0 := a0) (v := v) (L := []) 0 (by kernel_rfl)).trans i0
    refine ⟨Reg.wanted_none rfl, ?_⟩
    generalize Reg.gfr (Reg.opsOf Try.f13 7) a0 v [] = G at e0 ⊢
    generalize hρ : G.eval = ρ at e0
    have hρ' : G.eval = ρ := hρ
    refine Reg.go_run (Value.pointer (some ⟨gg, 0, none⟩)) W ?_ ?_
    · rw [hρ']; simp [execOp, go_sem, e0]
    · exact ⟨Below.refl _ _, rfl⟩
set_option maxHeartbeats 4000000 in
set_option maxRecDepth 20000 in
theorem nsend7_h1 :
    Reg.OpOK Try.prog (Reg.opsOf Try.f13 7) a0 w0 (nsend7R gg ss nn cc rn rc B0 AA RA xs rl ff tt) (fun _ _ _ _ => True) 1 := by
    refine Reg.op_ok2 (fun af => { dst := some 36, op := Op.move (Operand.tmp 0), type := 30, pos := "net.go:82", after := af, guard := none }) #[] (by kernel_rfl) [] (by kernel_rfl) fun af v W hb hd => ?_
    have e0 := (Reg.gfr_eval0 (ops := (Reg.opsOf Try.f13 7)) (a0 := a0) (v := v) (L := []) 0 (by kernel_rfl)).trans i0
    refine ⟨Reg.wanted_none rfl, ?_⟩
    generalize Reg.gfr (Reg.opsOf Try.f13 7) a0 v [] = G at e0 ⊢
    generalize hρ : G.eval = ρ at e0
    have hρ' : G.eval = ρ := hρ
    refine Reg.go_run (Value.pointer (some ⟨gg, 0, none⟩)) W ?_ ?_
    · rw [hρ']; simp [execOp, go_sem, e0]
    · exact ⟨Below.refl _ _, rfl⟩
set_option maxHeartbeats 4000000 in
set_option maxRecDepth 20000 in
theorem nsend7_h2 :
    Reg.OpOK Try.prog (Reg.opsOf Try.f13 7) a0 w0 (nsend7R gg ss nn cc rn rc B0 AA RA xs rl ff tt) (fun _ _ _ _ => True) 2 := by
    refine Reg.op_ok2 (fun af => { dst := some 37, op := Op.nilCheck (Operand.tmp 36), type := 0, pos := "net.go:82", after := af, guard := none }) #[{ on := 1, ground := Ground.data }] (by kernel_rfl) [1] (by kernel_rfl) fun af v W hb hd => ?_
    have d1 : v 1 = (Value.pointer (some ⟨gg, 0, none⟩)) := hd 1 (by decide)
    have e36 := (Reg.gfr_eval (ops := (Reg.opsOf Try.f13 7)) (a0 := a0) (v := v) (L := [1]) 36 1 (by kernel_rfl) (by rw [hsz]; omega)).trans d1
    refine ⟨Reg.wanted_none rfl, ?_⟩
    generalize Reg.gfr (Reg.opsOf Try.f13 7) a0 v [1] = G at e36 ⊢
    generalize hρ : G.eval = ρ at e36
    have hρ' : G.eval = ρ := hρ
    refine Reg.go_run (Value.pointer (some ⟨gg, 0, none⟩)) W ?_ ?_
    · rw [hρ']; simp [execOp, go_sem, e36]
    · exact ⟨Below.refl _ _, rfl⟩
set_option maxHeartbeats 4000000 in
set_option maxRecDepth 20000 in
theorem nsend7_h3 :
    Reg.OpOK Try.prog (Reg.opsOf Try.f13 7) a0 w0 (nsend7R gg ss nn cc rn rc B0 AA RA xs rl ff tt) (fun _ _ _ _ => True) 3 := by
    refine Reg.op_ok2 (fun af => { dst := some 38, op := Op.fieldAddr 70 (Operand.tmp 37) 1, type := 0, pos := "net.go:82", after := af, guard := none }) #[{ on := 2, ground := Ground.data }] (by kernel_rfl) [2] (by kernel_rfl) fun af v W hb hd => ?_
    have d2 : v 2 = (Value.pointer (some ⟨gg, 0, none⟩)) := hd 2 (by decide)
    have e37 := (Reg.gfr_eval (ops := (Reg.opsOf Try.f13 7)) (a0 := a0) (v := v) (L := [2]) 37 2 (by kernel_rfl) (by rw [hsz]; omega)).trans d2
    refine ⟨Reg.wanted_none rfl, ?_⟩
    generalize Reg.gfr (Reg.opsOf Try.f13 7) a0 v [2] = G at e37 ⊢
    generalize hρ : G.eval = ρ at e37
    have hρ' : G.eval = ρ := hρ
    refine Reg.go_run (Value.pointer (some ⟨gg, 1, none⟩)) W ?_ ?_
    · rw [hρ']; simp [execOp, go_sem, e37]
    · exact ⟨Below.refl _ _, rfl⟩
set_option maxHeartbeats 4000000 in
set_option maxRecDepth 20000 in
theorem nsend7_h4 :
    Reg.OpOK Try.prog (Reg.opsOf Try.f13 7) a0 w0 (nsend7R gg ss nn cc rn rc B0 AA RA xs rl ff tt) (fun _ _ _ _ => True) 4 := by
    refine Reg.op_ok2 (fun af => { dst := some 39, op := Op.load 67 (Operand.tmp 38), type := 67, pos := "net.go:82", after := af, guard := none }) #[{ on := 3, ground := Ground.data }] (by kernel_rfl) [3] (by kernel_rfl) fun af v W hb hd => ?_
    have d3 : v 3 = (Value.pointer (some ⟨gg, 1, none⟩)) := hd 3 (by decide)
    have e38 := (Reg.gfr_eval (ops := (Reg.opsOf Try.f13 7)) (a0 := a0) (v := v) (L := [3]) 38 3 (by kernel_rfl) (by rw [hsz]; omega)).trans d3
    refine ⟨Reg.wanted_none rfl, ?_⟩
    generalize Reg.gfr (Reg.opsOf Try.f13 7) a0 v [3] = G at e38 ⊢
    generalize hρ : G.eval = ρ at e38
    have hρ' : G.eval = ρ := hρ
    refine Reg.go_run (Value.slice AA nn cc) W ?_ ?_
    · rw [hρ']; simp [execOp, go_sem, e38, CN W hb]
    · exact ⟨Below.refl _ _, rfl⟩
set_option maxHeartbeats 4000000 in
set_option maxRecDepth 20000 in
theorem nsend7_h5 :
    Reg.OpOK Try.prog (Reg.opsOf Try.f13 7) a0 w0 (nsend7R gg ss nn cc rn rc B0 AA RA xs rl ff tt) (fun _ _ _ _ => True) 5 := by
    refine Reg.op_ok2 (fun af => { dst := some 40, op := Op.call { callee := Callee.value (Operand.func 32), args := #[Operand.tmp 39], argTypes := #[67] }, type := 67, pos := "net.go:82", after := af, guard := none }) #[{ on := 4, ground := Ground.data }] (by kernel_rfl) [4] (by kernel_rfl) fun af v W hb hd => ?_
    have d4 : v 4 = (Value.slice AA nn cc) := hd 4 (by decide)
    have e39 := (Reg.gfr_eval (ops := (Reg.opsOf Try.f13 7)) (a0 := a0) (v := v) (L := [4]) 39 4 (by kernel_rfl) (by rw [hsz]; omega)).trans d4
    refine ⟨Reg.wanted_none rfl, ?_⟩
    have eF : ∀ f, (Reg.gfr (Reg.opsOf Try.f13 7) a0 v [4]).eval (.func f) = .func (.func f) #[] #[] := fun _ => rfl
    generalize Reg.gfr (Reg.opsOf Try.f13 7) a0 v [4] = G at e39 eF ⊢
    generalize hρ : G.eval = ρ at e39 eF
    have hρ' : G.eval = ρ := hρ
    refine Reg.go_call 32 #[(Value.slice AA nn cc)] (by rw [hρ']; simp [execOp, go_sem, e39, eF]) ((clip_any AA nn cc hncc hccm W).mono fun e w' he => ?_)
    obtain ⟨rfl, hw_⟩ := he
    subst hw_
    exact ⟨_, rfl, Below.refl _ _, rfl⟩
set_option maxHeartbeats 4000000 in
set_option maxRecDepth 20000 in
theorem nsend7_h6 :
    Reg.OpOK Try.prog (Reg.opsOf Try.f13 7) a0 w0 (nsend7R gg ss nn cc rn rc B0 AA RA xs rl ff tt) (fun _ _ _ _ => True) 6 := by
    refine Reg.op_ok2 (fun af => { dst := some 41, op := Op.load 38 (Operand.tmp 3), type := 38, pos := "net.go:82", after := af, guard := none }) #[] (by kernel_rfl) [] (by kernel_rfl) fun af v W hb hd => ?_
    have e3 := (Reg.gfr_eval0 (ops := (Reg.opsOf Try.f13 7)) (a0 := a0) (v := v) (L := []) 3 (by kernel_rfl)).trans i3
    refine ⟨Reg.wanted_none rfl, ?_⟩
    generalize Reg.gfr (Reg.opsOf Try.f13 7) a0 v [] = G at e3 ⊢
    generalize hρ : G.eval = ρ at e3
    have hρ' : G.eval = ρ := hρ
    exact fun K hK => wp_load_row 38 (.tmp 3) rfl ss (by rw [hρ']; exact e3) 38 #[Value.int IntKind.i64 ff, Value.int IntKind.i64 tt, Value.slice RA rn rc] (0, 0) _ (M_ss W hb) Try.underlying38 rfl size_fl3 (hK _ _ ⟨Below.refl _ _, rfl⟩)
set_option maxHeartbeats 4000000 in
set_option maxRecDepth 20000 in
theorem nsend7_h7 :
    Reg.OpOK Try.prog (Reg.opsOf Try.f13 7) a0 w0 (nsend7R gg ss nn cc rn rc B0 AA RA xs rl ff tt) (fun _ _ _ _ => True) 7 := by
    refine Reg.op_ok2 (fun af => { dst := some 42, op := Op.build 74 #[(0, Operand.tmp 41)], type := 74, pos := "net.go:82", after := af, guard := none }) #[{ on := 6, ground := Ground.data }] (by kernel_rfl) [6] (by kernel_rfl) fun af v W hb hd => ?_
    have d6 : v 6 = (Value.agg #[Value.int IntKind.i64 ff, Value.int IntKind.i64 tt, Value.slice RA rn rc]) := hd 6 (by decide)
    have e41 := (Reg.gfr_eval (ops := (Reg.opsOf Try.f13 7)) (a0 := a0) (v := v) (L := [6]) 41 6 (by kernel_rfl) (by rw [hsz]; omega)).trans d6
    refine ⟨Reg.wanted_none rfl, ?_⟩
    generalize Reg.gfr (Reg.opsOf Try.f13 7) a0 v [6] = G at e41 ⊢
    generalize hρ : G.eval = ρ at e41
    have hρ' : G.eval = ρ := hρ
    refine Reg.go_run (Value.agg #[Value.int IntKind.i64 ff, Value.int IntKind.i64 tt, Value.slice RA rn rc, Value.bool false]) W ?_ ?_
    · rw [hρ']; simp [execOp, go_sem, e41]
    · exact ⟨Below.refl _ _, rfl⟩
set_option maxHeartbeats 4000000 in
set_option maxRecDepth 20000 in
theorem nsend7_h8 :
    Reg.OpOK Try.prog (Reg.opsOf Try.f13 7) a0 w0 (nsend7R gg ss nn cc rn rc B0 AA RA xs rl ff tt) (fun _ _ _ _ => True) 8 := by
    refine Reg.op_ok2 (fun af => { dst := some 43, op := Op.call { callee := Callee.value (Operand.func 33), args := #[Operand.tmp 42], argTypes := #[74] }, type := 74, pos := "net.go:82", after := af, guard := none }) #[{ on := 7, ground := Ground.data }, { on := 5, ground := Ground.chain }] (by kernel_rfl) [7, 5] (by kernel_rfl) fun af v W hb hd => ?_
    have d7 : v 7 = (Value.agg #[Value.int IntKind.i64 ff, Value.int IntKind.i64 tt, Value.slice RA rn rc, Value.bool false]) := hd 7 (by decide)
    have e42 := (Reg.gfr_eval (ops := (Reg.opsOf Try.f13 7)) (a0 := a0) (v := v) (L := [7, 5]) 42 7 (by kernel_rfl) (by rw [hsz]; omega)).trans d7
    refine ⟨Reg.wanted_none rfl, ?_⟩
    have eF : ∀ f, (Reg.gfr (Reg.opsOf Try.f13 7) a0 v [7, 5]).eval (.func f) = .func (.func f) #[] #[] := fun _ => rfl
    generalize Reg.gfr (Reg.opsOf Try.f13 7) a0 v [7, 5] = G at e42 eF ⊢
    generalize hρ : G.eval = ρ at e42 eF
    have hρ' : G.eval = ρ := hρ
    refine Reg.go_call 33 #[(Value.agg #[Value.int IntKind.i64 ff, Value.int IntKind.i64 tt, Value.slice RA rn rc, Value.bool false])] (by rw [hρ']; simp [execOp, go_sem, e42, eF]) ((twin_fl ⟨ff, tt, RA, rn, rc, rl, false⟩ hrn hrl W (hraw W hb)).mono fun e w' he => ?_)
    obtain ⟨v_, rfl, hn_⟩ := he
    obtain ⟨A_, c_, rfl, _⟩ := RdC.of_own hn_.1
    subst hrl
    exact ⟨_, rfl, hn_.2, ⟨A_, c_, rfl, own_mono hn_.1 (Nat.le_trans hB0 hb.size)⟩⟩
set_option maxHeartbeats 4000000 in
set_option maxRecDepth 20000 in
theorem nsend7_h9 :
    Reg.OpOK Try.prog (Reg.opsOf Try.f13 7) a0 w0 (nsend7R gg ss nn cc rn rc B0 AA RA xs rl ff tt) (fun _ _ _ _ => True) 9 := by
    refine Reg.op_ok2 (fun af => { dst := some 44, op := Op.buildSlice 67 1 #[(0, Operand.tmp 43)], type := 67, pos := "net.go:82", after := af, guard := none }) #[{ on := 8, ground := Ground.data }] (by kernel_rfl) [8] (by kernel_rfl) fun af v W hb hd => ?_
    have d8 : ((fun u_ w_ => ∃ A_ c_, u_ = Value.agg #[Value.int IntKind.i64 ff, Value.int IntKind.i64 tt, Value.slice A_ rn c_, Value.bool false] ∧ w_.ownsRow B0 5 1 (Value.slice A_ rn c_) rn (u8v rl))) (v 8) W := hd 8 (by decide)
    have e43 := Reg.gfr_eval (ops := (Reg.opsOf Try.f13 7)) (a0 := a0) (v := v) (L := [8]) 43 8 (by kernel_rfl) (by rw [hsz]; omega)
    refine ⟨Reg.wanted_none rfl, ?_⟩
    generalize Reg.gfr (Reg.opsOf Try.f13 7) a0 v [8] = G at e43 ⊢
    generalize hρ : G.eval = ρ at e43
    have hρ' : G.eval = ρ := hρ
    obtain ⟨A_, c_, hv_, ho_⟩ := d8
    rw [hv_] at e43
    refine Reg.go_run (Value.slice (some ⟨W.heap.size, 0, none⟩) 1 1) (W.alloc (.cells #[Value.int IntKind.i64 ff, Value.int IntKind.i64 tt, Value.slice A_ rn c_, Value.bool false] 74)) (by rw [hρ']; simp [execOp, go_sem, e43]) ⟨(Below.refl _ _).alloc (Nat.le_refl _) _, ⟨A_, c_, _, rfl, heap_alloc_new _ _, own_below ho_ ((Below.refl _ _).alloc (Nat.le_refl _) _)⟩⟩
set_option maxHeartbeats 4000000 in
set_option maxRecDepth 20000 in
theorem nsend7_h10 :
    Reg.OpOK Try.prog (Reg.opsOf Try.f13 7) a0 w0 (nsend7R gg ss nn cc rn rc B0 AA RA xs rl ff tt) (fun _ _ _ _ => True) 10 := by
    refine Reg.op_ok2 (fun af => { dst := some 45, op := Op.call { callee := Callee.builtin Builtin.append, args := #[Operand.tmp 40, Operand.tmp 44], argTypes := #[67, 67] }, type := 67, pos := "net.go:82", after := af, guard := none }) #[{ on := 5, ground := Ground.data }, { on := 9, ground := Ground.data }, { on := 8, ground := Ground.chain }] (by kernel_rfl) [5, 9, 8] (by kernel_rfl) fun af v W hb hd => ?_
    have d5 : v 5 = (Value.slice AA nn nn) := hd 5 (by decide)
    have d9 : ((fun u_ w_ => ∃ A_ c_ b_, u_ = Value.slice (some ⟨b_, 0, none⟩) 1 1 ∧ w_.heap[b_]? = some (.cells #[Value.int IntKind.i64 ff, Value.int IntKind.i64 tt, Value.slice A_ rn c_, Value.bool false] 74 (0, 0)) ∧ w_.ownsRow B0 5 1 (Value.slice A_ rn c_) rn (u8v rl))) (v 9) W := hd 9 (by decide)
    have e40 := (Reg.gfr_eval (ops := (Reg.opsOf Try.f13 7)) (a0 := a0) (v := v) (L := [5, 9, 8]) 40 5 (by kernel_rfl) (by rw [hsz]; omega)).trans d5
    have e44 := Reg.gfr_eval (ops := (Reg.opsOf Try.f13 7)) (a0 := a0) (v := v) (L := [5, 9, 8]) 44 9 (by kernel_rfl) (by rw [hsz]; omega)
    refine ⟨Reg.wanted_none rfl, ?_⟩
    generalize Reg.gfr (Reg.opsOf Try.f13 7) a0 v [5, 9, 8] = G at e40 e44 ⊢
    generalize hρ : G.eval = ρ at e40 e44
    have hρ' : G.eval = ρ := hρ
    obtain ⟨A_, c_, b_, hv_, hc_, ho_⟩ := d9
    rw [hv_] at e44
    obtain ⟨v_, w_, hrun_, ho2_, hb2_⟩ := run_app_new (P := Try.prog) elt74 67 W AA nn nn xs hxl (hrow W hb) (fun h => ⟨hA0 h, hA0 h⟩) ⟨b_, 0, none⟩ 1 1 [Value.int IntKind.i64 ff, Value.int IntKind.i64 tt, Value.slice A_ rn c_, Value.bool false] rfl (rd_fl hc_) (by omega) (by unfold maxLen; omega) (by omega)
    rw [appK_hide] at hrun_
    obtain ⟨A2_, c2_, rfl, _⟩ := RdC.of_own ho2_
    refine Reg.go_run _ w_ (by rw [hρ']; simp [execOp, go_sem, e40, e44, ↓appK_hide, hrun_]) ⟨hb2_, ⟨A2_, c2_, rfl, A_, c_, own_mono ho2_ (Nat.le_trans hB0 hb.size), own_below ho_ hb2_⟩⟩
set_option maxHeartbeats 4000000 in
set_option maxRecDepth 20000 in
theorem nsend7_h11 :
    Reg.OpOK Try.prog (Reg.opsOf Try.f13 7) a0 w0 (nsend7R gg ss nn cc rn rc B0 AA RA xs rl ff tt) (fun _ _ _ _ => True) 11 := by
    refine Reg.op_ok2 (fun af => { dst := some 46, op := Op.nilCheck (Operand.tmp 35), type := 0, pos := "net.go:82", after := af, guard := none }) #[{ on := 0, ground := Ground.data }, { on := 0, ground := Ground.phase }, { on := 1, ground := Ground.phase }, { on := 2, ground := Ground.phase }, { on := 3, ground := Ground.phase }, { on := 4, ground := Ground.phase }, { on := 5, ground := Ground.phase }, { on := 6, ground := Ground.phase }, { on := 7, ground := Ground.phase }, { on := 8, ground := Ground.phase }, { on := 9, ground := Ground.phase }, { on := 10, ground := Ground.phase }] (by kernel_rfl) [0, 0, 1, 2, 3, 4, 5, 6, 7, 8, 9, 10] (by kernel_rfl) fun af v W hb hd => ?_
    have d0 : v 0 = (Value.pointer (some ⟨gg, 0, none⟩)) := hd 0 (by decide)
    have e35 := (Reg.gfr_eval (ops := (Reg.opsOf Try.f13 7)) (a0 := a0) (v := v) (L := [0, 0, 1, 2, 3, 4, 5, 6, 7, 8, 9, 10]) 35 0 (by kernel_rfl) (by rw [hsz]; omega)).trans d0
    refine ⟨Reg.wanted_none rfl, ?_⟩
    generalize Reg.gfr (Reg.opsOf Try.f13 7) a0 v [0, 0, 1, 2, 3, 4, 5, 6, 7, 8, 9, 10] = G at e35 ⊢
    generalize hρ : G.eval = ρ at e35
    have hρ' : G.eval = ρ := hρ
    refine Reg.go_run (Value.pointer (some ⟨gg, 0, none⟩)) W ?_ ?_
    · rw [hρ']; simp [execOp, go_sem, e35]
    · exact ⟨Below.refl _ _, rfl⟩
set_option maxHeartbeats 4000000 in
set_option maxRecDepth 20000 in
theorem nsend7_h12 :
    Reg.OpOK Try.prog (Reg.opsOf Try.f13 7) a0 w0 (nsend7R gg ss nn cc rn rc B0 AA RA xs rl ff tt) (fun _ _ _ _ => True) 12 := by
    refine Reg.op_ok2 (fun af => { dst := some 47, op := Op.fieldAddr 70 (Operand.tmp 46) 1, type := 0, pos := "net.go:82", after := af, guard := none }) #[{ on := 11, ground := Ground.data }, { on := 0, ground := Ground.phase }, { on := 1, ground := Ground.phase }, { on := 2, ground := Ground.phase }, { on := 3, ground := Ground.phase }, { on := 4, ground := Ground.phase }, { on := 5, ground := Ground.phase }, { on := 6, ground := Ground.phase }, { on := 7, ground := Ground.phase }, { on := 8, ground := Ground.phase }, { on := 9, ground := Ground.phase }, { on := 10, ground := Ground.phase }] (by kernel_rfl) [11, 0, 1, 2, 3, 4, 5, 6, 7, 8, 9, 10] (by kernel_rfl) fun af v W hb hd => ?_
    have d11 : v 11 = (Value.pointer (some ⟨gg, 0, none⟩)) := hd 11 (by decide)
    have e46 := (Reg.gfr_eval (ops := (Reg.opsOf Try.f13 7)) (a0 := a0) (v := v) (L := [11, 0, 1, 2, 3, 4, 5, 6, 7, 8, 9, 10]) 46 11 (by kernel_rfl) (by rw [hsz]; omega)).trans d11
    refine ⟨Reg.wanted_none rfl, ?_⟩
    generalize Reg.gfr (Reg.opsOf Try.f13 7) a0 v [11, 0, 1, 2, 3, 4, 5, 6, 7, 8, 9, 10] = G at e46 ⊢
    generalize hρ : G.eval = ρ at e46
    have hρ' : G.eval = ρ := hρ
    refine Reg.go_run (Value.pointer (some ⟨gg, 1, none⟩)) W ?_ ?_
    · rw [hρ']; simp [execOp, go_sem, e46]
    · exact ⟨Below.refl _ _, rfl⟩
end
set_option maxHeartbeats 4000000 in
set_option maxRecDepth 20000 in
theorem nsend7 (gg ss nn cc rn rc B0 : Nat) (AA RA : Option Addr) (xs : List Value) (rl : List UInt8) (ff tt : Int) (w0 : World) {s1 s2 s4 s5 s6 s7 s8 s9 s10 s11 s12 s13 s14 s15 s16 s17 s18 s19 s20 s21 s22 s23 s24 s25 s26 s27 s28 s29 s30 s31 s32 s33 s34 s35 s36 s37 s38 s39 s40 s41 s42 s43 s44 s45 s46 s47 : Value}
    (hB0 : B0 ≤ w0.heap.size) (hxl : xs.length = nn * 4) (hnn : nn ≤ 10000) (hncc : nn ≤ cc) (hccm : cc ≤ maxLen) (hA0 : AA = none → nn = 0) (hrn : rn ≤ 100000000) (hrl : rl.length = rn)
    (hrow : ∀ W, Below w0.heap.size w0 W → RdC W AA xs)
    (hraw : ∀ W, Below w0.heap.size w0 W → RdC W RA (u8v rl))
    (M_ss : ∀ W, Below w0.heap.size w0 W → W.heap[ss]? = some (.cells #[Value.int IntKind.i64 ff, Value.int IntKind.i64 tt, Value.slice RA rn rc] 38 (0, 0)))
    (CN : ∀ W, Below w0.heap.size w0 W → W.cell? ⟨gg, 1, none⟩ = some (Value.slice AA nn cc))
    {Q : Exit → Act → World → Prop}
    (FRO : ∀ W, Below w0.heap.size w0 W → W.frozen? ⟨gg, 1, none⟩ = false)
    (hend : ∀ (w : World) (r43 r44 : Value) (A2_ : Option Addr) (c2_ : Nat), Below w0.heap.size w0 w → (∃ A_ c_, w.ownsRow B0 74 4 (Value.slice A2_ (nn + 1) c2_) (nn + 1) (xs ++ [Value.int IntKind.i64 ff, Value.int IntKind.i64 tt, Value.slice A_ rn c_, Value.bool false]) ∧ w.ownsRow B0 5 1 (Value.slice A_ rn c_) rn (u8v rl)) → Q .normal { tmps := #[(Value.pointer (some ⟨gg, 0, none⟩)), s1, s2, (Value.pointer (some ⟨ss, 0, none⟩)), s4, s5, s6, s7, s8, s9, s10, s11, s12, s13, s14, s15, s16, s17, s18, s19, s20, s21, s22, s23, s24, s25, s26, s27, s28, s29, s30, s31, s32, s33, s34, (Value.pointer (some ⟨gg, 0, none⟩)), (Value.pointer (some ⟨gg, 0, none⟩)), (Value.pointer (some ⟨gg, 0, none⟩)), (Value.pointer (some ⟨gg, 1, none⟩)), (Value.slice AA nn cc), (Value.slice AA nn nn), (Value.agg #[Value.int IntKind.i64 ff, Value.int IntKind.i64 tt, Value.slice RA rn rc]), (Value.agg #[Value.int IntKind.i64 ff, Value.int IntKind.i64 tt, Value.slice RA rn rc, Value.bool false]), r43, r44, (Value.slice A2_ (nn + 1) c2_), (Value.pointer (some ⟨gg, 0, none⟩)), (Value.pointer (some ⟨gg, 1, none⟩))], defers := [] } (w.setCell ⟨gg, 1, none⟩ (Value.slice A2_ (nn + 1) c2_))) :
    (Code.region 7 (Reg.opsOf Try.f13 7) true).wp Try.prog Q { tmps := #[(Value.pointer (some ⟨gg, 0, none⟩)), s1, s2, (Value.pointer (some ⟨ss, 0, none⟩)), s4, s5, s6, s7, s8, s9, s10, s11, s12, s13, s14, s15, s16, s17, s18, s19, s20, s21, s22, s23, s24, s25, s26, s27, s28, s29, s30, s31, s32, s33, s34, s35, s36, s37, s38, s39, s40, s41, s42, s43, s44, s45, s46, s47], defers := [] } w0 := by
  obtain ⟨a0, ha0⟩ : ∃ a0 : Act, a0 = { tmps := #[(Value.pointer (some ⟨gg, 0, none⟩)), s1, s2, (Value.pointer (some ⟨ss, 0, none⟩)), s4, s5, s6, s7, s8, s9, s10, s11, s12, s13, s14, s15, s16, s17, s18, s19, s20, s21, s22, s23, s24, s25, s26, s27, s28, s29, s30, s31, s32, s33, s34, s35, s36, s37, s38, s39, s40, s41, s42, s43, s44, s45, s46, s47], defers := [] } := ⟨_, rfl⟩
  have hfin : ∀ v : Nat → Value, Reg.gfr (Reg.opsOf Try.f13 7) a0 v [0, 1, 2, 3, 4, 5, 6, 7, 8, 9, 10, 11, 12] = { tmps := #[(Value.pointer (some ⟨gg, 0, none⟩)), s1, s2, (Value.pointer (some ⟨ss, 0, none⟩)), s4, s5, s6, s7, s8, s9, s10, s11, s12, s13, s14, s15, s16, s17, s18, s19, s20, s21, s22, s23, s24, s25, s26, s27, s28, s29, s30, s31, s32, s33, s34, v 0, v 1, v 2, v 3, v 4, v 5, v 6, v 7, v 8, v 9, v 10, v 11, v 12], defers := [] } := fun v => by rw [ha0]; kernel_rfl
  rw [← ha0]
  have i0 : a0.eval (.tmp 0) = (Value.pointer (some ⟨gg, 0, none⟩)) := by rw [ha0]; rfl
  have i3 : a0.eval (.tmp 3) = (Value.pointer (some ⟨ss, 0, none⟩)) := by rw [ha0]; rfl
  have hsz : a0.tmps.size = 48 := by rw [ha0]; rfl
  clear ha0
  have hn : (Reg.opsOf Try.f13 7).size = 14 := by kernel_rfl
  have h0 := nsend7_h0 gg ss nn cc rn rc B0 AA RA xs rl ff tt w0 a0 hB0 hxl hnn hncc hccm hA0 hrn hrl hrow hraw M_ss CN i0 i3 hsz
  have h1 := nsend7_h1 gg ss nn cc rn rc B0 AA RA xs rl ff tt w0 a0 hB0 hxl hnn hncc hccm hA0 hrn hrl hrow hraw M_ss CN i0 i3 hsz
  have h2 := nsend7_h2 gg ss nn cc rn rc B0 AA RA xs rl ff tt w0 a0 hB0 hxl hnn hncc hccm hA0 hrn hrl hrow hraw M_ss CN i0 i3 hsz
  have h3 := nsend7_h3 gg ss nn cc rn rc B0 AA RA xs rl ff tt w0 a0 hB0 hxl hnn hncc hccm hA0 hrn hrl hrow hraw M_ss CN i0 i3 hsz
  have h4 := nsend7_h4 gg ss nn cc rn rc B0 AA RA xs rl ff tt w0 a0 hB0 hxl hnn hncc hccm hA0 hrn hrl hrow hraw M_ss CN i0 i3 hsz
  have h5 := nsend7_h5 gg ss nn cc rn rc B0 AA RA xs rl ff tt w0 a0 hB0 hxl hnn hncc hccm hA0 hrn hrl hrow hraw M_ss CN i0 i3 hsz
  have h6 := nsend7_h6 gg ss nn cc rn rc B0 AA RA xs rl ff tt w0 a0 hB0 hxl hnn hncc hccm hA0 hrn hrl hrow hraw M_ss CN i0 i3 hsz
  have h7 := nsend7_h7 gg ss nn cc rn rc B0 AA RA xs rl ff tt w0 a0 hB0 hxl hnn hncc hccm hA0 hrn hrl hrow hraw M_ss CN i0 i3 hsz
  have h8 := nsend7_h8 gg ss nn cc rn rc B0 AA RA xs rl ff tt w0 a0 hB0 hxl hnn hncc hccm hA0 hrn hrl hrow hraw M_ss CN i0 i3 hsz
  have h9 := nsend7_h9 gg ss nn cc rn rc B0 AA RA xs rl ff tt w0 a0 hB0 hxl hnn hncc hccm hA0 hrn hrl hrow hraw M_ss CN i0 i3 hsz
  have h10 := nsend7_h10 gg ss nn cc rn rc B0 AA RA xs rl ff tt w0 a0 hB0 hxl hnn hncc hccm hA0 hrn hrl hrow hraw M_ss CN i0 i3 hsz
  have h11 := nsend7_h11 gg ss nn cc rn rc B0 AA RA xs rl ff tt w0 a0 hB0 hxl hnn hncc hccm hA0 hrn hrl hrow hraw M_ss CN i0 i3 hsz
  have h12 := nsend7_h12 gg ss nn cc rn rc B0 AA RA xs rl ff tt w0 a0 hB0 hxl hnn hncc hccm hA0 hrn hrl hrow hraw M_ss CN i0 i3 hsz
  refine Reg.region_rel (by kernel_rfl) [0, 1, 2, 3, 4, 5, 6, 7, 8, 9, 10, 11, 12] (nsend7R gg ss nn cc rn rc B0 AA RA xs rl ff tt) (fun _ _ _ _ => True) (by rw [hsz]; kernel_rfl) (nsend7_stable gg ss nn cc rn rc B0 AA RA xs rl ff tt) (fun i hi => ?_) (fun v w hb hR hD fuel hf => ?_)
  · simp only [List.mem_cons, List.not_mem_nil, or_false] at hi
    rcases hi with rfl | rfl | rfl | rfl | rfl | rfl | rfl | rfl | rfl | rfl | rfl | rfl | rfl
    · exact h0
    · exact h1
    · exact h2
    · exact h3
    · exact h4
    · exact h5
    · exact h6
    · exact h7
    · exact h8
    · exact h9
    · exact h10
    · exact h11
    · exact h12
  · obtain ⟨A2_, c2_, hv10, hf10⟩ := hR 10 (by decide)
    refine Reg.tail_one 13 (fun af => { dst := none, op := Op.store 67 (Operand.tmp 47) (Operand.tmp 45), type := 0, pos := "net.go:82", after := af, guard := none }) #[{ on := 12, ground := Ground.data }, { on := 10, ground := Ground.data }, { on := 10, ground := Ground.chain }, { on := 0, ground := Ground.phase }, { on := 1, ground := Ground.phase }, { on := 2, ground := Ground.phase }, { on := 3, ground := Ground.phase }, { on := 4, ground := Ground.phase }, { on := 5, ground := Ground.phase }, { on := 6, ground := Ground.phase }, { on := 7, ground := Ground.phase }, { on := 8, ground := Ground.phase }, { on := 9, ground := Ground.phase }, { on := 10, ground := Ground.phase }] (by kernel_rfl) (fun _ => rfl) (by decide) (by rw [hn]; decide) (by rw [hn]; decide) (by decide) (fun a' w' => a' = Reg.gfr (Reg.opsOf Try.f13 7) a0 v [0, 1, 2, 3, 4, 5, 6, 7, 8, 9, 10, 11, 12] ∧ w' = w.setCell ⟨gg, 1, none⟩ (Value.slice A2_ (nn + 1) c2_)) (fun af K hK => ?_) ?_ fuel hf
    · have v12 : v 12 = (Value.pointer (some ⟨gg, 1, none⟩)) := hR 12 (by decide)
      have e47 := (Reg.gfr_eval (ops := (Reg.opsOf Try.f13 7)) (a0 := a0) (v := v) (L := [0, 1, 2, 3, 4, 5, 6, 7, 8, 9, 10, 11, 12]) 47 12 (by kernel_rfl) (by rw [hsz]; omega)).trans v12
      have v10 := hv10
      have e45 := (Reg.gfr_eval (ops := (Reg.opsOf Try.f13 7)) (a0 := a0) (v := v) (L := [0, 1, 2, 3, 4, 5, 6, 7, 8, 9, 10, 11, 12]) 45 10 (by kernel_rfl) (by rw [hsz]; omega)).trans v10
      have hp := hK _ _ ⟨rfl, rfl⟩
      have c1 := CN w hb
      have c2 := FRO w hb
      generalize Reg.gfr (Reg.opsOf Try.f13 7) a0 v [0, 1, 2, 3, 4, 5, 6, 7, 8, 9, 10, 11, 12] = G at hp e47 e45 ⊢
      exact wp_store_slc 67 (Operand.tmp 47) (Operand.tmp 45) rfl _ e47 _ _ _ e45 _ c1 c2 (by kernel_rfl) rfl hp
    · rintro a' w' ⟨rfl, rfl⟩
      have v0 : v 0 = (Value.pointer (some ⟨gg, 0, none⟩)) := hR 0 (by decide)
      have v1 : v 1 = (Value.pointer (some ⟨gg, 0, none⟩)) := hR 1 (by decide)
      have v2 : v 2 = (Value.pointer (some ⟨gg, 0, none⟩)) := hR 2 (by decide)
      have v3 : v 3 = (Value.pointer (some ⟨gg, 1, none⟩)) := hR 3 (by decide)
      have v4 : v 4 = (Value.slice AA nn cc) := hR 4 (by decide)
      have v5 : v 5 = (Value.slice AA nn nn) := hR 5 (by decide)
      have v6 : v 6 = (Value.agg #[Value.int IntKind.i64 ff, Value.int IntKind.i64 tt, Value.slice RA rn rc]) := hR 6 (by decide)
      have v7 : v 7 = (Value.agg #[Value.int IntKind.i64 ff, Value.int IntKind.i64 tt, Value.slice RA rn rc, Value.bool false]) := hR 7 (by decide)
      have v11 : v 11 = (Value.pointer (some ⟨gg, 0, none⟩)) := hR 11 (by decide)
      have v12 : v 12 = (Value.pointer (some ⟨gg, 1, none⟩)) := hR 12 (by decide)
      rw [hfin v, v0, v1, v2, v3, v4, v5, v6, v7, v11, v12, hv10]
      exact hend w (v 8) (v 9) A2_ c2_ hb hf10
end Go.Proofs.Ytfojlmnlolnilaa
