/- Regions that draw their order: their obligations (printed by regen2.py). -/
import Derived.Test.YtfojlmnlolnilaaNetA
import Derived.Test.YtfojlmnlolnilaaApp
import Derived.Test.YtfojlmnlolnilaaRegT
namespace Go.Proofs.Ytfojlmnlolnilaa
open Go.RowKit
set_option linter.unusedVariables false
set_option linter.unusedSimpArgs false
set_option linter.unusedSectionVars false
def ndelay5R (gg ss nn cc rn rc B0 : Nat) (aa : Addr) (RA : Option Addr) (xs : List Value) (ff tt : Int) (bb : Bool) : Nat → Value → World → Prop
  | 0 => fun x_ _ => x_ = (Value.pointer (some ⟨gg, 0, none⟩))
  | 1 => fun x_ _ => x_ = (Value.pointer (some ⟨gg, 0, none⟩))
  | 2 => fun x_ _ => x_ = (Value.pointer (some ⟨gg, 0, none⟩))
  | 3 => fun x_ _ => x_ = (Value.pointer (some ⟨gg, 1, none⟩))
  | 4 => fun x_ _ => x_ = (Value.slice (some aa) nn cc)
  | 5 => fun x_ _ => x_ = (Value.agg #[Value.int IntKind.i64 ff, Value.int IntKind.i64 tt, Value.slice RA rn rc, Value.bool bb])
  | 6 => (fun u_ w_ => ∃ b_, u_ = Value.slice (some ⟨b_, 0, none⟩) 1 1 ∧ w_.heap[b_]? = some (.cells #[Value.int IntKind.i64 ff, Value.int IntKind.i64 tt, Value.slice RA rn rc, Value.bool bb] 74 (0, 0)))
  | 7 => (fun u_ w_ => ∃ A2_ c2_, u_ = Value.slice A2_ (nn + 1) c2_ ∧ w_.ownsRow B0 74 4 (Value.slice A2_ (nn + 1) c2_) (nn + 1) (xs ++ [Value.int IntKind.i64 ff, Value.int IntKind.i64 tt, Value.slice RA rn rc, Value.bool bb]))
  | 8 => fun x_ _ => x_ = (Value.pointer (some ⟨gg, 0, none⟩))
  | 9 => fun x_ _ => x_ = (Value.pointer (some ⟨gg, 1, none⟩))
  | _ => fun _ _ => True
theorem ndelay5_stable (gg ss nn cc rn rc B0 : Nat) (aa : Addr) (RA : Option Addr) (xs : List Value) (ff tt : Int) (bb : Bool) : ∀ i_ u_ w_ w_', (ndelay5R gg ss nn cc rn rc B0 aa RA xs ff tt bb) i_ u_ w_ → Below w_.heap.size w_ w_' → (ndelay5R gg ss nn cc rn rc B0 aa RA xs ff tt bb) i_ u_ w_' := fun i_ u_ w_ w_' h_ hb_ => by
  match i_, h_ with
  | 0, h_ => exact h_
  | 1, h_ => exact h_
  | 2, h_ => exact h_
  | 3, h_ => exact h_
  | 4, h_ => exact h_
  | 5, h_ => exact h_
  | 6, h_ => exact ((by obtain ⟨b_, h1_, h2_⟩ := h_; exact ⟨b_, h1_, (hb_.block _ (lt_get h2_)).trans h2_⟩))
  | 7, h_ => exact ((by obtain ⟨A2_, c2_, h0_, h1_⟩ := h_; exact ⟨A2_, c2_, h0_, own_below h1_ hb_⟩))
  | 8, h_ => exact h_
  | 9, h_ => exact h_
  | 10, h_ => exact h_
  | (_ + 11), _ => trivial
section
variable (gg ss nn cc rn rc B0 : Nat) (aa : Addr) (RA : Option Addr) (xs : List Value) (ff tt : Int) (bb : Bool) (w0 : World) (a0 : Act)
variable (hB0 : B0 ≤ w0.heap.size) (hxl : xs.length = nn * 4) (hnn : nn ≤ 10000) (hcc : cc = nn)
variable (hrow : ∀ W, Below w0.heap.size w0 W → RdC W (some aa) xs)
variable (M_ss : ∀ W, Below w0.heap.size w0 W → W.heap[ss]? = some (.cells #[Value.int IntKind.i64 ff, Value.int IntKind.i64 tt, Value.slice RA rn rc, Value.bool bb] 74 (0, 0)))
variable (CN : ∀ W, Below w0.heap.size w0 W → W.cell? ⟨gg, 1, none⟩ = some (Value.slice (some aa) nn cc))
variable (i0 : a0.eval (.tmp 0) = (Value.pointer (some ⟨gg, 0, none⟩))) (i6 : a0.eval (.tmp 6) = (Value.pointer (some ⟨ss, 0, none⟩))) (hsz : a0.tmps.size = 26)
include gg ss nn cc rn rc B0 aa RA xs ff tt bb w0 a0 hB0 hxl hnn hcc hrow M_ss CN i0 i6 hsz
set_option maxHeartbeats 4000000 in
set_option maxRecDepth 20000 in
theorem ndelay5_h0 :
    Reg.OpOK Try.prog (Reg.opsOf Try.f14 5) a0 w0 (ndelay5R gg ss nn cc rn rc B0 aa RA xs ff tt bb) (fun _ _ _ _ => True) 0 := by
    refine Reg.op_ok2 (fun af => { dst := some 16, op := Op.move (Operand.tmp 0), type := 30, pos := "net.go:139", after := af, guard := none }) #[] (by kernel_rfl) [] (by kernel_rfl) fun af v W hb hd => ?_
    have e0 := (Reg.gfr_eval0 (ops := (Reg.opsOf Try.f14 5)) (a0 := a0) (v := v) (L := []) 0 (by kernel_rfl)).trans i0
    refine ⟨Reg.wanted_none rfl, ?_⟩
    generalize Reg.gfr (Reg.opsOf Try.f14 5) a0 v [] = G at e0 ⊢
    generalize hρ : G.eval = ρ at e0
    have hρ' : G.eval = ρ := hρ
    refine Reg.go_run (Value.pointer (some ⟨gg, 0, none⟩)) W ?_ ?_
    · rw [hρ']; simp [execOp, go_sem, e0]
    · exact ⟨Below.refl _ _, rfl⟩
set_option maxHeartbeats 4000000 in
set_option maxRecDepth 20000 in
theorem ndelay5_h1 :
    Reg.OpOK Try.prog (Reg.opsOf Try.f14 5) a0 w0 (ndelay5R gg ss nn cc rn rc B0 aa RA xs ff tt bb) (fun _ _ _ _ => True) 1 := by
    refine Reg.op_ok2 (fun af => { dst := some 17, op := Op.move (Operand.tmp 0), type := 30, pos := "net.go:139", after := af, guard := none }) #[] (by kernel_rfl) [] (by kernel_rfl) fun af v W hb hd => ?_
    have e0 := (Reg.gfr_eval0 (ops := (Reg.opsOf Try.f14 5)) (a0 := a0) (v := v) (L := []) 0 (by kernel_rfl)).trans i0
    refine ⟨Reg.wanted_none rfl, ?_⟩
    generalize Reg.gfr (Reg.opsOf Try.f14 5) a0 v [] = G at e0 ⊢
    generalize hρ : G.eval = ρ at e0
    have hρ' : G.eval = ρ := hρ
    refine Reg.go_run (Value.pointer (some ⟨gg, 0, none⟩)) W ?_ ?_
    · rw [hρ']; simp [execOp, go_sem, e0]
    · exact ⟨Below.refl _ _, rfl⟩
set_option maxHeartbeats 4000000 in
set_option maxRecDepth 20000 in
theorem ndelay5_h2 :
    Reg.OpOK Try.prog (Reg.opsOf Try.f14 5) a0 w0 (ndelay5R gg ss nn cc rn rc B0 aa RA xs ff tt bb) (fun _ _ _ _ => True) 2 := by
    refine Reg.op_ok2 (fun af => { dst := some 18, op := Op.nilCheck (Operand.tmp 17), type := 0, pos := "net.go:139", after := af, guard := none }) #[{ on := 1, ground := Ground.data }] (by kernel_rfl) [1] (by kernel_rfl) fun af v W hb hd => ?_
    have d1 : v 1 = (Value.pointer (some ⟨gg, 0, none⟩)) := hd 1 (by decide)
    have e17 := (Reg.gfr_eval (ops := (Reg.opsOf Try.f14 5)) (a0 := a0) (v := v) (L := [1]) 17 1 (by kernel_rfl) (by rw [hsz]; omega)).trans d1
    refine ⟨Reg.wanted_none rfl, ?_⟩
    generalize Reg.gfr (Reg.opsOf Try.f14 5) a0 v [1] = G at e17 ⊢
    generalize hρ : G.eval = ρ at e17
    have hρ' : G.eval = ρ := hρ
    refine Reg.go_run (Value.pointer (some ⟨gg, 0, none⟩)) W ?_ ?_
    · rw [hρ']; simp [execOp, go_sem, e17]
    · exact ⟨Below.refl _ _, rfl⟩
set_option maxHeartbeats 4000000 in
set_option maxRecDepth 20000 in
theorem ndelay5_h3 :
    Reg.OpOK Try.prog (Reg.opsOf Try.f14 5) a0 w0 (ndelay5R gg ss nn cc rn rc B0 aa RA xs ff tt bb) (fun _ _ _ _ => True) 3 := by
    refine Reg.op_ok2 (fun af => { dst := some 19, op := Op.fieldAddr 70 (Operand.tmp 18) 1, type := 0, pos := "net.go:139", after := af, guard := none }) #[{ on := 2, ground := Ground.data }] (by kernel_rfl) [2] (by kernel_rfl) fun af v W hb hd => ?_
    have d2 : v 2 = (Value.pointer (some ⟨gg, 0, none⟩)) := hd 2 (by decide)
    have e18 := (Reg.gfr_eval (ops := (Reg.opsOf Try.f14 5)) (a0 := a0) (v := v) (L := [2]) 18 2 (by kernel_rfl) (by rw [hsz]; omega)).trans d2
    refine ⟨Reg.wanted_none rfl, ?_⟩
    generalize Reg.gfr (Reg.opsOf Try.f14 5) a0 v [2] = G at e18 ⊢
    generalize hρ : G.eval = ρ at e18
    have hρ' : G.eval = ρ := hρ
    refine Reg.go_run (Value.pointer (some ⟨gg, 1, none⟩)) W ?_ ?_
    · rw [hρ']; simp [execOp, go_sem, e18]
    · exact ⟨Below.refl _ _, rfl⟩
set_option maxHeartbeats 4000000 in
set_option maxRecDepth 20000 in
theorem ndelay5_h4 :
    Reg.OpOK Try.prog (Reg.opsOf Try.f14 5) a0 w0 (ndelay5R gg ss nn cc rn rc B0 aa RA xs ff tt bb) (fun _ _ _ _ => True) 4 := by
    refine Reg.op_ok2 (fun af => { dst := some 20, op := Op.load 67 (Operand.tmp 19), type := 67, pos := "net.go:139", after := af, guard := none }) #[{ on := 3, ground := Ground.data }] (by kernel_rfl) [3] (by kernel_rfl) fun af v W hb hd => ?_
    have d3 : v 3 = (Value.pointer (some ⟨gg, 1, none⟩)) := hd 3 (by decide)
    have e19 := (Reg.gfr_eval (ops := (Reg.opsOf Try.f14 5)) (a0 := a0) (v := v) (L := [3]) 19 3 (by kernel_rfl) (by rw [hsz]; omega)).trans d3
    refine ⟨Reg.wanted_none rfl, ?_⟩
    generalize Reg.gfr (Reg.opsOf Try.f14 5) a0 v [3] = G at e19 ⊢
    generalize hρ : G.eval = ρ at e19
    have hρ' : G.eval = ρ := hρ
    refine Reg.go_run (Value.slice (some aa) nn cc) W ?_ ?_
    · rw [hρ']; simp [execOp, go_sem, e19, CN W hb]
    · exact ⟨Below.refl _ _, rfl⟩
set_option maxHeartbeats 4000000 in
set_option maxRecDepth 20000 in
theorem ndelay5_h5 :
    Reg.OpOK Try.prog (Reg.opsOf Try.f14 5) a0 w0 (ndelay5R gg ss nn cc rn rc B0 aa RA xs ff tt bb) (fun _ _ _ _ => True) 5 := by
    refine Reg.op_ok2 (fun af => { dst := some 21, op := Op.load 74 (Operand.tmp 6), type := 74, pos := "net.go:139", after := af, guard := none }) #[] (by kernel_rfl) [] (by kernel_rfl) fun af v W hb hd => ?_
    have e6 := (Reg.gfr_eval0 (ops := (Reg.opsOf Try.f14 5)) (a0 := a0) (v := v) (L := []) 6 (by kernel_rfl)).trans i6
    refine ⟨Reg.wanted_none rfl, ?_⟩
    generalize Reg.gfr (Reg.opsOf Try.f14 5) a0 v [] = G at e6 ⊢
    generalize hρ : G.eval = ρ at e6
    have hρ' : G.eval = ρ := hρ
    exact fun K hK => wp_load_row 74 (.tmp 6) rfl ss (by rw [hρ']; exact e6) 74 #[Value.int IntKind.i64 ff, Value.int IntKind.i64 tt, Value.slice RA rn rc, Value.bool bb] (0, 0) _ (M_ss W hb) Try.underlying74 rfl size_fl4 (hK _ _ ⟨Below.refl _ _, rfl⟩)
set_option maxHeartbeats 4000000 in
set_option maxRecDepth 20000 in
theorem ndelay5_h6 :
    Reg.OpOK Try.prog (Reg.opsOf Try.f14 5) a0 w0 (ndelay5R gg ss nn cc rn rc B0 aa RA xs ff tt bb) (fun _ _ _ _ => True) 6 := by
    refine Reg.op_ok2 (fun af => { dst := some 22, op := Op.buildSlice 67 1 #[(0, Operand.tmp 21)], type := 67, pos := "net.go:139", after := af, guard := none }) #[{ on := 5, ground := Ground.data }] (by kernel_rfl) [5] (by kernel_rfl) fun af v W hb hd => ?_
    have d5 : v 5 = (Value.agg #[Value.int IntKind.i64 ff, Value.int IntKind.i64 tt, Value.slice RA rn rc, Value.bool bb]) := hd 5 (by decide)
    have e21 := (Reg.gfr_eval (ops := (Reg.opsOf Try.f14 5)) (a0 := a0) (v := v) (L := [5]) 21 5 (by kernel_rfl) (by rw [hsz]; omega)).trans d5
    refine ⟨Reg.wanted_none rfl, ?_⟩
    generalize Reg.gfr (Reg.opsOf Try.f14 5) a0 v [5] = G at e21 ⊢
    generalize hρ : G.eval = ρ at e21
    have hρ' : G.eval = ρ := hρ
    refine Reg.go_run (Value.slice (some ⟨W.heap.size, 0, none⟩) 1 1) (W.alloc (.cells #[Value.int IntKind.i64 ff, Value.int IntKind.i64 tt, Value.slice RA rn rc, Value.bool bb] 74)) (by rw [hρ']; simp [execOp, go_sem, e21]) ⟨(Below.refl _ _).alloc (Nat.le_refl _) _, ⟨_, rfl, heap_alloc_new _ _⟩⟩
set_option maxHeartbeats 4000000 in
set_option maxRecDepth 20000 in
theorem ndelay5_h7 :
    Reg.OpOK Try.prog (Reg.opsOf Try.f14 5) a0 w0 (ndelay5R gg ss nn cc rn rc B0 aa RA xs ff tt bb) (fun _ _ _ _ => True) 7 := by
    refine Reg.op_ok2 (fun af => { dst := some 23, op := Op.call { callee := Callee.builtin Builtin.append, args := #[Operand.tmp 20, Operand.tmp 22], argTypes := #[67, 67] }, type := 67, pos := "net.go:139", after := af, guard := none }) #[{ on := 4, ground := Ground.data }, { on := 6, ground := Ground.data }] (by kernel_rfl) [4, 6] (by kernel_rfl) fun af v W hb hd => ?_
    have d4 : v 4 = (Value.slice (some aa) nn cc) := hd 4 (by decide)
    have d6 : ((fun u_ w_ => ∃ b_, u_ = Value.slice (some ⟨b_, 0, none⟩) 1 1 ∧ w_.heap[b_]? = some (.cells #[Value.int IntKind.i64 ff, Value.int IntKind.i64 tt, Value.slice RA rn rc, Value.bool bb] 74 (0, 0)))) (v 6) W := hd 6 (by decide)
    have e20 := (Reg.gfr_eval (ops := (Reg.opsOf Try.f14 5)) (a0 := a0) (v := v) (L := [4, 6]) 20 4 (by kernel_rfl) (by rw [hsz]; omega)).trans d4
    have e22 := Reg.gfr_eval (ops := (Reg.opsOf Try.f14 5)) (a0 := a0) (v := v) (L := [4, 6]) 22 6 (by kernel_rfl) (by rw [hsz]; omega)
    refine ⟨Reg.wanted_none rfl, ?_⟩
    generalize Reg.gfr (Reg.opsOf Try.f14 5) a0 v [4, 6] = G at e20 e22 ⊢
    generalize hρ : G.eval = ρ at e20 e22
    have hρ' : G.eval = ρ := hρ
    obtain ⟨b_, hv_, hc_⟩ := d6
    rw [hv_] at e22
    obtain ⟨v_, w_, hrun_, ho2_, hb2_⟩ := run_app_new (P := Try.prog) elt74 67 W (some aa) nn cc xs hxl (hrow W hb) (fun h => by cases h) ⟨b_, 0, none⟩ 1 1 [Value.int IntKind.i64 ff, Value.int IntKind.i64 tt, Value.slice RA rn rc, Value.bool bb] rfl (rd_fl hc_) (by omega) (by unfold maxLen; omega) (by omega)
    rw [appK_hide] at hrun_
    obtain ⟨A2_, c2_, rfl, _⟩ := RdC.of_own ho2_
    refine Reg.go_run _ w_ (by rw [hρ']; simp [execOp, go_sem, e20, e22, ↓appK_hide, hrun_]) ⟨hb2_, ⟨A2_, c2_, rfl, own_mono ho2_ (Nat.le_trans hB0 hb.size)⟩⟩
set_option maxHeartbeats 4000000 in
set_option maxRecDepth 20000 in
theorem ndelay5_h8 :
    Reg.OpOK Try.prog (Reg.opsOf Try.f14 5) a0 w0 (ndelay5R gg ss nn cc rn rc B0 aa RA xs ff tt bb) (fun _ _ _ _ => True) 8 := by
    refine Reg.op_ok2 (fun af => { dst := some 24, op := Op.nilCheck (Operand.tmp 16), type := 0, pos := "net.go:139", after := af, guard := none }) #[{ on := 0, ground := Ground.data }, { on := 0, ground := Ground.phase }, { on := 1, ground := Ground.phase }, { on := 2, ground := Ground.phase }, { on := 3, ground := Ground.phase }, { on := 4, ground := Ground.phase }, { on := 5, ground := Ground.phase }, { on := 6, ground := Ground.phase }, { on := 7, ground := Ground.phase }] (by kernel_rfl) [0, 0, 1, 2, 3, 4, 5, 6, 7] (by kernel_rfl) fun af v W hb hd => ?_
    have d0 : v 0 = (Value.pointer (some ⟨gg, 0, none⟩)) := hd 0 (by decide)
    have e16 := (Reg.gfr_eval (ops := (Reg.opsOf Try.f14 5)) (a0 := a0) (v := v) (L := [0, 0, 1, 2, 3, 4, 5, 6, 7]) 16 0 (by kernel_rfl) (by rw [hsz]; omega)).trans d0
    refine ⟨Reg.wanted_none rfl, ?_⟩
    generalize Reg.gfr (Reg.opsOf Try.f14 5) a0 v [0, 0, 1, 2, 3, 4, 5, 6, 7] = G at e16 ⊢
    generalize hρ : G.eval = ρ at e16
    have hρ' : G.eval = ρ := hρ
    refine Reg.go_run (Value.pointer (some ⟨gg, 0, none⟩)) W ?_ ?_
    · rw [hρ']; simp [execOp, go_sem, e16]
    · exact ⟨Below.refl _ _, rfl⟩
set_option maxHeartbeats 4000000 in
set_option maxRecDepth 20000 in
theorem ndelay5_h9 :
    Reg.OpOK Try.prog (Reg.opsOf Try.f14 5) a0 w0 (ndelay5R gg ss nn cc rn rc B0 aa RA xs ff tt bb) (fun _ _ _ _ => True) 9 := by
    refine Reg.op_ok2 (fun af => { dst := some 25, op := Op.fieldAddr 70 (Operand.tmp 24) 1, type := 0, pos := "net.go:139", after := af, guard := none }) #[{ on := 8, ground := Ground.data }, { on := 0, ground := Ground.phase }, { on := 1, ground := Ground.phase }, { on := 2, ground := Ground.phase }, { on := 3, ground := Ground.phase }, { on := 4, ground := Ground.phase }, { on := 5, ground := Ground.phase }, { on := 6, ground := Ground.phase }, { on := 7, ground := Ground.phase }] (by kernel_rfl) [8, 0, 1, 2, 3, 4, 5, 6, 7] (by kernel_rfl) fun af v W hb hd => ?_
    have d8 : v 8 = (Value.pointer (some ⟨gg, 0, none⟩)) := hd 8 (by decide)
    have e24 := (Reg.gfr_eval (ops := (Reg.opsOf Try.f14 5)) (a0 := a0) (v := v) (L := [8, 0, 1, 2, 3, 4, 5, 6, 7]) 24 8 (by kernel_rfl) (by rw [hsz]; omega)).trans d8
    refine ⟨Reg.wanted_none rfl, ?_⟩
    generalize Reg.gfr (Reg.opsOf Try.f14 5) a0 v [8, 0, 1, 2, 3, 4, 5, 6, 7] = G at e24 ⊢
    generalize hρ : G.eval = ρ at e24
    have hρ' : G.eval = ρ := hρ
    refine Reg.go_run (Value.pointer (some ⟨gg, 1, none⟩)) W ?_ ?_
    · rw [hρ']; simp [execOp, go_sem, e24]
    · exact ⟨Below.refl _ _, rfl⟩
end
set_option maxHeartbeats 4000000 in
set_option maxRecDepth 20000 in
theorem ndelay5 (gg ss nn cc rn rc B0 : Nat) (aa : Addr) (RA : Option Addr) (xs : List Value) (ff tt : Int) (bb : Bool) (w0 : World) {s1 s2 s3 s4 s5 s7 s8 s9 s10 s11 s12 s13 s14 s15 s16 s17 s18 s19 s20 s21 s22 s23 s24 s25 : Value}
    (hB0 : B0 ≤ w0.heap.size) (hxl : xs.length = nn * 4) (hnn : nn ≤ 10000) (hcc : cc = nn)
    (hrow : ∀ W, Below w0.heap.size w0 W → RdC W (some aa) xs)
    (M_ss : ∀ W, Below w0.heap.size w0 W → W.heap[ss]? = some (.cells #[Value.int IntKind.i64 ff, Value.int IntKind.i64 tt, Value.slice RA rn rc, Value.bool bb] 74 (0, 0)))
    (CN : ∀ W, Below w0.heap.size w0 W → W.cell? ⟨gg, 1, none⟩ = some (Value.slice (some aa) nn cc))
    {Q : Exit → Act → World → Prop}
    (FRO : ∀ W, Below w0.heap.size w0 W → W.frozen? ⟨gg, 1, none⟩ = false)
    (hend : ∀ (w : World) (r22 : Value) (A2_ : Option Addr) (c2_ : Nat), Below w0.heap.size w0 w → (w.ownsRow B0 74 4 (Value.slice A2_ (nn + 1) c2_) (nn + 1) (xs ++ [Value.int IntKind.i64 ff, Value.int IntKind.i64 tt, Value.slice RA rn rc, Value.bool bb])) → Q .normal { tmps := #[(Value.pointer (some ⟨gg, 0, none⟩)), s1, s2, s3, s4, s5, (Value.pointer (some ⟨ss, 0, none⟩)), s7, s8, s9, s10, s11, s12, s13, s14, s15, (Value.pointer (some ⟨gg, 0, none⟩)), (Value.pointer (some ⟨gg, 0, none⟩)), (Value.pointer (some ⟨gg, 0, none⟩)), (Value.pointer (some ⟨gg, 1, none⟩)), (Value.slice (some aa) nn cc), (Value.agg #[Value.int IntKind.i64 ff, Value.int IntKind.i64 tt, Value.slice RA rn rc, Value.bool bb]), r22, (Value.slice A2_ (nn + 1) c2_), (Value.pointer (some ⟨gg, 0, none⟩)), (Value.pointer (some ⟨gg, 1, none⟩))], defers := [] } (w.setCell ⟨gg, 1, none⟩ (Value.slice A2_ (nn + 1) c2_))) :
    (Code.region 5 (Reg.opsOf Try.f14 5) true).wp Try.prog Q { tmps := #[(Value.pointer (some ⟨gg, 0, none⟩)), s1, s2, s3, s4, s5, (Value.pointer (some ⟨ss, 0, none⟩)), s7, s8, s9, s10, s11, s12, s13, s14, s15, s16, s17, s18, s19, s20, s21, s22, s23, s24, s25], defers := [] } w0 := by
  obtain ⟨a0, ha0⟩ : ∃ a0 : Act, a0 = { tmps := #[(Value.pointer (some ⟨gg, 0, none⟩)), s1, s2, s3, s4, s5, (Value.pointer (some ⟨ss, 0, none⟩)), s7, s8, s9, s10, s11, s12, s13, s14, s15, s16, s17, s18, s19, s20, s21, s22, s23, s24, s25], defers := [] } := ⟨_, rfl⟩
  have hfin : ∀ v : Nat → Value, Reg.gfr (Reg.opsOf Try.f14 5) a0 v [0, 1, 2, 3, 4, 5, 6, 7, 8, 9] = { tmps := #[(Value.pointer (some ⟨gg, 0, none⟩)), s1, s2, s3, s4, s5, (Value.pointer (some ⟨ss, 0, none⟩)), s7, s8, s9, s10, s11, s12, s13, s14, s15, v 0, v 1, v 2, v 3, v 4, v 5, v 6, v 7, v 8, v 9], defers := [] } := fun v => by rw [ha0]; kernel_rfl
  rw [← ha0]
  have i0 : a0.eval (.tmp 0) = (Value.pointer (some ⟨gg, 0, none⟩)) := by rw [ha0]; rfl
  have i6 : a0.eval (.tmp 6) = (Value.pointer (some ⟨ss, 0, none⟩)) := by rw [ha0]; rfl
  have hsz : a0.tmps.size = 26 := by rw [ha0]; rfl
  clear ha0
  have hn : (Reg.opsOf Try.f14 5).size = 11 := by kernel_rfl
  have h0 := ndelay5_h0 gg ss nn cc rn rc B0 aa RA xs ff tt bb w0 a0 hB0 hxl hnn hcc hrow M_ss CN i0 i6 hsz
  have h1 := ndelay5_h1 gg ss nn cc rn rc B0 aa RA xs ff tt bb w0 a0 hB0 hxl hnn hcc hrow M_ss CN i0 i6 hsz
  have h2 := ndelay5_h2 gg ss nn cc rn rc B0 aa RA xs ff tt bb w0 a0 hB0 hxl hnn hcc hrow M_ss CN i0 i6 hsz
  have h3 := ndelay5_h3 gg ss nn cc rn rc B0 aa RA xs ff tt bb w0 a0 hB0 hxl hnn hcc hrow M_ss CN i0 i6 hsz
  have h4 := ndelay5_h4 gg ss nn cc rn rc B0 aa RA xs ff tt bb w0 a0 hB0 hxl hnn hcc hrow M_ss CN i0 i6 hsz
  have h5 := ndelay5_h5 gg ss nn cc rn rc B0 aa RA xs ff tt bb w0 a0 hB0 hxl hnn hcc hrow M_ss CN i0 i6 hsz
  have h6 := ndelay5_h6 gg ss nn cc rn rc B0 aa RA xs ff tt bb w0 a0 hB0 hxl hnn hcc hrow M_ss CN i0 i6 hsz
  have h7 := ndelay5_h7 gg ss nn cc rn rc B0 aa RA xs ff tt bb w0 a0 hB0 hxl hnn hcc hrow M_ss CN i0 i6 hsz
  have h8 := ndelay5_h8 gg ss nn cc rn rc B0 aa RA xs ff tt bb w0 a0 hB0 hxl hnn hcc hrow M_ss CN i0 i6 hsz
  have h9 := ndelay5_h9 gg ss nn cc rn rc B0 aa RA xs ff tt bb w0 a0 hB0 hxl hnn hcc hrow M_ss CN i0 i6 hsz
  refine Reg.region_rel (by kernel_rfl) [0, 1, 2, 3, 4, 5, 6, 7, 8, 9] (ndelay5R gg ss nn cc rn rc B0 aa RA xs ff tt bb) (fun _ _ _ _ => True) (by rw [hsz]; kernel_rfl) (ndelay5_stable gg ss nn cc rn rc B0 aa RA xs ff tt bb) (fun i hi => ?_) (fun v w hb hR hD fuel hf => ?_)
  · simp only [List.mem_cons, List.not_mem_nil, or_false] at hi
    rcases hi with rfl | rfl | rfl | rfl | rfl | rfl | rfl | rfl | rfl | rfl
    · exact h0
    · exact h1
    · exact h2
    · exact h3
    · exact h4
    · exact h5
    · exact h6
    · exact h7
    · exact h8
    · exact h9
  · obtain ⟨A2_, c2_, hv7, hf7⟩ := hR 7 (by decide)
    refine Reg.tail_one 10 (fun af => { dst := none, op := Op.store 67 (Operand.tmp 25) (Operand.tmp 23), type := 0, pos := "net.go:139", after := af, guard := none }) #[{ on := 9, ground := Ground.data }, { on := 7, ground := Ground.data }, { on := 7, ground := Ground.chain }, { on := 0, ground := Ground.phase }, { on := 1, ground := Ground.phase }, { on := 2, ground := Ground.phase }, { on := 3, ground := Ground.phase }, { on := 4, ground := Ground.phase }, { on := 5, ground := Ground.phase }, { on := 6, ground := Ground.phase }, { on := 7, ground := Ground.phase }] (by kernel_rfl) (fun _ => rfl) (by decide) (by rw [hn]; decide) (by rw [hn]; decide) (by decide) (fun a' w' => a' = Reg.gfr (Reg.opsOf Try.f14 5) a0 v [0, 1, 2, 3, 4, 5, 6, 7, 8, 9] ∧ w' = w.setCell ⟨gg, 1, none⟩ (Value.slice A2_ (nn + 1) c2_)) (fun af K hK => ?_) ?_ fuel hf
    · have v9 : v 9 = (Value.pointer (some ⟨gg, 1, none⟩)) := hR 9 (by decide)
      have e25 := (Reg.gfr_eval (ops := (Reg.opsOf Try.f14 5)) (a0 := a0) (v := v) (L := [0, 1, 2, 3, 4, 5, 6, 7, 8, 9]) 25 9 (by kernel_rfl) (by rw [hsz]; omega)).trans v9
      have v7 := hv7
      have e23 := (Reg.gfr_eval (ops := (Reg.opsOf Try.f14 5)) (a0 := a0) (v := v) (L := [0, 1, 2, 3, 4, 5, 6, 7, 8, 9]) 23 7 (by kernel_rfl) (by rw [hsz]; omega)).trans v7
      have hp := hK _ _ ⟨rfl, rfl⟩
      have c1 := CN w hb
      have c2 := FRO w hb
      generalize Reg.gfr (Reg.opsOf Try.f14 5) a0 v [0, 1, 2, 3, 4, 5, 6, 7, 8, 9] = G at hp e25 e23 ⊢
      exact wp_store_slc 67 (Operand.tmp 25) (Operand.tmp 23) rfl _ e25 _ _ _ e23 _ c1 c2 (by kernel_rfl) rfl hp
    · rintro a' w' ⟨rfl, rfl⟩
      have v0 : v 0 = (Value.pointer (some ⟨gg, 0, none⟩)) := hR 0 (by decide)
      have v1 : v 1 = (Value.pointer (some ⟨gg, 0, none⟩)) := hR 1 (by decide)
      have v2 : v 2 = (Value.pointer (some ⟨gg, 0, none⟩)) := hR 2 (by decide)
      have v3 : v 3 = (Value.pointer (some ⟨gg, 1, none⟩)) := hR 3 (by decide)
      have v4 : v 4 = (Value.slice (some aa) nn cc) := hR 4 (by decide)
      have v5 : v 5 = (Value.agg #[Value.int IntKind.i64 ff, Value.int IntKind.i64 tt, Value.slice RA rn rc, Value.bool bb]) := hR 5 (by decide)
      have v8 : v 8 = (Value.pointer (some ⟨gg, 0, none⟩)) := hR 8 (by decide)
      have v9 : v 9 = (Value.pointer (some ⟨gg, 1, none⟩)) := hR 9 (by decide)
      rw [hfin v, v0, v1, v2, v3, v4, v5, v8, v9, hv7]
      exact hend w (v 6) A2_ c2_ hb hf7
end Go.Proofs.Ytfojlmnlolnilaa
