/- Texts of this proof, laid into one: SetA, SetGa. -/
import Derived.Test.YtcdnbidenaljlaaDoorMHashNames7
import Derived.Test.YtcdnbidenaljlaaDoorMHashNames12
import Derived.Deep.MidRow
/- Ids in order: transitivity; what a binary search among rising ids finds. -/
namespace Go.Proofs.YtcdnbidenaljlaaDoor
open Go.RowKit

theorem cmp_trans : ∀ (a b c : List UInt8), Lib.compareBytes a b ≤ 0 → Lib.compareBytes b c ≤ 0 → Lib.compareBytes a c ≤ 0 ∧ (Lib.compareBytes a b < 0 ∨ Lib.compareBytes b c < 0 → Lib.compareBytes a c < 0)
  | [], [], [], _, _ => by decide
  | [], [], _ :: _, _, _ => by simp [Lib.compareBytes]
  | [], _ :: _, [], _, h => by simp [Lib.compareBytes] at h
  | [], _ :: _, _ :: _, _, _ => by simp [Lib.compareBytes]
  | _ :: _, [], _, h, _ => by simp [Lib.compareBytes] at h
  | _ :: _, _ :: _, [], _, h => by simp [Lib.compareBytes] at h
  | x :: a, y :: b, z :: c, h1, h2 => by
    have ih := cmp_trans a b c
    rw [Lib.compareBytes] at h1 h2 ⊢
    have exy : x < y ↔ x.toNat < y.toNat := UInt8.lt_iff_toNat_lt
    have eyx : y < x ↔ y.toNat < x.toNat := UInt8.lt_iff_toNat_lt
    have eyz : y < z ↔ y.toNat < z.toNat := UInt8.lt_iff_toNat_lt
    have ezy : z < y ↔ z.toNat < y.toNat := UInt8.lt_iff_toNat_lt
    have exz : x < z ↔ x.toNat < z.toNat := UInt8.lt_iff_toNat_lt
    have ezx : z < x ↔ z.toNat < x.toNat := UInt8.lt_iff_toNat_lt
    by_cases k1 : x < y
    · have n1 := exy.1 k1
      by_cases k2 : y < z
      · have n2 := eyz.1 k2
        rw [if_pos (exz.2 (by omega))]
        omega
      · rw [if_neg k2] at h2
        by_cases k3 : z < y
        · rw [if_pos k3] at h2; omega
        · have : z.toNat = y.toNat := by
            have a1 : ¬ y.toNat < z.toNat := fun h => k2 (eyz.2 h)
            have a2 : ¬ z.toNat < y.toNat := fun h => k3 (ezy.2 h)
            omega
          rw [if_pos (exz.2 (by omega))]
          omega
    · rw [if_neg k1] at h1
      rw [Lib.compareBytes, if_neg k1]
      by_cases k2 : y < x
      · rw [if_pos k2] at h1; omega
      · rw [if_neg k2] at h1 ⊢
        have exy' : x = y := UInt8.toNat_inj.1 (by
          have a1 : ¬ x.toNat < y.toNat := fun h => k1 (exy.2 h)
          have a2 : ¬ y.toNat < x.toNat := fun h => k2 (eyx.2 h)
          omega)
        subst exy'
        rw [Lib.compareBytes]
        by_cases k3 : x < z
        · rw [if_pos k3]; omega
        · rw [if_neg k3] at h2 ⊢
          by_cases k4 : z < x
          · rw [if_pos k4] at h2; omega
          · rw [if_neg k4] at h2 ⊢
            simp only [if_neg k3, if_neg k4]
            exact ih h1 h2
theorem cmp_eq0 : ∀ (a b : List UInt8), a.length = b.length → Lib.compareBytes a b = 0 → a = b
  | [], [], _, _ => rfl
  | [], _ :: _, h, _ => by simp at h
  | _ :: _, [], h, _ => by simp at h
  | c :: a, d :: b, h, hz => by
    have ih := cmp_eq0 a b (by simpa using h)
    rw [Lib.compareBytes] at hz
    have hlt : c < d ↔ c.toNat < d.toNat := UInt8.lt_iff_toNat_lt
    have hgt : d < c ↔ d.toNat < c.toNat := UInt8.lt_iff_toNat_lt
    by_cases k1 : c < d
    · rw [if_pos k1] at hz; omega
    · rw [if_neg k1] at hz
      by_cases k2 : d < c
      · rw [if_pos k2] at hz; omega
      · rw [if_neg k2] at hz
        have : c = d := UInt8.toNat_inj.1 (by
          have a1 : ¬ c.toNat < d.toNat := fun x => k1 (hlt.2 x)
          have a2 : ¬ d.toNat < c.toNat := fun x => k2 (hgt.2 x)
          omega)
        rw [this, ih hz]
/-- Rising, each once. -/
def Rise (L : List (List UInt8)) : Prop := ∀ i j (hi : i < L.length) (hj : j < L.length), i < j → Lib.compareBytes L[i] L[j] < 0
theorem Rise.lo {L : List (List UInt8)} (h : Rise L) {t : List UInt8} {k : Nat} (hk : k < L.length) (ht : Lib.compareBytes L[k] t < 0) : ∀ p (hp : p < L.length), p ≤ k → Lib.compareBytes L[p] t < 0 := fun p hp hpk => by
  rcases Nat.lt_or_ge p k with hlt | hge
  · exact (cmp_trans _ _ _ (Int.le_of_lt (h p k hp hk hlt)) (Int.le_of_lt ht)).2 (.inl (h p k hp hk hlt))
  · obtain rfl : p = k := by omega
    exact ht
theorem Rise.hi {L : List (List UInt8)} (h : Rise L) {t : List UInt8} {k : Nat} (hk : k < L.length) (ht : ¬ Lib.compareBytes L[k] t < 0) : ∀ p (hp : p < L.length), k ≤ p → ¬ Lib.compareBytes L[p] t < 0 := fun p hp hpk hlt => by
  rcases Nat.lt_or_ge k p with h1 | h1
  · exact ht ((cmp_trans _ _ _ (Int.le_of_lt (h k p hk hp h1)) (Int.le_of_lt hlt)).2 (.inl (h k p hk hp h1)))
  · obtain rfl : p = k := by omega
    exact ht hlt
end Go.Proofs.YtcdnbidenaljlaaDoor

/- Regions that draw their order: their obligations (printed by regen2.py). -/
namespace Go.Proofs.YtcdnbidenaljlaaDoor
open Go.RowKit
set_option linter.unusedVariables false
set_option linter.unusedSimpArgs false
set_option linter.unusedSectionVars false
def bs5R (g o n c h tb : Nat) (S : List Value) (TC : Array Value) (xv : Int) : Nat → Value → World → Prop
  | 0 => fun x_ _ => x_ = (Value.func (Fn.func 16) #[] #[])
  | 1 => fun x_ _ => x_ = (Value.slice (some ⟨g, o, none⟩) n c)
  | 2 => fun x_ _ => x_ = (Value.int IntKind.i64 (h : Int))
  | 3 => fun x_ _ => x_ = (Value.pointer (some ⟨g, o + h * 32, none⟩))
  | 4 => fun x_ _ => x_ = (Value.agg S.toArray)
  | 5 => fun x_ _ => x_ = (Value.agg TC)
  | 6 => fun x_ _ => x_ = (Value.int IntKind.i64 xv)
  | 7 => fun x_ _ => x_ = (Value.bool (decide (xv < 0)))
  | _ => fun _ _ => True
theorem bs5_stable (g o n c h tb : Nat) (S : List Value) (TC : Array Value) (xv : Int) : ∀ i_ u_ w_ w_', (bs5R g o n c h tb S TC xv) i_ u_ w_ → Below w_.heap.size w_ w_' → (bs5R g o n c h tb S TC xv) i_ u_ w_' := fun i_ u_ w_ w_' h_ hb_ => by
  match i_, h_ with
  | 0, h_ => exact h_
  | 1, h_ => exact h_
  | 2, h_ => exact h_
  | 3, h_ => exact h_
  | 4, h_ => exact h_
  | 5, h_ => exact h_
  | 6, h_ => exact h_
  | 7, h_ => exact h_
  | (_ + 8), _ => trivial
section
variable (g o n c h tb : Nat) (S : List Value) (TC : Array Value) (xv : Int) (w0 : World) (a0 : Act)
variable (hhn : (h : Int) < (n : Int))
variable (hld : ∀ W, Below w0.heap.size w0 W → W.rangeAt g (o + h * 32) S)
variable (hSi : (Tryd.prog.info? 25).map (·.size) = some S.length)
variable (hTi : (Tryd.prog.info? 25).map (·.size) = some TC.size)
variable (hcmp : ∀ W, Below w0.heap.size w0 W → Calls Tryd.prog 16 #[.agg S.toArray, .agg TC] W fun e w' => e = .returned (.int .i64 xv) ∧ Below W.heap.size W w')
variable (M_tb : ∀ W, Below w0.heap.size w0 W → W.heap[tb]? = some (.cells TC 25 (0, 0)))
variable (i0 : a0.eval (.tmp 0) = (Value.slice (some ⟨g, o, none⟩) n c)) (i2 : a0.eval (.tmp 2) = (Value.func (Fn.func 16) #[] #[])) (i4 : a0.eval (.tmp 4) = (Value.pointer (some ⟨tb, 0, none⟩))) (i11 : a0.eval (.tmp 11) = (Value.int IntKind.i64 (h : Int))) (hsz : a0.tmps.size = 49)
include g o n c h tb S TC xv w0 a0 hhn hld hSi hTi hcmp M_tb i0 i2 i4 i11 hsz
set_option maxHeartbeats 4000000 in
set_option maxRecDepth 20000 in
theorem bs5_h0 :
    Reg.OpOK Tryd.prog (Reg.opsOf Tryd.f34 5) a0 w0 (bs5R g o n c h tb S TC xv) (fun _ _ _ _ => True) 0 := by
    refine Reg.op_ok2 (fun af => { dst := some 24, op := Op.move (Operand.tmp 2), type := 45, pos := "sort.go:160", after := af, guard := none }) #[] (by kernel_rfl) [] (by kernel_rfl) fun af v W hb hd => ?_
    have e2 := (Reg.gfr_eval0 (ops := (Reg.opsOf Tryd.f34 5)) (a0 := a0) (v := v) (L := []) 2 (by kernel_rfl)).trans i2
    refine ⟨Reg.wanted_none rfl, ?_⟩
    generalize Reg.gfr (Reg.opsOf Tryd.f34 5) a0 v [] = G at e2 ⊢
    generalize hρ : G.eval = ρ at e2
    have hρ' : G.eval = ρ := hρ
    refine Reg.go_run (Value.func (Fn.func 16) #[] #[]) W ?_ ?_
    · rw [hρ']; simp [execOp, go_sem, e2]
    · exact ⟨Below.refl _ _, rfl⟩
set_option maxHeartbeats 4000000 in
set_option maxRecDepth 20000 in
theorem bs5_h1 :
    Reg.OpOK Tryd.prog (Reg.opsOf Tryd.f34 5) a0 w0 (bs5R g o n c h tb S TC xv) (fun _ _ _ _ => True) 1 := by
    refine Reg.op_ok2 (fun af => { dst := some 25, op := Op.move (Operand.tmp 0), type := 47, pos := "sort.go:160", after := af, guard := none }) #[] (by kernel_rfl) [] (by kernel_rfl) fun af v W hb hd => ?_
    have e0 := (Reg.gfr_eval0 (ops := (Reg.opsOf Tryd.f34 5)) (a0 := a0) (v := v) (L := []) 0 (by kernel_rfl)).trans i0
    refine ⟨Reg.wanted_none rfl, ?_⟩
    generalize Reg.gfr (Reg.opsOf Tryd.f34 5) a0 v [] = G at e0 ⊢
    generalize hρ : G.eval = ρ at e0
    have hρ' : G.eval = ρ := hρ
    refine Reg.go_run (Value.slice (some ⟨g, o, none⟩) n c) W ?_ ?_
    · rw [hρ']; simp [execOp, go_sem, e0]
    · exact ⟨Below.refl _ _, rfl⟩
set_option maxHeartbeats 4000000 in
set_option maxRecDepth 20000 in
theorem bs5_h2 :
    Reg.OpOK Tryd.prog (Reg.opsOf Tryd.f34 5) a0 w0 (bs5R g o n c h tb S TC xv) (fun _ _ _ _ => True) 2 := by
    refine Reg.op_ok2 (fun af => { dst := some 26, op := Op.move (Operand.tmp 11), type := 3, pos := "sort.go:160", after := af, guard := none }) #[] (by kernel_rfl) [] (by kernel_rfl) fun af v W hb hd => ?_
    have e11 := (Reg.gfr_eval0 (ops := (Reg.opsOf Tryd.f34 5)) (a0 := a0) (v := v) (L := []) 11 (by kernel_rfl)).trans i11
    refine ⟨Reg.wanted_none rfl, ?_⟩
    generalize Reg.gfr (Reg.opsOf Tryd.f34 5) a0 v [] = G at e11 ⊢
    generalize hρ : G.eval = ρ at e11
    have hρ' : G.eval = ρ := hρ
    refine Reg.go_run (Value.int IntKind.i64 (h : Int)) W ?_ ?_
    · rw [hρ']; simp [execOp, go_sem, e11]
    · exact ⟨Below.refl _ _, rfl⟩
set_option maxHeartbeats 4000000 in
set_option maxRecDepth 20000 in
theorem bs5_h3 :
    Reg.OpOK Tryd.prog (Reg.opsOf Tryd.f34 5) a0 w0 (bs5R g o n c h tb S TC xv) (fun _ _ _ _ => True) 3 := by
    refine Reg.op_ok2 (fun af => { dst := some 27, op := Op.indexAddr 47 (Operand.tmp 25) (Operand.tmp 26), type := 0, pos := "sort.go:160", after := af, guard := none }) #[{ on := 1, ground := Ground.data }, { on := 2, ground := Ground.data }] (by kernel_rfl) [1, 2] (by kernel_rfl) fun af v W hb hd => ?_
    have d1 : v 1 = (Value.slice (some ⟨g, o, none⟩) n c) := hd 1 (by decide)
    have d2 : v 2 = (Value.int IntKind.i64 (h : Int)) := hd 2 (by decide)
    have e25 := (Reg.gfr_eval (ops := (Reg.opsOf Tryd.f34 5)) (a0 := a0) (v := v) (L := [1, 2]) 25 1 (by kernel_rfl) (by rw [hsz]; omega)).trans d1
    have e26 := (Reg.gfr_eval (ops := (Reg.opsOf Tryd.f34 5)) (a0 := a0) (v := v) (L := [1, 2]) 26 2 (by kernel_rfl) (by rw [hsz]; omega)).trans d2
    refine ⟨Reg.wanted_none rfl, ?_⟩
    generalize Reg.gfr (Reg.opsOf Tryd.f34 5) a0 v [1, 2] = G at e25 e26 ⊢
    generalize hρ : G.eval = ρ at e25 e26
    have hρ' : G.eval = ρ := hρ
    refine Reg.go_run (Value.pointer (some ⟨g, o + h * 32, none⟩)) W ?_ ?_
    · rw [hρ']; simp [execOp, go_sem, e25, e26, hhn, Tryd.underlying47, Tryd.sizeOf25]
    · exact ⟨Below.refl _ _, rfl⟩
set_option maxHeartbeats 4000000 in
set_option maxRecDepth 20000 in
theorem bs5_h4 :
    Reg.OpOK Tryd.prog (Reg.opsOf Tryd.f34 5) a0 w0 (bs5R g o n c h tb S TC xv) (fun _ _ _ _ => True) 4 := by
    refine Reg.op_ok2 (fun af => { dst := some 28, op := Op.load 25 (Operand.tmp 27), type := 25, pos := "sort.go:160", after := af, guard := none }) #[{ on := 3, ground := Ground.data }] (by kernel_rfl) [3] (by kernel_rfl) fun af v W hb hd => ?_
    have d3 : v 3 = (Value.pointer (some ⟨g, o + h * 32, none⟩)) := hd 3 (by decide)
    have e27 := (Reg.gfr_eval (ops := (Reg.opsOf Tryd.f34 5)) (a0 := a0) (v := v) (L := [3]) 27 3 (by kernel_rfl) (by rw [hsz]; omega)).trans d3
    refine ⟨Reg.wanted_none rfl, ?_⟩
    generalize Reg.gfr (Reg.opsOf Tryd.f34 5) a0 v [3] = G at e27 ⊢
    generalize hρ : G.eval = ρ at e27
    have hρ' : G.eval = ρ := hρ
    exact fun K hK => wp_load_mid 25 (.tmp 27) rfl g (o + h * 32) (by rw [hρ']; exact e27) S _ (hld W hb) Tryd.underlying25 rfl hSi (hK _ _ ⟨Below.refl _ _, rfl⟩)
set_option maxHeartbeats 4000000 in
set_option maxRecDepth 20000 in
theorem bs5_h5 :
    Reg.OpOK Tryd.prog (Reg.opsOf Tryd.f34 5) a0 w0 (bs5R g o n c h tb S TC xv) (fun _ _ _ _ => True) 5 := by
    refine Reg.op_ok2 (fun af => { dst := some 29, op := Op.load 25 (Operand.tmp 4), type := 25, pos := "sort.go:160", after := af, guard := none }) #[] (by kernel_rfl) [] (by kernel_rfl) fun af v W hb hd => ?_
    have e4 := (Reg.gfr_eval0 (ops := (Reg.opsOf Tryd.f34 5)) (a0 := a0) (v := v) (L := []) 4 (by kernel_rfl)).trans i4
    refine ⟨Reg.wanted_none rfl, ?_⟩
    generalize Reg.gfr (Reg.opsOf Tryd.f34 5) a0 v [] = G at e4 ⊢
    generalize hρ : G.eval = ρ at e4
    have hρ' : G.eval = ρ := hρ
    exact fun K hK => wp_load_row 25 (.tmp 4) rfl tb (by rw [hρ']; exact e4) 25 TC (0, 0) _ (M_tb W hb) Tryd.underlying25 rfl hTi (hK _ _ ⟨Below.refl _ _, rfl⟩)
set_option maxHeartbeats 4000000 in
set_option maxRecDepth 20000 in
theorem bs5_h6 :
    Reg.OpOK Tryd.prog (Reg.opsOf Tryd.f34 5) a0 w0 (bs5R g o n c h tb S TC xv) (fun _ _ _ _ => True) 6 := by
    refine Reg.op_ok2 (fun af => { dst := some 30, op := Op.call { callee := Callee.value (Operand.tmp 24), args := #[Operand.tmp 28, Operand.tmp 29], argTypes := #[25, 25] }, type := 3, pos := "sort.go:160", after := af, guard := none }) #[{ on := 0, ground := Ground.data }, { on := 4, ground := Ground.data }, { on := 5, ground := Ground.data }] (by kernel_rfl) [0, 4, 5] (by kernel_rfl) fun af v W hb hd => ?_
    have d0 : v 0 = (Value.func (Fn.func 16) #[] #[]) := hd 0 (by decide)
    have d4 : v 4 = (Value.agg S.toArray) := hd 4 (by decide)
    have d5 : v 5 = (Value.agg TC) := hd 5 (by decide)
    have e24 := (Reg.gfr_eval (ops := (Reg.opsOf Tryd.f34 5)) (a0 := a0) (v := v) (L := [0, 4, 5]) 24 0 (by kernel_rfl) (by rw [hsz]; omega)).trans d0
    have e28 := (Reg.gfr_eval (ops := (Reg.opsOf Tryd.f34 5)) (a0 := a0) (v := v) (L := [0, 4, 5]) 28 4 (by kernel_rfl) (by rw [hsz]; omega)).trans d4
    have e29 := (Reg.gfr_eval (ops := (Reg.opsOf Tryd.f34 5)) (a0 := a0) (v := v) (L := [0, 4, 5]) 29 5 (by kernel_rfl) (by rw [hsz]; omega)).trans d5
    refine ⟨Reg.wanted_none rfl, ?_⟩
    generalize Reg.gfr (Reg.opsOf Tryd.f34 5) a0 v [0, 4, 5] = G at e24 e28 e29 ⊢
    generalize hρ : G.eval = ρ at e24 e28 e29
    have hρ' : G.eval = ρ := hρ
    refine Reg.go_call 16 #[(Value.agg S.toArray), (Value.agg TC)] (by rw [hρ']; simp [execOp, go_sem, e24, e28, e29]) ((hcmp W hb).mono fun e w' he => ?_)
    obtain ⟨rfl, hbb⟩ := he
    exact ⟨_, rfl, hbb, rfl⟩
set_option maxHeartbeats 4000000 in
set_option maxRecDepth 20000 in
theorem bs5_h7 :
    Reg.OpOK Tryd.prog (Reg.opsOf Tryd.f34 5) a0 w0 (bs5R g o n c h tb S TC xv) (fun _ _ _ _ => True) 7 := by
    refine Reg.op_ok2 (fun af => { dst := some 31, op := Op.binOp BinOp.lss 3 (Operand.tmp 30) (Operand.const (Value.int IntKind.i64 0)) 3, type := 4, pos := "sort.go:160", after := af, guard := none }) #[{ on := 6, ground := Ground.data }] (by kernel_rfl) [6] (by kernel_rfl) fun af v W hb hd => ?_
    have d6 : v 6 = (Value.int IntKind.i64 xv) := hd 6 (by decide)
    have e30 := (Reg.gfr_eval (ops := (Reg.opsOf Tryd.f34 5)) (a0 := a0) (v := v) (L := [6]) 30 6 (by kernel_rfl) (by rw [hsz]; omega)).trans d6
    refine ⟨Reg.wanted_none rfl, ?_⟩
    have eC : ∀ x, (Reg.gfr (Reg.opsOf Tryd.f34 5) a0 v [6]).eval (.const x) = x := fun _ => rfl
    generalize Reg.gfr (Reg.opsOf Tryd.f34 5) a0 v [6] = G at e30 eC ⊢
    generalize hρ : G.eval = ρ at e30 eC
    have hρ' : G.eval = ρ := hρ
    refine Reg.go_run (Value.bool (decide (xv < 0))) W ?_ ?_
    · rw [hρ']; simp [execOp, go_sem, e30, eC]
    · exact ⟨Below.refl _ _, rfl⟩
end
set_option maxHeartbeats 4000000 in
set_option maxRecDepth 20000 in
theorem bs5 (g o n c h tb : Nat) (S : List Value) (TC : Array Value) (xv : Int) (w0 : World) {s1 s3 s5 s6 s7 s8 s9 s10 s12 s13 s14 s15 s16 s17 s18 s19 s20 s21 s22 s23 s24 s25 s26 s27 s28 s29 s30 s31 s32 s33 s34 s35 s36 s37 s38 s39 s40 s41 s42 s43 s44 s45 s46 s47 s48 : Value}
    (hhn : (h : Int) < (n : Int))
    (hld : ∀ W, Below w0.heap.size w0 W → W.rangeAt g (o + h * 32) S)
    (hSi : (Tryd.prog.info? 25).map (·.size) = some S.length)
    (hTi : (Tryd.prog.info? 25).map (·.size) = some TC.size)
    (hcmp : ∀ W, Below w0.heap.size w0 W → Calls Tryd.prog 16 #[.agg S.toArray, .agg TC] W fun e w' => e = .returned (.int .i64 xv) ∧ Below W.heap.size W w')
    (M_tb : ∀ W, Below w0.heap.size w0 W → W.heap[tb]? = some (.cells TC 25 (0, 0)))
    {Q : Exit → Act → World → Prop}
    (hend : ∀ (w : World), Below w0.heap.size w0 w → Q .normal { tmps := #[(Value.slice (some ⟨g, o, none⟩) n c), s1, (Value.func (Fn.func 16) #[] #[]), s3, (Value.pointer (some ⟨tb, 0, none⟩)), s5, s6, s7, s8, s9, s10, (Value.int IntKind.i64 (h : Int)), s12, s13, s14, s15, s16, s17, s18, s19, s20, s21, s22, s23, (Value.func (Fn.func 16) #[] #[]), (Value.slice (some ⟨g, o, none⟩) n c), (Value.int IntKind.i64 (h : Int)), (Value.pointer (some ⟨g, o + h * 32, none⟩)), (Value.agg S.toArray), (Value.agg TC), (Value.int IntKind.i64 xv), (Value.bool (decide (xv < 0))), s32, s33, s34, s35, s36, s37, s38, s39, s40, s41, s42, s43, s44, s45, s46, s47, s48], defers := [] } w) :
    (Code.region 5 (Reg.opsOf Tryd.f34 5) true).wp Tryd.prog Q { tmps := #[(Value.slice (some ⟨g, o, none⟩) n c), s1, (Value.func (Fn.func 16) #[] #[]), s3, (Value.pointer (some ⟨tb, 0, none⟩)), s5, s6, s7, s8, s9, s10, (Value.int IntKind.i64 (h : Int)), s12, s13, s14, s15, s16, s17, s18, s19, s20, s21, s22, s23, s24, s25, s26, s27, s28, s29, s30, s31, s32, s33, s34, s35, s36, s37, s38, s39, s40, s41, s42, s43, s44, s45, s46, s47, s48], defers := [] } w0 := by
  obtain ⟨a0, ha0⟩ : ∃ a0 : Act, a0 = { tmps := #[(Value.slice (some ⟨g, o, none⟩) n c), s1, (Value.func (Fn.func 16) #[] #[]), s3, (Value.pointer (some ⟨tb, 0, none⟩)), s5, s6, s7, s8, s9, s10, (Value.int IntKind.i64 (h : Int)), s12, s13, s14, s15, s16, s17, s18, s19, s20, s21, s22, s23, s24, s25, s26, s27, s28, s29, s30, s31, s32, s33, s34, s35, s36, s37, s38, s39, s40, s41, s42, s43, s44, s45, s46, s47, s48], defers := [] } := ⟨_, rfl⟩
  have hfin : ∀ v : Nat → Value, Reg.gfr (Reg.opsOf Tryd.f34 5) a0 v (List.range 8) = { tmps := #[(Value.slice (some ⟨g, o, none⟩) n c), s1, (Value.func (Fn.func 16) #[] #[]), s3, (Value.pointer (some ⟨tb, 0, none⟩)), s5, s6, s7, s8, s9, s10, (Value.int IntKind.i64 (h : Int)), s12, s13, s14, s15, s16, s17, s18, s19, s20, s21, s22, s23, v 0, v 1, v 2, v 3, v 4, v 5, v 6, v 7, s32, s33, s34, s35, s36, s37, s38, s39, s40, s41, s42, s43, s44, s45, s46, s47, s48], defers := [] } := fun v => by rw [ha0]; kernel_rfl
  rw [← ha0]
  have i0 : a0.eval (.tmp 0) = (Value.slice (some ⟨g, o, none⟩) n c) := by rw [ha0]; rfl
  have i2 : a0.eval (.tmp 2) = (Value.func (Fn.func 16) #[] #[]) := by rw [ha0]; rfl
  have i4 : a0.eval (.tmp 4) = (Value.pointer (some ⟨tb, 0, none⟩)) := by rw [ha0]; rfl
  have i11 : a0.eval (.tmp 11) = (Value.int IntKind.i64 (h : Int)) := by rw [ha0]; rfl
  have hsz : a0.tmps.size = 49 := by rw [ha0]; rfl
  clear ha0
  have hn : (Reg.opsOf Tryd.f34 5).size = 8 := by kernel_rfl
  have h0 := bs5_h0 g o n c h tb S TC xv w0 a0 hhn hld hSi hTi hcmp M_tb i0 i2 i4 i11 hsz
  have h1 := bs5_h1 g o n c h tb S TC xv w0 a0 hhn hld hSi hTi hcmp M_tb i0 i2 i4 i11 hsz
  have h2 := bs5_h2 g o n c h tb S TC xv w0 a0 hhn hld hSi hTi hcmp M_tb i0 i2 i4 i11 hsz
  have h3 := bs5_h3 g o n c h tb S TC xv w0 a0 hhn hld hSi hTi hcmp M_tb i0 i2 i4 i11 hsz
  have h4 := bs5_h4 g o n c h tb S TC xv w0 a0 hhn hld hSi hTi hcmp M_tb i0 i2 i4 i11 hsz
  have h5 := bs5_h5 g o n c h tb S TC xv w0 a0 hhn hld hSi hTi hcmp M_tb i0 i2 i4 i11 hsz
  have h6 := bs5_h6 g o n c h tb S TC xv w0 a0 hhn hld hSi hTi hcmp M_tb i0 i2 i4 i11 hsz
  have h7 := bs5_h7 g o n c h tb S TC xv w0 a0 hhn hld hSi hTi hcmp M_tb i0 i2 i4 i11 hsz
  refine Reg.region_all (by kernel_rfl) (bs5R g o n c h tb S TC xv) (by rw [hn, hsz]; kernel_rfl) (bs5_stable g o n c h tb S TC xv) (fun i hi => ?_) (fun v w hb hR => ?_)
  · rw [hn] at hi
    match i, List.mem_range.1 hi with
    | 0, _ => exact h0
    | 1, _ => exact h1
    | 2, _ => exact h2
    | 3, _ => exact h3
    | 4, _ => exact h4
    | 5, _ => exact h5
    | 6, _ => exact h6
    | 7, _ => exact h7
    | (_ + 8), h => omega
  · rw [hn] at hR ⊢
    have v0 : v 0 = (Value.func (Fn.func 16) #[] #[]) := hR 0 (by decide)
    have v1 : v 1 = (Value.slice (some ⟨g, o, none⟩) n c) := hR 1 (by decide)
    have v2 : v 2 = (Value.int IntKind.i64 (h : Int)) := hR 2 (by decide)
    have v3 : v 3 = (Value.pointer (some ⟨g, o + h * 32, none⟩)) := hR 3 (by decide)
    have v4 : v 4 = (Value.agg S.toArray) := hR 4 (by decide)
    have v5 : v 5 = (Value.agg TC) := hR 5 (by decide)
    have v6 : v 6 = (Value.int IntKind.i64 xv) := hR 6 (by decide)
    have v7 : v 7 = (Value.bool (decide (xv < 0))) := hR 7 (by decide)
    rw [hfin v, v0, v1, v2, v3, v4, v5, v6, v7]
    exact hend w  hb 
def bs8tR (g o n c h tb : Nat) (S : List Value) (TC : Array Value) (xv : Int) : Nat → Value → World → Prop
  | 0 => fun x_ _ => x_ = (Value.int IntKind.i64 (h : Int))
  | 1 => fun x_ _ => x_ = (Value.int IntKind.i64 (h : Int))
  | 2 => fun x_ _ => x_ = (Value.int IntKind.i64 (n : Int))
  | 3 => fun x_ _ => x_ = (Value.bool true)
  | 4 => fun x_ _ => x_ = (Value.bool true)
  | 5 => fun x_ _ => x_ = (Value.func (Fn.func 16) #[] #[])
  | 6 => fun x_ _ => x_ = (Value.slice (some ⟨g, o, none⟩) n c)
  | 7 => fun x_ _ => x_ = (Value.int IntKind.i64 (h : Int))
  | 8 => fun x_ _ => x_ = (Value.pointer (some ⟨g, o + h * 32, none⟩))
  | 9 => fun x_ _ => x_ = (Value.agg S.toArray)
  | 10 => fun x_ _ => x_ = (Value.agg TC)
  | 11 => fun x_ _ => x_ = (Value.int IntKind.i64 xv)
  | 12 => fun x_ _ => x_ = (Value.bool (xv == 0))
  | 13 => fun x_ _ => x_ = (Value.bool (xv == 0))
  | 14 => fun x_ _ => x_ = (Value.int IntKind.i64 (h : Int))
  | 15 => fun x_ _ => x_ = (Value.bool (xv == 0))
  | _ => fun _ _ => True
theorem bs8t_stable (g o n c h tb : Nat) (S : List Value) (TC : Array Value) (xv : Int) : ∀ i_ u_ w_ w_', (bs8tR g o n c h tb S TC xv) i_ u_ w_ → Below w_.heap.size w_ w_' → (bs8tR g o n c h tb S TC xv) i_ u_ w_' := fun i_ u_ w_ w_' h_ hb_ => by
  match i_, h_ with
  | 0, h_ => exact h_
  | 1, h_ => exact h_
  | 2, h_ => exact h_
  | 3, h_ => exact h_
  | 4, h_ => exact h_
  | 5, h_ => exact h_
  | 6, h_ => exact h_
  | 7, h_ => exact h_
  | 8, h_ => exact h_
  | 9, h_ => exact h_
  | 10, h_ => exact h_
  | 11, h_ => exact h_
  | 12, h_ => exact h_
  | 13, h_ => exact h_
  | 14, h_ => exact h_
  | 15, h_ => exact h_
  | (_ + 16), _ => trivial
section
variable (g o n c h tb : Nat) (S : List Value) (TC : Array Value) (xv : Int) (w0 : World) (a0 : Act)
variable (hhn : (h : Int) < (n : Int))
variable (hld : ∀ W, Below w0.heap.size w0 W → W.rangeAt g (o + h * 32) S)
variable (hSi : (Tryd.prog.info? 25).map (·.size) = some S.length)
variable (hTi : (Tryd.prog.info? 25).map (·.size) = some TC.size)
variable (hcmp : ∀ W, Below w0.heap.size w0 W → Calls Tryd.prog 16 #[.agg S.toArray, .agg TC] W fun e w' => e = .returned (.int .i64 xv) ∧ Below W.heap.size W w')
variable (M_tb : ∀ W, Below w0.heap.size w0 W → W.heap[tb]? = some (.cells TC 25 (0, 0)))
variable (i0 : a0.eval (.tmp 0) = (Value.slice (some ⟨g, o, none⟩) n c)) (i2 : a0.eval (.tmp 2) = (Value.func (Fn.func 16) #[] #[])) (i4 : a0.eval (.tmp 4) = (Value.pointer (some ⟨tb, 0, none⟩))) (i8 : a0.eval (.tmp 8) = (Value.int IntKind.i64 (n : Int))) (i9 : a0.eval (.tmp 9) = (Value.int IntKind.i64 (h : Int))) (hsz : a0.tmps.size = 49)
include g o n c h tb S TC xv w0 a0 hhn hld hSi hTi hcmp M_tb i0 i2 i4 i8 i9 hsz
set_option maxHeartbeats 4000000 in
set_option maxRecDepth 20000 in
theorem bs8t_h0 :
    Reg.OpOK Tryd.prog (Reg.opsOf Tryd.f34 8) a0 w0 (bs8tR g o n c h tb S TC xv) (fun _ _ _ _ => True) 0 := by
    refine Reg.op_ok2 (fun af => { dst := some 35, op := Op.move (Operand.tmp 9), type := 3, pos := "sort.go:167", after := af, guard := none }) #[] (by kernel_rfl) [] (by kernel_rfl) fun af v W hb hd => ?_
    have e9 := (Reg.gfr_eval0 (ops := (Reg.opsOf Tryd.f34 8)) (a0 := a0) (v := v) (L := []) 9 (by kernel_rfl)).trans i9
    refine ⟨Reg.wanted_none rfl, ?_⟩
    generalize Reg.gfr (Reg.opsOf Tryd.f34 8) a0 v [] = G at e9 ⊢
    generalize hρ : G.eval = ρ at e9
    have hρ' : G.eval = ρ := hρ
    refine Reg.go_run (Value.int IntKind.i64 (h : Int)) W ?_ ?_
    · rw [hρ']; simp [execOp, go_sem, e9]
    · exact ⟨Below.refl _ _, rfl⟩
set_option maxHeartbeats 4000000 in
set_option maxRecDepth 20000 in
theorem bs8t_h1 :
    Reg.OpOK Tryd.prog (Reg.opsOf Tryd.f34 8) a0 w0 (bs8tR g o n c h tb S TC xv) (fun _ _ _ _ => True) 1 := by
    refine Reg.op_ok2 (fun af => { dst := some 36, op := Op.move (Operand.tmp 9), type := 3, pos := "sort.go:167", after := af, guard := none }) #[] (by kernel_rfl) [] (by kernel_rfl) fun af v W hb hd => ?_
    have e9 := (Reg.gfr_eval0 (ops := (Reg.opsOf Tryd.f34 8)) (a0 := a0) (v := v) (L := []) 9 (by kernel_rfl)).trans i9
    refine ⟨Reg.wanted_none rfl, ?_⟩
    generalize Reg.gfr (Reg.opsOf Tryd.f34 8) a0 v [] = G at e9 ⊢
    generalize hρ : G.eval = ρ at e9
    have hρ' : G.eval = ρ := hρ
    refine Reg.go_run (Value.int IntKind.i64 (h : Int)) W ?_ ?_
    · rw [hρ']; simp [execOp, go_sem, e9]
    · exact ⟨Below.refl _ _, rfl⟩
set_option maxHeartbeats 4000000 in
set_option maxRecDepth 20000 in
theorem bs8t_h2 :
    Reg.OpOK Tryd.prog (Reg.opsOf Tryd.f34 8) a0 w0 (bs8tR g o n c h tb S TC xv) (fun _ _ _ _ => True) 2 := by
    refine Reg.op_ok2 (fun af => { dst := some 37, op := Op.move (Operand.tmp 8), type := 3, pos := "sort.go:167", after := af, guard := none }) #[] (by kernel_rfl) [] (by kernel_rfl) fun af v W hb hd => ?_
    have e8 := (Reg.gfr_eval0 (ops := (Reg.opsOf Tryd.f34 8)) (a0 := a0) (v := v) (L := []) 8 (by kernel_rfl)).trans i8
    refine ⟨Reg.wanted_none rfl, ?_⟩
    generalize Reg.gfr (Reg.opsOf Tryd.f34 8) a0 v [] = G at e8 ⊢
    generalize hρ : G.eval = ρ at e8
    have hρ' : G.eval = ρ := hρ
    refine Reg.go_run (Value.int IntKind.i64 (n : Int)) W ?_ ?_
    · rw [hρ']; simp [execOp, go_sem, e8]
    · exact ⟨Below.refl _ _, rfl⟩
set_option maxHeartbeats 4000000 in
set_option maxRecDepth 20000 in
theorem bs8t_h3 :
    Reg.OpOK Tryd.prog (Reg.opsOf Tryd.f34 8) a0 w0 (bs8tR g o n c h tb S TC xv) (fun _ _ _ _ => True) 3 := by
    refine Reg.op_ok2 (fun af => { dst := some 38, op := Op.binOp BinOp.lss 3 (Operand.tmp 36) (Operand.tmp 37) 3, type := 4, pos := "sort.go:167", after := af, guard := none }) #[{ on := 1, ground := Ground.data }, { on := 2, ground := Ground.data }] (by kernel_rfl) [1, 2] (by kernel_rfl) fun af v W hb hd => ?_
    have d1 : v 1 = (Value.int IntKind.i64 (h : Int)) := hd 1 (by decide)
    have d2 : v 2 = (Value.int IntKind.i64 (n : Int)) := hd 2 (by decide)
    have e36 := (Reg.gfr_eval (ops := (Reg.opsOf Tryd.f34 8)) (a0 := a0) (v := v) (L := [1, 2]) 36 1 (by kernel_rfl) (by rw [hsz]; omega)).trans d1
    have e37 := (Reg.gfr_eval (ops := (Reg.opsOf Tryd.f34 8)) (a0 := a0) (v := v) (L := [1, 2]) 37 2 (by kernel_rfl) (by rw [hsz]; omega)).trans d2
    refine ⟨Reg.wanted_none rfl, ?_⟩
    generalize Reg.gfr (Reg.opsOf Tryd.f34 8) a0 v [1, 2] = G at e36 e37 ⊢
    generalize hρ : G.eval = ρ at e36 e37
    have hρ' : G.eval = ρ := hρ
    refine Reg.go_run (Value.bool true) W ?_ ?_
    · rw [hρ']; simp [execOp, go_sem, e36, e37, hhn]
    · exact ⟨Below.refl _ _, rfl⟩
set_option maxHeartbeats 4000000 in
set_option maxRecDepth 20000 in
theorem bs8t_h4 :
    Reg.OpOK Tryd.prog (Reg.opsOf Tryd.f34 8) a0 w0 (bs8tR g o n c h tb S TC xv) (fun _ _ _ _ => True) 4 := by
    refine Reg.op_ok2 (fun af => { dst := some 39, op := Op.move (Operand.tmp 38), type := 4, pos := "sort.go:167", after := af, guard := none }) #[{ on := 3, ground := Ground.data }] (by kernel_rfl) [3] (by kernel_rfl) fun af v W hb hd => ?_
    have d3 : v 3 = (Value.bool true) := hd 3 (by decide)
    have e38 := (Reg.gfr_eval (ops := (Reg.opsOf Tryd.f34 8)) (a0 := a0) (v := v) (L := [3]) 38 3 (by kernel_rfl) (by rw [hsz]; omega)).trans d3
    refine ⟨Reg.wanted_none rfl, ?_⟩
    generalize Reg.gfr (Reg.opsOf Tryd.f34 8) a0 v [3] = G at e38 ⊢
    generalize hρ : G.eval = ρ at e38
    have hρ' : G.eval = ρ := hρ
    refine Reg.go_run (Value.bool true) W ?_ ?_
    · rw [hρ']; simp [execOp, go_sem, e38]
    · exact ⟨Below.refl _ _, rfl⟩
set_option maxHeartbeats 4000000 in
set_option maxRecDepth 20000 in
theorem bs8t_h5 :
    Reg.OpOK Tryd.prog (Reg.opsOf Tryd.f34 8) a0 w0 (bs8tR g o n c h tb S TC xv) (fun _ _ _ _ => True) 5 := by
    refine Reg.op_ok2 (fun af => { dst := some 40, op := Op.move (Operand.tmp 2), type := 45, pos := "sort.go:167", after := af, guard := some (4, true) }) #[{ on := 4, ground := Ground.guard }] (by kernel_rfl) [4] (by kernel_rfl) fun af v W hb hd => ?_
    have d4 : v 4 = (Value.bool true) := hd 4 (by decide)
    have e2 := (Reg.gfr_eval0 (ops := (Reg.opsOf Tryd.f34 8)) (a0 := a0) (v := v) (L := [4]) 2 (by kernel_rfl)).trans i2
    have e39 := (Reg.gfr_eval (ops := (Reg.opsOf Tryd.f34 8)) (a0 := a0) (v := v) (L := [4]) 39 4 (by kernel_rfl) (by rw [hsz]; omega)).trans d4
    refine ⟨Reg.wanted_of rfl (by kernel_rfl) e39, ?_⟩
    generalize Reg.gfr (Reg.opsOf Tryd.f34 8) a0 v [4] = G at e2 ⊢
    generalize hρ : G.eval = ρ at e2
    have hρ' : G.eval = ρ := hρ
    refine Reg.go_run (Value.func (Fn.func 16) #[] #[]) W ?_ ?_
    · rw [hρ']; simp [execOp, go_sem, e2]
    · exact ⟨Below.refl _ _, rfl⟩
set_option maxHeartbeats 4000000 in
set_option maxRecDepth 20000 in
theorem bs8t_h6 :
    Reg.OpOK Tryd.prog (Reg.opsOf Tryd.f34 8) a0 w0 (bs8tR g o n c h tb S TC xv) (fun _ _ _ _ => True) 6 := by
    refine Reg.op_ok2 (fun af => { dst := some 41, op := Op.move (Operand.tmp 0), type := 47, pos := "sort.go:167", after := af, guard := some (4, true) }) #[{ on := 4, ground := Ground.guard }] (by kernel_rfl) [4] (by kernel_rfl) fun af v W hb hd => ?_
    have d4 : v 4 = (Value.bool true) := hd 4 (by decide)
    have e0 := (Reg.gfr_eval0 (ops := (Reg.opsOf Tryd.f34 8)) (a0 := a0) (v := v) (L := [4]) 0 (by kernel_rfl)).trans i0
    have e39 := (Reg.gfr_eval (ops := (Reg.opsOf Tryd.f34 8)) (a0 := a0) (v := v) (L := [4]) 39 4 (by kernel_rfl) (by rw [hsz]; omega)).trans d4
    refine ⟨Reg.wanted_of rfl (by kernel_rfl) e39, ?_⟩
    generalize Reg.gfr (Reg.opsOf Tryd.f34 8) a0 v [4] = G at e0 ⊢
    generalize hρ : G.eval = ρ at e0
    have hρ' : G.eval = ρ := hρ
    refine Reg.go_run (Value.slice (some ⟨g, o, none⟩) n c) W ?_ ?_
    · rw [hρ']; simp [execOp, go_sem, e0]
    · exact ⟨Below.refl _ _, rfl⟩
set_option maxHeartbeats 4000000 in
set_option maxRecDepth 20000 in
theorem bs8t_h7 :
    Reg.OpOK Tryd.prog (Reg.opsOf Tryd.f34 8) a0 w0 (bs8tR g o n c h tb S TC xv) (fun _ _ _ _ => True) 7 := by
    refine Reg.op_ok2 (fun af => { dst := some 42, op := Op.move (Operand.tmp 9), type := 3, pos := "sort.go:167", after := af, guard := some (4, true) }) #[{ on := 4, ground := Ground.guard }] (by kernel_rfl) [4] (by kernel_rfl) fun af v W hb hd => ?_
    have d4 : v 4 = (Value.bool true) := hd 4 (by decide)
    have e9 := (Reg.gfr_eval0 (ops := (Reg.opsOf Tryd.f34 8)) (a0 := a0) (v := v) (L := [4]) 9 (by kernel_rfl)).trans i9
    have e39 := (Reg.gfr_eval (ops := (Reg.opsOf Tryd.f34 8)) (a0 := a0) (v := v) (L := [4]) 39 4 (by kernel_rfl) (by rw [hsz]; omega)).trans d4
    refine ⟨Reg.wanted_of rfl (by kernel_rfl) e39, ?_⟩
    generalize Reg.gfr (Reg.opsOf Tryd.f34 8) a0 v [4] = G at e9 ⊢
    generalize hρ : G.eval = ρ at e9
    have hρ' : G.eval = ρ := hρ
    refine Reg.go_run (Value.int IntKind.i64 (h : Int)) W ?_ ?_
    · rw [hρ']; simp [execOp, go_sem, e9]
    · exact ⟨Below.refl _ _, rfl⟩
set_option maxHeartbeats 4000000 in
set_option maxRecDepth 20000 in
theorem bs8t_h8 :
    Reg.OpOK Tryd.prog (Reg.opsOf Tryd.f34 8) a0 w0 (bs8tR g o n c h tb S TC xv) (fun _ _ _ _ => True) 8 := by
    refine Reg.op_ok2 (fun af => { dst := some 43, op := Op.indexAddr 47 (Operand.tmp 41) (Operand.tmp 42), type := 0, pos := "sort.go:167", after := af, guard := some (4, true) }) #[{ on := 6, ground := Ground.data }, { on := 7, ground := Ground.data }, { on := 4, ground := Ground.guard }] (by kernel_rfl) [6, 7, 4] (by kernel_rfl) fun af v W hb hd => ?_
    have d4 : v 4 = (Value.bool true) := hd 4 (by decide)
    have d6 : v 6 = (Value.slice (some ⟨g, o, none⟩) n c) := hd 6 (by decide)
    have d7 : v 7 = (Value.int IntKind.i64 (h : Int)) := hd 7 (by decide)
    have e41 := (Reg.gfr_eval (ops := (Reg.opsOf Tryd.f34 8)) (a0 := a0) (v := v) (L := [6, 7, 4]) 41 6 (by kernel_rfl) (by rw [hsz]; omega)).trans d6
    have e42 := (Reg.gfr_eval (ops := (Reg.opsOf Tryd.f34 8)) (a0 := a0) (v := v) (L := [6, 7, 4]) 42 7 (by kernel_rfl) (by rw [hsz]; omega)).trans d7
    have e39 := (Reg.gfr_eval (ops := (Reg.opsOf Tryd.f34 8)) (a0 := a0) (v := v) (L := [6, 7, 4]) 39 4 (by kernel_rfl) (by rw [hsz]; omega)).trans d4
    refine ⟨Reg.wanted_of rfl (by kernel_rfl) e39, ?_⟩
    generalize Reg.gfr (Reg.opsOf Tryd.f34 8) a0 v [6, 7, 4] = G at e41 e42 ⊢
    generalize hρ : G.eval = ρ at e41 e42
    have hρ' : G.eval = ρ := hρ
    refine Reg.go_run (Value.pointer (some ⟨g, o + h * 32, none⟩)) W ?_ ?_
    · rw [hρ']; simp [execOp, go_sem, e41, e42, hhn, Tryd.underlying47, Tryd.sizeOf25]
    · exact ⟨Below.refl _ _, rfl⟩
set_option maxHeartbeats 4000000 in
set_option maxRecDepth 20000 in
theorem bs8t_h9 :
    Reg.OpOK Tryd.prog (Reg.opsOf Tryd.f34 8) a0 w0 (bs8tR g o n c h tb S TC xv) (fun _ _ _ _ => True) 9 := by
    refine Reg.op_ok2 (fun af => { dst := some 44, op := Op.load 25 (Operand.tmp 43), type := 25, pos := "sort.go:167", after := af, guard := some (4, true) }) #[{ on := 8, ground := Ground.data }, { on := 4, ground := Ground.guard }] (by kernel_rfl) [8, 4] (by kernel_rfl) fun af v W hb hd => ?_
    have d4 : v 4 = (Value.bool true) := hd 4 (by decide)
    have d8 : v 8 = (Value.pointer (some ⟨g, o + h * 32, none⟩)) := hd 8 (by decide)
    have e43 := (Reg.gfr_eval (ops := (Reg.opsOf Tryd.f34 8)) (a0 := a0) (v := v) (L := [8, 4]) 43 8 (by kernel_rfl) (by rw [hsz]; omega)).trans d8
    have e39 := (Reg.gfr_eval (ops := (Reg.opsOf Tryd.f34 8)) (a0 := a0) (v := v) (L := [8, 4]) 39 4 (by kernel_rfl) (by rw [hsz]; omega)).trans d4
    refine ⟨Reg.wanted_of rfl (by kernel_rfl) e39, ?_⟩
    generalize Reg.gfr (Reg.opsOf Tryd.f34 8) a0 v [8, 4] = G at e43 ⊢
    generalize hρ : G.eval = ρ at e43
    have hρ' : G.eval = ρ := hρ
    exact fun K hK => wp_load_mid 25 (.tmp 43) rfl g (o + h * 32) (by rw [hρ']; exact e43) S _ (hld W hb) Tryd.underlying25 rfl hSi (hK _ _ ⟨Below.refl _ _, rfl⟩)
set_option maxHeartbeats 4000000 in
set_option maxRecDepth 20000 in
theorem bs8t_h10 :
    Reg.OpOK Tryd.prog (Reg.opsOf Tryd.f34 8) a0 w0 (bs8tR g o n c h tb S TC xv) (fun _ _ _ _ => True) 10 := by
    refine Reg.op_ok2 (fun af => { dst := some 45, op := Op.load 25 (Operand.tmp 4), type := 25, pos := "sort.go:167", after := af, guard := some (4, true) }) #[{ on := 4, ground := Ground.guard }] (by kernel_rfl) [4] (by kernel_rfl) fun af v W hb hd => ?_
    have d4 : v 4 = (Value.bool true) := hd 4 (by decide)
    have e4 := (Reg.gfr_eval0 (ops := (Reg.opsOf Tryd.f34 8)) (a0 := a0) (v := v) (L := [4]) 4 (by kernel_rfl)).trans i4
    have e39 := (Reg.gfr_eval (ops := (Reg.opsOf Tryd.f34 8)) (a0 := a0) (v := v) (L := [4]) 39 4 (by kernel_rfl) (by rw [hsz]; omega)).trans d4
    refine ⟨Reg.wanted_of rfl (by kernel_rfl) e39, ?_⟩
    generalize Reg.gfr (Reg.opsOf Tryd.f34 8) a0 v [4] = G at e4 ⊢
    generalize hρ : G.eval = ρ at e4
    have hρ' : G.eval = ρ := hρ
    exact fun K hK => wp_load_row 25 (.tmp 4) rfl tb (by rw [hρ']; exact e4) 25 TC (0, 0) _ (M_tb W hb) Tryd.underlying25 rfl hTi (hK _ _ ⟨Below.refl _ _, rfl⟩)
set_option maxHeartbeats 4000000 in
set_option maxRecDepth 20000 in
theorem bs8t_h11 :
    Reg.OpOK Tryd.prog (Reg.opsOf Tryd.f34 8) a0 w0 (bs8tR g o n c h tb S TC xv) (fun _ _ _ _ => True) 11 := by
    refine Reg.op_ok2 (fun af => { dst := some 46, op := Op.call { callee := Callee.value (Operand.tmp 40), args := #[Operand.tmp 44, Operand.tmp 45], argTypes := #[25, 25] }, type := 3, pos := "sort.go:167", after := af, guard := some (4, true) }) #[{ on := 5, ground := Ground.data }, { on := 9, ground := Ground.data }, { on := 10, ground := Ground.data }, { on := 4, ground := Ground.chain }, { on := 4, ground := Ground.guard }] (by kernel_rfl) [5, 9, 10, 4, 4] (by kernel_rfl) fun af v W hb hd => ?_
    have d4 : v 4 = (Value.bool true) := hd 4 (by decide)
    have d5 : v 5 = (Value.func (Fn.func 16) #[] #[]) := hd 5 (by decide)
    have d9 : v 9 = (Value.agg S.toArray) := hd 9 (by decide)
    have d10 : v 10 = (Value.agg TC) := hd 10 (by decide)
    have e40 := (Reg.gfr_eval (ops := (Reg.opsOf Tryd.f34 8)) (a0 := a0) (v := v) (L := [5, 9, 10, 4, 4]) 40 5 (by kernel_rfl) (by rw [hsz]; omega)).trans d5
    have e44 := (Reg.gfr_eval (ops := (Reg.opsOf Tryd.f34 8)) (a0 := a0) (v := v) (L := [5, 9, 10, 4, 4]) 44 9 (by kernel_rfl) (by rw [hsz]; omega)).trans d9
    have e45 := (Reg.gfr_eval (ops := (Reg.opsOf Tryd.f34 8)) (a0 := a0) (v := v) (L := [5, 9, 10, 4, 4]) 45 10 (by kernel_rfl) (by rw [hsz]; omega)).trans d10
    have e39 := (Reg.gfr_eval (ops := (Reg.opsOf Tryd.f34 8)) (a0 := a0) (v := v) (L := [5, 9, 10, 4, 4]) 39 4 (by kernel_rfl) (by rw [hsz]; omega)).trans d4
    refine ⟨Reg.wanted_of rfl (by kernel_rfl) e39, ?_⟩
    generalize Reg.gfr (Reg.opsOf Tryd.f34 8) a0 v [5, 9, 10, 4, 4] = G at e40 e44 e45 ⊢
    generalize hρ : G.eval = ρ at e40 e44 e45
    have hρ' : G.eval = ρ := hρ
    refine Reg.go_call 16 #[(Value.agg S.toArray), (Value.agg TC)] (by rw [hρ']; simp [execOp, go_sem, e40, e44, e45]) ((hcmp W hb).mono fun e w' he => ?_)
    obtain ⟨rfl, hbb⟩ := he
    exact ⟨_, rfl, hbb, rfl⟩
set_option maxHeartbeats 4000000 in
set_option maxRecDepth 20000 in
theorem bs8t_h12 :
    Reg.OpOK Tryd.prog (Reg.opsOf Tryd.f34 8) a0 w0 (bs8tR g o n c h tb S TC xv) (fun _ _ _ _ => True) 12 := by
    refine Reg.op_ok2 (fun af => { dst := some 47, op := Op.binOp BinOp.eql 3 (Operand.tmp 46) (Operand.const (Value.int IntKind.i64 0)) 3, type := 4, pos := "sort.go:167", after := af, guard := some (4, true) }) #[{ on := 11, ground := Ground.data }, { on := 4, ground := Ground.guard }, { on := 14, ground := Ground.gcOnly Departure.lateStores }] (by kernel_rfl) [11, 4] (by kernel_rfl) fun af v W hb hd => ?_
    have d4 : v 4 = (Value.bool true) := hd 4 (by decide)
    have d11 : v 11 = (Value.int IntKind.i64 xv) := hd 11 (by decide)
    have e46 := (Reg.gfr_eval (ops := (Reg.opsOf Tryd.f34 8)) (a0 := a0) (v := v) (L := [11, 4]) 46 11 (by kernel_rfl) (by rw [hsz]; omega)).trans d11
    have e39 := (Reg.gfr_eval (ops := (Reg.opsOf Tryd.f34 8)) (a0 := a0) (v := v) (L := [11, 4]) 39 4 (by kernel_rfl) (by rw [hsz]; omega)).trans d4
    refine ⟨Reg.wanted_of rfl (by kernel_rfl) e39, ?_⟩
    have eC : ∀ x, (Reg.gfr (Reg.opsOf Tryd.f34 8) a0 v [11, 4]).eval (.const x) = x := fun _ => rfl
    generalize Reg.gfr (Reg.opsOf Tryd.f34 8) a0 v [11, 4] = G at e46 eC ⊢
    generalize hρ : G.eval = ρ at e46 eC
    have hρ' : G.eval = ρ := hρ
    refine Reg.go_run (Value.bool (xv == 0)) W ?_ ?_
    · rw [hρ']; simp [execOp, go_sem, e46, eC]
    · exact ⟨Below.refl _ _, rfl⟩
set_option maxHeartbeats 4000000 in
set_option maxRecDepth 20000 in
theorem bs8t_h13 :
    Reg.OpOK Tryd.prog (Reg.opsOf Tryd.f34 8) a0 w0 (bs8tR g o n c h tb S TC xv) (fun _ _ _ _ => True) 13 := by
    refine Reg.op_ok2 (fun af => { dst := some 48, op := Op.pick (Operand.tmp 39) (Operand.tmp 47) (Operand.const (Value.bool false)), type := 4, pos := "sort.go:167", after := af, guard := none }) #[{ on := 4, ground := Ground.data }, { on := 12, ground := Ground.data }, { on := 14, ground := Ground.gcOnly Departure.lateStores }] (by kernel_rfl) [4, 12] (by kernel_rfl) fun af v W hb hd => ?_
    have d4 : v 4 = (Value.bool true) := hd 4 (by decide)
    have d12 : v 12 = (Value.bool (xv == 0)) := hd 12 (by decide)
    have e39 := (Reg.gfr_eval (ops := (Reg.opsOf Tryd.f34 8)) (a0 := a0) (v := v) (L := [4, 12]) 39 4 (by kernel_rfl) (by rw [hsz]; omega)).trans d4
    have e47 := (Reg.gfr_eval (ops := (Reg.opsOf Tryd.f34 8)) (a0 := a0) (v := v) (L := [4, 12]) 47 12 (by kernel_rfl) (by rw [hsz]; omega)).trans d12
    refine ⟨Reg.wanted_none rfl, ?_⟩
    have eC : ∀ x, (Reg.gfr (Reg.opsOf Tryd.f34 8) a0 v [4, 12]).eval (.const x) = x := fun _ => rfl
    generalize Reg.gfr (Reg.opsOf Tryd.f34 8) a0 v [4, 12] = G at e39 e47 eC ⊢
    generalize hρ : G.eval = ρ at e39 e47 eC
    have hρ' : G.eval = ρ := hρ
    refine Reg.go_run (Value.bool (xv == 0)) W ?_ ?_
    · rw [hρ']; simp [execOp, go_sem, e39, e47, eC]
    · exact ⟨Below.refl _ _, rfl⟩
set_option maxHeartbeats 4000000 in
set_option maxRecDepth 20000 in
theorem bs8t_h14 :
    Reg.OpOK Tryd.prog (Reg.opsOf Tryd.f34 8) a0 w0 (bs8tR g o n c h tb S TC xv) (fun _ _ _ _ => True) 14 := by
    refine Reg.op_ok2 (fun af => { dst := some 6, op := Op.assign (Operand.tmp 35), type := 3, pos := "sort.go:167", after := af, guard := none }) #[{ on := 0, ground := Ground.data }, { on := 11, ground := Ground.chain }, { on := 0, ground := Ground.phase }, { on := 1, ground := Ground.textOnly Departure.lateStores }, { on := 2, ground := Ground.textOnly Departure.lateStores }, { on := 3, ground := Ground.textOnly Departure.lateStores }, { on := 4, ground := Ground.textOnly Departure.lateStores }, { on := 5, ground := Ground.textOnly Departure.lateStores }, { on := 6, ground := Ground.textOnly Departure.lateStores }, { on := 7, ground := Ground.textOnly Departure.lateStores }, { on := 8, ground := Ground.textOnly Departure.lateStores }, { on := 9, ground := Ground.textOnly Departure.lateStores }, { on := 10, ground := Ground.textOnly Departure.lateStores }, { on := 11, ground := Ground.textOnly Departure.lateStoresUnsure }, { on := 12, ground := Ground.textOnly Departure.lateStores }, { on := 13, ground := Ground.textOnly Departure.lateStores }] (by kernel_rfl) [0, 11, 0] (by kernel_rfl) fun af v W hb hd => ?_
    have d0 : v 0 = (Value.int IntKind.i64 (h : Int)) := hd 0 (by decide)
    have e35 := (Reg.gfr_eval (ops := (Reg.opsOf Tryd.f34 8)) (a0 := a0) (v := v) (L := [0, 11, 0]) 35 0 (by kernel_rfl) (by rw [hsz]; omega)).trans d0
    refine ⟨Reg.wanted_none rfl, ?_⟩
    generalize Reg.gfr (Reg.opsOf Tryd.f34 8) a0 v [0, 11, 0] = G at e35 ⊢
    generalize hρ : G.eval = ρ at e35
    have hρ' : G.eval = ρ := hρ
    refine Reg.go_run (Value.int IntKind.i64 (h : Int)) W ?_ ?_
    · rw [hρ']; simp [execOp, go_sem, e35]
    · exact ⟨Below.refl _ _, rfl⟩
set_option maxHeartbeats 4000000 in
set_option maxRecDepth 20000 in
theorem bs8t_h15 :
    Reg.OpOK Tryd.prog (Reg.opsOf Tryd.f34 8) a0 w0 (bs8tR g o n c h tb S TC xv) (fun _ _ _ _ => True) 15 := by
    refine Reg.op_ok2 (fun af => { dst := some 7, op := Op.assign (Operand.tmp 48), type := 4, pos := "sort.go:167", after := af, guard := none }) #[{ on := 13, ground := Ground.data }, { on := 14, ground := Ground.chain }, { on := 0, ground := Ground.phase }, { on := 1, ground := Ground.phase }, { on := 2, ground := Ground.phase }, { on := 3, ground := Ground.phase }, { on := 4, ground := Ground.phase }, { on := 5, ground := Ground.phase }, { on := 6, ground := Ground.phase }, { on := 7, ground := Ground.phase }, { on := 8, ground := Ground.phase }, { on := 9, ground := Ground.phase }, { on := 10, ground := Ground.phase }, { on := 11, ground := Ground.phase }, { on := 12, ground := Ground.phase }, { on := 13, ground := Ground.phase }, { on := 14, ground := Ground.phase }] (by kernel_rfl) [13, 14, 0, 1, 2, 3, 4, 5, 6, 7, 8, 9, 10, 11, 12, 13, 14] (by kernel_rfl) fun af v W hb hd => ?_
    have d13 : v 13 = (Value.bool (xv == 0)) := hd 13 (by decide)
    have e48 := (Reg.gfr_eval (ops := (Reg.opsOf Tryd.f34 8)) (a0 := a0) (v := v) (L := [13, 14, 0, 1, 2, 3, 4, 5, 6, 7, 8, 9, 10, 11, 12, 13, 14]) 48 13 (by kernel_rfl) (by rw [hsz]; omega)).trans d13
    refine ⟨Reg.wanted_none rfl, ?_⟩
    generalize Reg.gfr (Reg.opsOf Tryd.f34 8) a0 v [13, 14, 0, 1, 2, 3, 4, 5, 6, 7, 8, 9, 10, 11, 12, 13, 14] = G at e48 ⊢
    generalize hρ : G.eval = ρ at e48
    have hρ' : G.eval = ρ := hρ
    refine Reg.go_run (Value.bool (xv == 0)) W ?_ ?_
    · rw [hρ']; simp [execOp, go_sem, e48]
    · exact ⟨Below.refl _ _, rfl⟩
end
set_option maxHeartbeats 4000000 in
set_option maxRecDepth 20000 in
theorem bs8t (g o n c h tb : Nat) (S : List Value) (TC : Array Value) (xv : Int) (w0 : World) {s1 s3 s5 s6 s7 s10 s11 s12 s13 s14 s15 s16 s17 s18 s19 s20 s21 s22 s23 s24 s25 s26 s27 s28 s29 s30 s31 s32 s33 s34 s35 s36 s37 s38 s39 s40 s41 s42 s43 s44 s45 s46 s47 s48 : Value}
    (hhn : (h : Int) < (n : Int))
    (hld : ∀ W, Below w0.heap.size w0 W → W.rangeAt g (o + h * 32) S)
    (hSi : (Tryd.prog.info? 25).map (·.size) = some S.length)
    (hTi : (Tryd.prog.info? 25).map (·.size) = some TC.size)
    (hcmp : ∀ W, Below w0.heap.size w0 W → Calls Tryd.prog 16 #[.agg S.toArray, .agg TC] W fun e w' => e = .returned (.int .i64 xv) ∧ Below W.heap.size W w')
    (M_tb : ∀ W, Below w0.heap.size w0 W → W.heap[tb]? = some (.cells TC 25 (0, 0)))
    {Q : Exit → Act → World → Prop}
    (hend : ∀ (w : World), Below w0.heap.size w0 w → Q .normal { tmps := #[(Value.slice (some ⟨g, o, none⟩) n c), s1, (Value.func (Fn.func 16) #[] #[]), s3, (Value.pointer (some ⟨tb, 0, none⟩)), s5, (Value.int IntKind.i64 (h : Int)), (Value.bool (xv == 0)), (Value.int IntKind.i64 (n : Int)), (Value.int IntKind.i64 (h : Int)), s10, s11, s12, s13, s14, s15, s16, s17, s18, s19, s20, s21, s22, s23, s24, s25, s26, s27, s28, s29, s30, s31, s32, s33, s34, (Value.int IntKind.i64 (h : Int)), (Value.int IntKind.i64 (h : Int)), (Value.int IntKind.i64 (n : Int)), (Value.bool true), (Value.bool true), (Value.func (Fn.func 16) #[] #[]), (Value.slice (some ⟨g, o, none⟩) n c), (Value.int IntKind.i64 (h : Int)), (Value.pointer (some ⟨g, o + h * 32, none⟩)), (Value.agg S.toArray), (Value.agg TC), (Value.int IntKind.i64 xv), (Value.bool (xv == 0)), (Value.bool (xv == 0))], defers := [] } w) :
    (Code.region 8 (Reg.opsOf Tryd.f34 8) true).wp Tryd.prog Q { tmps := #[(Value.slice (some ⟨g, o, none⟩) n c), s1, (Value.func (Fn.func 16) #[] #[]), s3, (Value.pointer (some ⟨tb, 0, none⟩)), s5, s6, s7, (Value.int IntKind.i64 (n : Int)), (Value.int IntKind.i64 (h : Int)), s10, s11, s12, s13, s14, s15, s16, s17, s18, s19, s20, s21, s22, s23, s24, s25, s26, s27, s28, s29, s30, s31, s32, s33, s34, s35, s36, s37, s38, s39, s40, s41, s42, s43, s44, s45, s46, s47, s48], defers := [] } w0 := by
  obtain ⟨a0, ha0⟩ : ∃ a0 : Act, a0 = { tmps := #[(Value.slice (some ⟨g, o, none⟩) n c), s1, (Value.func (Fn.func 16) #[] #[]), s3, (Value.pointer (some ⟨tb, 0, none⟩)), s5, s6, s7, (Value.int IntKind.i64 (n : Int)), (Value.int IntKind.i64 (h : Int)), s10, s11, s12, s13, s14, s15, s16, s17, s18, s19, s20, s21, s22, s23, s24, s25, s26, s27, s28, s29, s30, s31, s32, s33, s34, s35, s36, s37, s38, s39, s40, s41, s42, s43, s44, s45, s46, s47, s48], defers := [] } := ⟨_, rfl⟩
  have hfin : ∀ v : Nat → Value, Reg.gfr (Reg.opsOf Tryd.f34 8) a0 v (List.range 16) = { tmps := #[(Value.slice (some ⟨g, o, none⟩) n c), s1, (Value.func (Fn.func 16) #[] #[]), s3, (Value.pointer (some ⟨tb, 0, none⟩)), s5, v 14, v 15, (Value.int IntKind.i64 (n : Int)), (Value.int IntKind.i64 (h : Int)), s10, s11, s12, s13, s14, s15, s16, s17, s18, s19, s20, s21, s22, s23, s24, s25, s26, s27, s28, s29, s30, s31, s32, s33, s34, v 0, v 1, v 2, v 3, v 4, v 5, v 6, v 7, v 8, v 9, v 10, v 11, v 12, v 13], defers := [] } := fun v => by rw [ha0]; kernel_rfl
  rw [← ha0]
  have i0 : a0.eval (.tmp 0) = (Value.slice (some ⟨g, o, none⟩) n c) := by rw [ha0]; rfl
  have i2 : a0.eval (.tmp 2) = (Value.func (Fn.func 16) #[] #[]) := by rw [ha0]; rfl
  have i4 : a0.eval (.tmp 4) = (Value.pointer (some ⟨tb, 0, none⟩)) := by rw [ha0]; rfl
  have i8 : a0.eval (.tmp 8) = (Value.int IntKind.i64 (n : Int)) := by rw [ha0]; rfl
  have i9 : a0.eval (.tmp 9) = (Value.int IntKind.i64 (h : Int)) := by rw [ha0]; rfl
  have hsz : a0.tmps.size = 49 := by rw [ha0]; rfl
  clear ha0
  have hn : (Reg.opsOf Tryd.f34 8).size = 16 := by kernel_rfl
  have h0 := bs8t_h0 g o n c h tb S TC xv w0 a0 hhn hld hSi hTi hcmp M_tb i0 i2 i4 i8 i9 hsz
  have h1 := bs8t_h1 g o n c h tb S TC xv w0 a0 hhn hld hSi hTi hcmp M_tb i0 i2 i4 i8 i9 hsz
  have h2 := bs8t_h2 g o n c h tb S TC xv w0 a0 hhn hld hSi hTi hcmp M_tb i0 i2 i4 i8 i9 hsz
  have h3 := bs8t_h3 g o n c h tb S TC xv w0 a0 hhn hld hSi hTi hcmp M_tb i0 i2 i4 i8 i9 hsz
  have h4 := bs8t_h4 g o n c h tb S TC xv w0 a0 hhn hld hSi hTi hcmp M_tb i0 i2 i4 i8 i9 hsz
  have h5 := bs8t_h5 g o n c h tb S TC xv w0 a0 hhn hld hSi hTi hcmp M_tb i0 i2 i4 i8 i9 hsz
  have h6 := bs8t_h6 g o n c h tb S TC xv w0 a0 hhn hld hSi hTi hcmp M_tb i0 i2 i4 i8 i9 hsz
  have h7 := bs8t_h7 g o n c h tb S TC xv w0 a0 hhn hld hSi hTi hcmp M_tb i0 i2 i4 i8 i9 hsz
  have h8 := bs8t_h8 g o n c h tb S TC xv w0 a0 hhn hld hSi hTi hcmp M_tb i0 i2 i4 i8 i9 hsz
  have h9 := bs8t_h9 g o n c h tb S TC xv w0 a0 hhn hld hSi hTi hcmp M_tb i0 i2 i4 i8 i9 hsz
  have h10 := bs8t_h10 g o n c h tb S TC xv w0 a0 hhn hld hSi hTi hcmp M_tb i0 i2 i4 i8 i9 hsz
  have h11 := bs8t_h11 g o n c h tb S TC xv w0 a0 hhn hld hSi hTi hcmp M_tb i0 i2 i4 i8 i9 hsz
  have h12 := bs8t_h12 g o n c h tb S TC xv w0 a0 hhn hld hSi hTi hcmp M_tb i0 i2 i4 i8 i9 hsz
  have h13 := bs8t_h13 g o n c h tb S TC xv w0 a0 hhn hld hSi hTi hcmp M_tb i0 i2 i4 i8 i9 hsz
  have h14 := bs8t_h14 g o n c h tb S TC xv w0 a0 hhn hld hSi hTi hcmp M_tb i0 i2 i4 i8 i9 hsz
  have h15 := bs8t_h15 g o n c h tb S TC xv w0 a0 hhn hld hSi hTi hcmp M_tb i0 i2 i4 i8 i9 hsz
  refine Reg.region_all (by kernel_rfl) (bs8tR g o n c h tb S TC xv) (by rw [hn, hsz]; kernel_rfl) (bs8t_stable g o n c h tb S TC xv) (fun i hi => ?_) (fun v w hb hR => ?_)
  · rw [hn] at hi
    match i, List.mem_range.1 hi with
    | 0, _ => exact h0
    | 1, _ => exact h1
    | 2, _ => exact h2
    | 3, _ => exact h3
    | 4, _ => exact h4
    | 5, _ => exact h5
    | 6, _ => exact h6
    | 7, _ => exact h7
    | 8, _ => exact h8
    | 9, _ => exact h9
    | 10, _ => exact h10
    | 11, _ => exact h11
    | 12, _ => exact h12
    | 13, _ => exact h13
    | 14, _ => exact h14
    | 15, _ => exact h15
    | (_ + 16), h => omega
  · rw [hn] at hR ⊢
    have v0 : v 0 = (Value.int IntKind.i64 (h : Int)) := hR 0 (by decide)
    have v1 : v 1 = (Value.int IntKind.i64 (h : Int)) := hR 1 (by decide)
    have v2 : v 2 = (Value.int IntKind.i64 (n : Int)) := hR 2 (by decide)
    have v3 : v 3 = (Value.bool true) := hR 3 (by decide)
    have v4 : v 4 = (Value.bool true) := hR 4 (by decide)
    have v5 : v 5 = (Value.func (Fn.func 16) #[] #[]) := hR 5 (by decide)
    have v6 : v 6 = (Value.slice (some ⟨g, o, none⟩) n c) := hR 6 (by decide)
    have v7 : v 7 = (Value.int IntKind.i64 (h : Int)) := hR 7 (by decide)
    have v8 : v 8 = (Value.pointer (some ⟨g, o + h * 32, none⟩)) := hR 8 (by decide)
    have v9 : v 9 = (Value.agg S.toArray) := hR 9 (by decide)
    have v10 : v 10 = (Value.agg TC) := hR 10 (by decide)
    have v11 : v 11 = (Value.int IntKind.i64 xv) := hR 11 (by decide)
    have v12 : v 12 = (Value.bool (xv == 0)) := hR 12 (by decide)
    have v13 : v 13 = (Value.bool (xv == 0)) := hR 13 (by decide)
    have v14 : v 14 = (Value.int IntKind.i64 (h : Int)) := hR 14 (by decide)
    have v15 : v 15 = (Value.bool (xv == 0)) := hR 15 (by decide)
    rw [hfin v, v0, v1, v2, v3, v4, v5, v6, v7, v8, v9, v10, v11, v12, v13, v14, v15]
    exact hend w  hb 
def bs8fR (n : Nat) (AV TV : Value) : Nat → Value → World → Prop
  | 0 => fun x_ _ => x_ = (Value.int IntKind.i64 (n : Int))
  | 1 => fun x_ _ => x_ = (Value.int IntKind.i64 (n : Int))
  | 2 => fun x_ _ => x_ = (Value.int IntKind.i64 (n : Int))
  | 3 => fun x_ _ => x_ = (Value.bool false)
  | 4 => fun x_ _ => x_ = (Value.bool false)
  | 5 => fun x_ _ => x_ = undef
  | 6 => fun x_ _ => x_ = undef
  | 7 => fun x_ _ => x_ = undef
  | 8 => fun x_ _ => x_ = undef
  | 9 => fun x_ _ => x_ = undef
  | 10 => fun x_ _ => x_ = undef
  | 11 => fun x_ _ => x_ = undef
  | 12 => fun x_ _ => x_ = undef
  | 13 => fun x_ _ => x_ = (Value.bool false)
  | 14 => fun x_ _ => x_ = (Value.int IntKind.i64 (n : Int))
  | 15 => fun x_ _ => x_ = (Value.bool false)
  | _ => fun _ _ => True
theorem bs8f_stable (n : Nat) (AV TV : Value) : ∀ i_ u_ w_ w_', (bs8fR n AV TV) i_ u_ w_ → Below w_.heap.size w_ w_' → (bs8fR n AV TV) i_ u_ w_' := fun i_ u_ w_ w_' h_ hb_ => by
  match i_, h_ with
  | 0, h_ => exact h_
  | 1, h_ => exact h_
  | 2, h_ => exact h_
  | 3, h_ => exact h_
  | 4, h_ => exact h_
  | 5, h_ => exact h_
  | 6, h_ => exact h_
  | 7, h_ => exact h_
  | 8, h_ => exact h_
  | 9, h_ => exact h_
  | 10, h_ => exact h_
  | 11, h_ => exact h_
  | 12, h_ => exact h_
  | 13, h_ => exact h_
  | 14, h_ => exact h_
  | 15, h_ => exact h_
  | (_ + 16), _ => trivial
section
variable (n : Nat) (AV TV : Value) (w0 : World) (a0 : Act)
variable (i0 : a0.eval (.tmp 0) = AV) (i2 : a0.eval (.tmp 2) = (Value.func (Fn.func 16) #[] #[])) (i4 : a0.eval (.tmp 4) = TV) (i8 : a0.eval (.tmp 8) = (Value.int IntKind.i64 (n : Int))) (i9 : a0.eval (.tmp 9) = (Value.int IntKind.i64 (n : Int))) (hsz : a0.tmps.size = 49)
include n AV TV w0 a0 i0 i2 i4 i8 i9 hsz
set_option maxHeartbeats 4000000 in
set_option maxRecDepth 20000 in
theorem bs8f_h0 :
    Reg.OpOK Tryd.prog (Reg.opsOf Tryd.f34 8) a0 w0 (bs8fR n AV TV) (fun _ _ _ _ => True) 0 := by
    refine Reg.op_ok2 (fun af => { dst := some 35, op := Op.move (Operand.tmp 9), type := 3, pos := "sort.go:167", after := af, guard := none }) #[] (by kernel_rfl) [] (by kernel_rfl) fun af v W hb hd => ?_
    have e9 := (Reg.gfr_eval0 (ops := (Reg.opsOf Tryd.f34 8)) (a0 := a0) (v := v) (L := []) 9 (by kernel_rfl)).trans i9
    refine ⟨Reg.wanted_none rfl, ?_⟩
    generalize Reg.gfr (Reg.opsOf Tryd.f34 8) a0 v [] = G at e9 ⊢
    generalize hρ : G.eval = ρ at e9
    have hρ' : G.eval = ρ := hρ
    refine Reg.go_run (Value.int IntKind.i64 (n : Int)) W ?_ ?_
    · rw [hρ']; simp [execOp, go_sem, e9]
    · exact ⟨Below.refl _ _, rfl⟩
set_option maxHeartbeats 4000000 in
set_option maxRecDepth 20000 in
theorem bs8f_h1 :
    Reg.OpOK Tryd.prog (Reg.opsOf Tryd.f34 8) a0 w0 (bs8fR n AV TV) (fun _ _ _ _ => True) 1 := by
    refine Reg.op_ok2 (fun af => { dst := some 36, op := Op.move (Operand.tmp 9), type := 3, pos := "sort.go:167", after := af, guard := none }) #[] (by kernel_rfl) [] (by kernel_rfl) fun af v W hb hd => ?_
    have e9 := (Reg.gfr_eval0 (ops := (Reg.opsOf Tryd.f34 8)) (a0 := a0) (v := v) (L := []) 9 (by kernel_rfl)).trans i9
    refine ⟨Reg.wanted_none rfl, ?_⟩
    generalize Reg.gfr (Reg.opsOf Tryd.f34 8) a0 v [] = G at e9 ⊢
    generalize hρ : G.eval = ρ at e9
    have hρ' : G.eval = ρ := hρ
    refine Reg.go_run (Value.int IntKind.i64 (n : Int)) W ?_ ?_
    · rw [hρ']; simp [execOp, go_sem, e9]
    · exact ⟨Below.refl _ _, rfl⟩
set_option maxHeartbeats 4000000 in
set_option maxRecDepth 20000 in
theorem bs8f_h2 :
    Reg.OpOK Tryd.prog (Reg.opsOf Tryd.f34 8) a0 w0 (bs8fR n AV TV) (fun _ _ _ _ => True) 2 := by
    refine Reg.op_ok2 (fun af => { dst := some 37, op := Op.move (Operand.tmp 8), type := 3, pos := "sort.go:167", after := af, guard := none }) #[] (by kernel_rfl) [] (by kernel_rfl) fun af v W hb hd => ?_
    have e8 := (Reg.gfr_eval0 (ops := (Reg.opsOf Tryd.f34 8)) (a0 := a0) (v := v) (L := []) 8 (by kernel_rfl)).trans i8
    refine ⟨Reg.wanted_none rfl, ?_⟩
    generalize Reg.gfr (Reg.opsOf Tryd.f34 8) a0 v [] = G at e8 ⊢
    generalize hρ : G.eval = ρ at e8
    have hρ' : G.eval = ρ := hρ
    refine Reg.go_run (Value.int IntKind.i64 (n : Int)) W ?_ ?_
    · rw [hρ']; simp [execOp, go_sem, e8]
    · exact ⟨Below.refl _ _, rfl⟩
set_option maxHeartbeats 4000000 in
set_option maxRecDepth 20000 in
theorem bs8f_h3 :
    Reg.OpOK Tryd.prog (Reg.opsOf Tryd.f34 8) a0 w0 (bs8fR n AV TV) (fun _ _ _ _ => True) 3 := by
    refine Reg.op_ok2 (fun af => { dst := some 38, op := Op.binOp BinOp.lss 3 (Operand.tmp 36) (Operand.tmp 37) 3, type := 4, pos := "sort.go:167", after := af, guard := none }) #[{ on := 1, ground := Ground.data }, { on := 2, ground := Ground.data }] (by kernel_rfl) [1, 2] (by kernel_rfl) fun af v W hb hd => ?_
    have d1 : v 1 = (Value.int IntKind.i64 (n : Int)) := hd 1 (by decide)
    have d2 : v 2 = (Value.int IntKind.i64 (n : Int)) := hd 2 (by decide)
    have e36 := (Reg.gfr_eval (ops := (Reg.opsOf Tryd.f34 8)) (a0 := a0) (v := v) (L := [1, 2]) 36 1 (by kernel_rfl) (by rw [hsz]; omega)).trans d1
    have e37 := (Reg.gfr_eval (ops := (Reg.opsOf Tryd.f34 8)) (a0 := a0) (v := v) (L := [1, 2]) 37 2 (by kernel_rfl) (by rw [hsz]; omega)).trans d2
    refine ⟨Reg.wanted_none rfl, ?_⟩
    generalize Reg.gfr (Reg.opsOf Tryd.f34 8) a0 v [1, 2] = G at e36 e37 ⊢
    generalize hρ : G.eval = ρ at e36 e37
    have hρ' : G.eval = ρ := hρ
    refine Reg.go_run (Value.bool false) W ?_ ?_
    · rw [hρ']; simp [execOp, go_sem, e36, e37]
    · exact ⟨Below.refl _ _, rfl⟩
set_option maxHeartbeats 4000000 in
set_option maxRecDepth 20000 in
theorem bs8f_h4 :
    Reg.OpOK Tryd.prog (Reg.opsOf Tryd.f34 8) a0 w0 (bs8fR n AV TV) (fun _ _ _ _ => True) 4 := by
    refine Reg.op_ok2 (fun af => { dst := some 39, op := Op.move (Operand.tmp 38), type := 4, pos := "sort.go:167", after := af, guard := none }) #[{ on := 3, ground := Ground.data }] (by kernel_rfl) [3] (by kernel_rfl) fun af v W hb hd => ?_
    have d3 : v 3 = (Value.bool false) := hd 3 (by decide)
    have e38 := (Reg.gfr_eval (ops := (Reg.opsOf Tryd.f34 8)) (a0 := a0) (v := v) (L := [3]) 38 3 (by kernel_rfl) (by rw [hsz]; omega)).trans d3
    refine ⟨Reg.wanted_none rfl, ?_⟩
    generalize Reg.gfr (Reg.opsOf Tryd.f34 8) a0 v [3] = G at e38 ⊢
    generalize hρ : G.eval = ρ at e38
    have hρ' : G.eval = ρ := hρ
    refine Reg.go_run (Value.bool false) W ?_ ?_
    · rw [hρ']; simp [execOp, go_sem, e38]
    · exact ⟨Below.refl _ _, rfl⟩
set_option maxHeartbeats 4000000 in
set_option maxRecDepth 20000 in
theorem bs8f_h5 :
    Reg.OpOK Tryd.prog (Reg.opsOf Tryd.f34 8) a0 w0 (bs8fR n AV TV) (fun _ _ _ _ => True) 5 := by
    refine Reg.op_no2 (fun af => { dst := some 40, op := Op.move (Operand.tmp 2), type := 45, pos := "sort.go:167", after := af, guard := some (4, true) }) #[{ on := 4, ground := Ground.guard }] (by kernel_rfl) [4] (by kernel_rfl) fun af v W hb hd => ?_
    have d4 : v 4 = (Value.bool false) := hd 4 (by decide)
    have e39 := (Reg.gfr_eval (ops := (Reg.opsOf Tryd.f34 8)) (a0 := a0) (v := v) (L := [4]) 39 4 (by kernel_rfl) (by rw [hsz]; omega)).trans d4
    exact ⟨Reg.wanted_not rfl (by kernel_rfl) e39, rfl, fun _ _ _ _ => ⟨trivial, trivial⟩⟩
set_option maxHeartbeats 4000000 in
set_option maxRecDepth 20000 in
theorem bs8f_h6 :
    Reg.OpOK Tryd.prog (Reg.opsOf Tryd.f34 8) a0 w0 (bs8fR n AV TV) (fun _ _ _ _ => True) 6 := by
    refine Reg.op_no2 (fun af => { dst := some 41, op := Op.move (Operand.tmp 0), type := 47, pos := "sort.go:167", after := af, guard := some (4, true) }) #[{ on := 4, ground := Ground.guard }] (by kernel_rfl) [4] (by kernel_rfl) fun af v W hb hd => ?_
    have d4 : v 4 = (Value.bool false) := hd 4 (by decide)
    have e39 := (Reg.gfr_eval (ops := (Reg.opsOf Tryd.f34 8)) (a0 := a0) (v := v) (L := [4]) 39 4 (by kernel_rfl) (by rw [hsz]; omega)).trans d4
    exact ⟨Reg.wanted_not rfl (by kernel_rfl) e39, rfl, fun _ _ _ _ => ⟨trivial, trivial⟩⟩
set_option maxHeartbeats 4000000 in
set_option maxRecDepth 20000 in
theorem bs8f_h7 :
    Reg.OpOK Tryd.prog (Reg.opsOf Tryd.f34 8) a0 w0 (bs8fR n AV TV) (fun _ _ _ _ => True) 7 := by
    refine Reg.op_no2 (fun af => { dst := some 42, op := Op.move (Operand.tmp 9), type := 3, pos := "sort.go:167", after := af, guard := some (4, true) }) #[{ on := 4, ground := Ground.guard }] (by kernel_rfl) [4] (by kernel_rfl) fun af v W hb hd => ?_
    have d4 : v 4 = (Value.bool false) := hd 4 (by decide)
    have e39 := (Reg.gfr_eval (ops := (Reg.opsOf Tryd.f34 8)) (a0 := a0) (v := v) (L := [4]) 39 4 (by kernel_rfl) (by rw [hsz]; omega)).trans d4
    exact ⟨Reg.wanted_not rfl (by kernel_rfl) e39, rfl, fun _ _ _ _ => ⟨trivial, trivial⟩⟩
set_option maxHeartbeats 4000000 in
set_option maxRecDepth 20000 in
theorem bs8f_h8 :
    Reg.OpOK Tryd.prog (Reg.opsOf Tryd.f34 8) a0 w0 (bs8fR n AV TV) (fun _ _ _ _ => True) 8 := by
    refine Reg.op_no2 (fun af => { dst := some 43, op := Op.indexAddr 47 (Operand.tmp 41) (Operand.tmp 42), type := 0, pos := "sort.go:167", after := af, guard := some (4, true) }) #[{ on := 6, ground := Ground.data }, { on := 7, ground := Ground.data }, { on := 4, ground := Ground.guard }] (by kernel_rfl) [6, 7, 4] (by kernel_rfl) fun af v W hb hd => ?_
    have d4 : v 4 = (Value.bool false) := hd 4 (by decide)
    have e39 := (Reg.gfr_eval (ops := (Reg.opsOf Tryd.f34 8)) (a0 := a0) (v := v) (L := [6, 7, 4]) 39 4 (by kernel_rfl) (by rw [hsz]; omega)).trans d4
    exact ⟨Reg.wanted_not rfl (by kernel_rfl) e39, rfl, fun _ _ _ _ => ⟨trivial, trivial⟩⟩
set_option maxHeartbeats 4000000 in
set_option maxRecDepth 20000 in
theorem bs8f_h9 :
    Reg.OpOK Tryd.prog (Reg.opsOf Tryd.f34 8) a0 w0 (bs8fR n AV TV) (fun _ _ _ _ => True) 9 := by
    refine Reg.op_no2 (fun af => { dst := some 44, op := Op.load 25 (Operand.tmp 43), type := 25, pos := "sort.go:167", after := af, guard := some (4, true) }) #[{ on := 8, ground := Ground.data }, { on := 4, ground := Ground.guard }] (by kernel_rfl) [8, 4] (by kernel_rfl) fun af v W hb hd => ?_
    have d4 : v 4 = (Value.bool false) := hd 4 (by decide)
    have e39 := (Reg.gfr_eval (ops := (Reg.opsOf Tryd.f34 8)) (a0 := a0) (v := v) (L := [8, 4]) 39 4 (by kernel_rfl) (by rw [hsz]; omega)).trans d4
    exact ⟨Reg.wanted_not rfl (by kernel_rfl) e39, rfl, fun _ _ _ _ => ⟨trivial, trivial⟩⟩
set_option maxHeartbeats 4000000 in
set_option maxRecDepth 20000 in
theorem bs8f_h10 :
    Reg.OpOK Tryd.prog (Reg.opsOf Tryd.f34 8) a0 w0 (bs8fR n AV TV) (fun _ _ _ _ => True) 10 := by
    refine Reg.op_no2 (fun af => { dst := some 45, op := Op.load 25 (Operand.tmp 4), type := 25, pos := "sort.go:167", after := af, guard := some (4, true) }) #[{ on := 4, ground := Ground.guard }] (by kernel_rfl) [4] (by kernel_rfl) fun af v W hb hd => ?_
    have d4 : v 4 = (Value.bool false) := hd 4 (by decide)
    have e39 := (Reg.gfr_eval (ops := (Reg.opsOf Tryd.f34 8)) (a0 := a0) (v := v) (L := [4]) 39 4 (by kernel_rfl) (by rw [hsz]; omega)).trans d4
    exact ⟨Reg.wanted_not rfl (by kernel_rfl) e39, rfl, fun _ _ _ _ => ⟨trivial, trivial⟩⟩
set_option maxHeartbeats 4000000 in
set_option maxRecDepth 20000 in
theorem bs8f_h11 :
    Reg.OpOK Tryd.prog (Reg.opsOf Tryd.f34 8) a0 w0 (bs8fR n AV TV) (fun _ _ _ _ => True) 11 := by
    refine Reg.op_no2 (fun af => { dst := some 46, op := Op.call { callee := Callee.value (Operand.tmp 40), args := #[Operand.tmp 44, Operand.tmp 45], argTypes := #[25, 25] }, type := 3, pos := "sort.go:167", after := af, guard := some (4, true) }) #[{ on := 5, ground := Ground.data }, { on := 9, ground := Ground.data }, { on := 10, ground := Ground.data }, { on := 4, ground := Ground.chain }, { on := 4, ground := Ground.guard }] (by kernel_rfl) [5, 9, 10, 4, 4] (by kernel_rfl) fun af v W hb hd => ?_
    have d4 : v 4 = (Value.bool false) := hd 4 (by decide)
    have e39 := (Reg.gfr_eval (ops := (Reg.opsOf Tryd.f34 8)) (a0 := a0) (v := v) (L := [5, 9, 10, 4, 4]) 39 4 (by kernel_rfl) (by rw [hsz]; omega)).trans d4
    exact ⟨Reg.wanted_not rfl (by kernel_rfl) e39, rfl, fun _ _ _ _ => ⟨trivial, trivial⟩⟩
set_option maxHeartbeats 4000000 in
set_option maxRecDepth 20000 in
theorem bs8f_h12 :
    Reg.OpOK Tryd.prog (Reg.opsOf Tryd.f34 8) a0 w0 (bs8fR n AV TV) (fun _ _ _ _ => True) 12 := by
    refine Reg.op_no2 (fun af => { dst := some 47, op := Op.binOp BinOp.eql 3 (Operand.tmp 46) (Operand.const (Value.int IntKind.i64 0)) 3, type := 4, pos := "sort.go:167", after := af, guard := some (4, true) }) #[{ on := 11, ground := Ground.data }, { on := 4, ground := Ground.guard }, { on := 14, ground := Ground.gcOnly Departure.lateStores }] (by kernel_rfl) [11, 4] (by kernel_rfl) fun af v W hb hd => ?_
    have d4 : v 4 = (Value.bool false) := hd 4 (by decide)
    have e39 := (Reg.gfr_eval (ops := (Reg.opsOf Tryd.f34 8)) (a0 := a0) (v := v) (L := [11, 4]) 39 4 (by kernel_rfl) (by rw [hsz]; omega)).trans d4
    exact ⟨Reg.wanted_not rfl (by kernel_rfl) e39, rfl, fun _ _ _ _ => ⟨trivial, trivial⟩⟩
set_option maxHeartbeats 4000000 in
set_option maxRecDepth 20000 in
theorem bs8f_h13 :
    Reg.OpOK Tryd.prog (Reg.opsOf Tryd.f34 8) a0 w0 (bs8fR n AV TV) (fun _ _ _ _ => True) 13 := by
    refine Reg.op_ok2 (fun af => { dst := some 48, op := Op.pick (Operand.tmp 39) (Operand.tmp 47) (Operand.const (Value.bool false)), type := 4, pos := "sort.go:167", after := af, guard := none }) #[{ on := 4, ground := Ground.data }, { on := 12, ground := Ground.data }, { on := 14, ground := Ground.gcOnly Departure.lateStores }] (by kernel_rfl) [4, 12] (by kernel_rfl) fun af v W hb hd => ?_
    have d4 : v 4 = (Value.bool false) := hd 4 (by decide)
    have d12 : v 12 = undef := hd 12 (by decide)
    have e39 := (Reg.gfr_eval (ops := (Reg.opsOf Tryd.f34 8)) (a0 := a0) (v := v) (L := [4, 12]) 39 4 (by kernel_rfl) (by rw [hsz]; omega)).trans d4
    have e47 := (Reg.gfr_eval (ops := (Reg.opsOf Tryd.f34 8)) (a0 := a0) (v := v) (L := [4, 12]) 47 12 (by kernel_rfl) (by rw [hsz]; omega)).trans d12
    refine ⟨Reg.wanted_none rfl, ?_⟩
    have eC : ∀ x, (Reg.gfr (Reg.opsOf Tryd.f34 8) a0 v [4, 12]).eval (.const x) = x := fun _ => rfl
    generalize Reg.gfr (Reg.opsOf Tryd.f34 8) a0 v [4, 12] = G at e39 e47 eC ⊢
    generalize hρ : G.eval = ρ at e39 e47 eC
    have hρ' : G.eval = ρ := hρ
    refine Reg.go_run (Value.bool false) W ?_ ?_
    · rw [hρ']; simp [execOp, go_sem, e39, e47, eC]
    · exact ⟨Below.refl _ _, rfl⟩
set_option maxHeartbeats 4000000 in
set_option maxRecDepth 20000 in
theorem bs8f_h14 :
    Reg.OpOK Tryd.prog (Reg.opsOf Tryd.f34 8) a0 w0 (bs8fR n AV TV) (fun _ _ _ _ => True) 14 := by
    refine Reg.op_ok2 (fun af => { dst := some 6, op := Op.assign (Operand.tmp 35), type := 3, pos := "sort.go:167", after := af, guard := none }) #[{ on := 0, ground := Ground.data }, { on := 11, ground := Ground.chain }, { on := 0, ground := Ground.phase }, { on := 1, ground := Ground.textOnly Departure.lateStores }, { on := 2, ground := Ground.textOnly Departure.lateStores }, { on := 3, ground := Ground.textOnly Departure.lateStores }, { on := 4, ground := Ground.textOnly Departure.lateStores }, { on := 5, ground := Ground.textOnly Departure.lateStores }, { on := 6, ground := Ground.textOnly Departure.lateStores }, { on := 7, ground := Ground.textOnly Departure.lateStores }, { on := 8, ground := Ground.textOnly Departure.lateStores }, { on := 9, ground := Ground.textOnly Departure.lateStores }, { on := 10, ground := Ground.textOnly Departure.lateStores }, { on := 11, ground := Ground.textOnly Departure.lateStoresUnsure }, { on := 12, ground := Ground.textOnly Departure.lateStores }, { on := 13, ground := Ground.textOnly Departure.lateStores }] (by kernel_rfl) [0, 11, 0] (by kernel_rfl) fun af v W hb hd => ?_
    have d0 : v 0 = (Value.int IntKind.i64 (n : Int)) := hd 0 (by decide)
    have e35 := (Reg.gfr_eval (ops := (Reg.opsOf Tryd.f34 8)) (a0 := a0) (v := v) (L := [0, 11, 0]) 35 0 (by kernel_rfl) (by rw [hsz]; omega)).trans d0
    refine ⟨Reg.wanted_none rfl, ?_⟩
    generalize Reg.gfr (Reg.opsOf Tryd.f34 8) a0 v [0, 11, 0] = G at e35 ⊢
    generalize hρ : G.eval = ρ at e35
    have hρ' : G.eval = ρ := hρ
    refine Reg.go_run (Value.int IntKind.i64 (n : Int)) W ?_ ?_
    · rw [hρ']; simp [execOp, go_sem, e35]
    · exact ⟨Below.refl _ _, rfl⟩
set_option maxHeartbeats 4000000 in
set_option maxRecDepth 20000 in
theorem bs8f_h15 :
    Reg.OpOK Tryd.prog (Reg.opsOf Tryd.f34 8) a0 w0 (bs8fR n AV TV) (fun _ _ _ _ => True) 15 := by
    refine Reg.op_ok2 (fun af => { dst := some 7, op := Op.assign (Operand.tmp 48), type := 4, pos := "sort.go:167", after := af, guard := none }) #[{ on := 13, ground := Ground.data }, { on := 14, ground := Ground.chain }, { on := 0, ground := Ground.phase }, { on := 1, ground := Ground.phase }, { on := 2, ground := Ground.phase }, { on := 3, ground := Ground.phase }, { on := 4, ground := Ground.phase }, { on := 5, ground := Ground.phase }, { on := 6, ground := Ground.phase }, { on := 7, ground := Ground.phase }, { on := 8, ground := Ground.phase }, { on := 9, ground := Ground.phase }, { on := 10, ground := Ground.phase }, { on := 11, ground := Ground.phase }, { on := 12, ground := Ground.phase }, { on := 13, ground := Ground.phase }, { on := 14, ground := Ground.phase }] (by kernel_rfl) [13, 14, 0, 1, 2, 3, 4, 5, 6, 7, 8, 9, 10, 11, 12, 13, 14] (by kernel_rfl) fun af v W hb hd => ?_
    have d13 : v 13 = (Value.bool false) := hd 13 (by decide)
    have e48 := (Reg.gfr_eval (ops := (Reg.opsOf Tryd.f34 8)) (a0 := a0) (v := v) (L := [13, 14, 0, 1, 2, 3, 4, 5, 6, 7, 8, 9, 10, 11, 12, 13, 14]) 48 13 (by kernel_rfl) (by rw [hsz]; omega)).trans d13
    refine ⟨Reg.wanted_none rfl, ?_⟩
    generalize Reg.gfr (Reg.opsOf Tryd.f34 8) a0 v [13, 14, 0, 1, 2, 3, 4, 5, 6, 7, 8, 9, 10, 11, 12, 13, 14] = G at e48 ⊢
    generalize hρ : G.eval = ρ at e48
    have hρ' : G.eval = ρ := hρ
    refine Reg.go_run (Value.bool false) W ?_ ?_
    · rw [hρ']; simp [execOp, go_sem, e48]
    · exact ⟨Below.refl _ _, rfl⟩
end
set_option maxHeartbeats 4000000 in
set_option maxRecDepth 20000 in
theorem bs8f (n : Nat) (AV TV : Value) (w0 : World) {s1 s3 s5 s6 s7 s10 s11 s12 s13 s14 s15 s16 s17 s18 s19 s20 s21 s22 s23 s24 s25 s26 s27 s28 s29 s30 s31 s32 s33 s34 s35 s36 s37 s38 s39 s40 s41 s42 s43 s44 s45 s46 s47 s48 : Value}
    {Q : Exit → Act → World → Prop}
    (hend : ∀ (w : World), Below w0.heap.size w0 w → Q .normal { tmps := #[AV, s1, (Value.func (Fn.func 16) #[] #[]), s3, TV, s5, (Value.int IntKind.i64 (n : Int)), (Value.bool false), (Value.int IntKind.i64 (n : Int)), (Value.int IntKind.i64 (n : Int)), s10, s11, s12, s13, s14, s15, s16, s17, s18, s19, s20, s21, s22, s23, s24, s25, s26, s27, s28, s29, s30, s31, s32, s33, s34, (Value.int IntKind.i64 (n : Int)), (Value.int IntKind.i64 (n : Int)), (Value.int IntKind.i64 (n : Int)), (Value.bool false), (Value.bool false), undef, undef, undef, undef, undef, undef, undef, undef, (Value.bool false)], defers := [] } w) :
    (Code.region 8 (Reg.opsOf Tryd.f34 8) true).wp Tryd.prog Q { tmps := #[AV, s1, (Value.func (Fn.func 16) #[] #[]), s3, TV, s5, s6, s7, (Value.int IntKind.i64 (n : Int)), (Value.int IntKind.i64 (n : Int)), s10, s11, s12, s13, s14, s15, s16, s17, s18, s19, s20, s21, s22, s23, s24, s25, s26, s27, s28, s29, s30, s31, s32, s33, s34, s35, s36, s37, s38, s39, s40, s41, s42, s43, s44, s45, s46, s47, s48], defers := [] } w0 := by
  obtain ⟨a0, ha0⟩ : ∃ a0 : Act, a0 = { tmps := #[AV, s1, (Value.func (Fn.func 16) #[] #[]), s3, TV, s5, s6, s7, (Value.int IntKind.i64 (n : Int)), (Value.int IntKind.i64 (n : Int)), s10, s11, s12, s13, s14, s15, s16, s17, s18, s19, s20, s21, s22, s23, s24, s25, s26, s27, s28, s29, s30, s31, s32, s33, s34, s35, s36, s37, s38, s39, s40, s41, s42, s43, s44, s45, s46, s47, s48], defers := [] } := ⟨_, rfl⟩
  have hfin : ∀ v : Nat → Value, Reg.gfr (Reg.opsOf Tryd.f34 8) a0 v (List.range 16) = { tmps := #[AV, s1, (Value.func (Fn.func 16) #[] #[]), s3, TV, s5, v 14, v 15, (Value.int IntKind.i64 (n : Int)), (Value.int IntKind.i64 (n : Int)), s10, s11, s12, s13, s14, s15, s16, s17, s18, s19, s20, s21, s22, s23, s24, s25, s26, s27, s28, s29, s30, s31, s32, s33, s34, v 0, v 1, v 2, v 3, v 4, v 5, v 6, v 7, v 8, v 9, v 10, v 11, v 12, v 13], defers := [] } := fun v => by rw [ha0]; kernel_rfl
  rw [← ha0]
  have i0 : a0.eval (.tmp 0) = AV := by rw [ha0]; rfl
  have i2 : a0.eval (.tmp 2) = (Value.func (Fn.func 16) #[] #[]) := by rw [ha0]; rfl
  have i4 : a0.eval (.tmp 4) = TV := by rw [ha0]; rfl
  have i8 : a0.eval (.tmp 8) = (Value.int IntKind.i64 (n : Int)) := by rw [ha0]; rfl
  have i9 : a0.eval (.tmp 9) = (Value.int IntKind.i64 (n : Int)) := by rw [ha0]; rfl
  have hsz : a0.tmps.size = 49 := by rw [ha0]; rfl
  clear ha0
  have hn : (Reg.opsOf Tryd.f34 8).size = 16 := by kernel_rfl
  have h0 := bs8f_h0 n AV TV w0 a0 i0 i2 i4 i8 i9 hsz
  have h1 := bs8f_h1 n AV TV w0 a0 i0 i2 i4 i8 i9 hsz
  have h2 := bs8f_h2 n AV TV w0 a0 i0 i2 i4 i8 i9 hsz
  have h3 := bs8f_h3 n AV TV w0 a0 i0 i2 i4 i8 i9 hsz
  have h4 := bs8f_h4 n AV TV w0 a0 i0 i2 i4 i8 i9 hsz
  have h5 := bs8f_h5 n AV TV w0 a0 i0 i2 i4 i8 i9 hsz
  have h6 := bs8f_h6 n AV TV w0 a0 i0 i2 i4 i8 i9 hsz
  have h7 := bs8f_h7 n AV TV w0 a0 i0 i2 i4 i8 i9 hsz
  have h8 := bs8f_h8 n AV TV w0 a0 i0 i2 i4 i8 i9 hsz
  have h9 := bs8f_h9 n AV TV w0 a0 i0 i2 i4 i8 i9 hsz
  have h10 := bs8f_h10 n AV TV w0 a0 i0 i2 i4 i8 i9 hsz
  have h11 := bs8f_h11 n AV TV w0 a0 i0 i2 i4 i8 i9 hsz
  have h12 := bs8f_h12 n AV TV w0 a0 i0 i2 i4 i8 i9 hsz
  have h13 := bs8f_h13 n AV TV w0 a0 i0 i2 i4 i8 i9 hsz
  have h14 := bs8f_h14 n AV TV w0 a0 i0 i2 i4 i8 i9 hsz
  have h15 := bs8f_h15 n AV TV w0 a0 i0 i2 i4 i8 i9 hsz
  refine Reg.region_all (by kernel_rfl) (bs8fR n AV TV) (by rw [hn, hsz]; kernel_rfl) (bs8f_stable n AV TV) (fun i hi => ?_) (fun v w hb hR => ?_)
  · rw [hn] at hi
    match i, List.mem_range.1 hi with
    | 0, _ => exact h0
    | 1, _ => exact h1
    | 2, _ => exact h2
    | 3, _ => exact h3
    | 4, _ => exact h4
    | 5, _ => exact h5
    | 6, _ => exact h6
    | 7, _ => exact h7
    | 8, _ => exact h8
    | 9, _ => exact h9
    | 10, _ => exact h10
    | 11, _ => exact h11
    | 12, _ => exact h12
    | 13, _ => exact h13
    | 14, _ => exact h14
    | 15, _ => exact h15
    | (_ + 16), h => omega
  · rw [hn] at hR ⊢
    have v0 : v 0 = (Value.int IntKind.i64 (n : Int)) := hR 0 (by decide)
    have v1 : v 1 = (Value.int IntKind.i64 (n : Int)) := hR 1 (by decide)
    have v2 : v 2 = (Value.int IntKind.i64 (n : Int)) := hR 2 (by decide)
    have v3 : v 3 = (Value.bool false) := hR 3 (by decide)
    have v4 : v 4 = (Value.bool false) := hR 4 (by decide)
    have v5 : v 5 = undef := hR 5 (by decide)
    have v6 : v 6 = undef := hR 6 (by decide)
    have v7 : v 7 = undef := hR 7 (by decide)
    have v8 : v 8 = undef := hR 8 (by decide)
    have v9 : v 9 = undef := hR 9 (by decide)
    have v10 : v 10 = undef := hR 10 (by decide)
    have v11 : v 11 = undef := hR 11 (by decide)
    have v12 : v 12 = undef := hR 12 (by decide)
    have v13 : v 13 = (Value.bool false) := hR 13 (by decide)
    have v14 : v 14 = (Value.int IntKind.i64 (n : Int)) := hR 14 (by decide)
    have v15 : v 15 = (Value.bool false) := hR 15 (by decide)
    rw [hfin v, v0, v1, v2, v3, v4, v5, v6, v7, v8, v9, v10, v11, v12, v13, v14, v15]
    exact hend w  hb 
end Go.Proofs.YtcdnbidenaljlaaDoor

