/- Texts of this proof, laid into one: SetB, SetC, SetGb, SetD, SetGc, SetE, SetF, SetG, SetI. -/
import Derived.Test.YtcdnbidenaljlaaDoorMHashNames13
import Derived.Deep.DeepCutAuto
import Derived.Test.YtcdnbidenaljlaaDoorMHashNames12
import Derived.Test.YtcdnbidenaljlaaDoorMHashNames7
import Derived.Great.Walk
/- slices.BinarySearchFunc among rising ids, by hash.Compare. -/
namespace Go.Proofs.YtcdnbidenaljlaaDoor
open Go.RowKit

/-- A list of ids, as it is read. -/
def RdIds (w : World) (A : Option Addr) (L : List (List UInt8)) : Prop := ∀ k (hk : k < L.length), ∃ g o, A = some ⟨g, o, none⟩ ∧ w.rangeAt g (o + k * 32) (u8v L[k])
theorem range_below {w W : World} {b o : Nat} {cs : List Value} (h : w.rangeAt b o cs) (hb : Below w.heap.size w W) : W.rangeAt b o cs := fun j v hj => by
  have := h j v hj
  exact (hb.cell (World.block_lt_of_cell? w _ this)).trans this
theorem RdIds.below {w W : World} {A : Option Addr} {L : List (List UInt8)} (h : RdIds w A L) (hb : Below w.heap.size w W) : RdIds W A L := fun k hk => by
  obtain ⟨g, o, e, hr⟩ := h k hk
  exact ⟨g, o, e, range_below hr hb⟩
theorem Rise.found {L : List (List UInt8)} (h32 : ∀ x ∈ L, x.length = 32) (h : Rise L) {t : List UInt8} (ht : t.length = 32) {i : Nat} (hi : i < L.length) (hlo : ∀ p (hp : p < L.length), p < i → Lib.compareBytes L[p] t < 0) (hhi : ¬ Lib.compareBytes L[i] t < 0) : (Lib.compareBytes L[i] t == 0) = decide (t ∈ L) := by
  by_cases e : L[i] = t
  · have : t ∈ L := e ▸ List.getElem_mem hi
    rw [e, cmp_same]
    simp [this]
  · have hn : ¬ t ∈ L := fun hm => by
      obtain ⟨q, hq, rfl⟩ := List.getElem_of_mem hm
      rcases Nat.lt_trichotomy q i with h1 | h1 | h1
      · have := hlo q hq h1; rw [cmp_same] at this; omega
      · subst h1; exact e rfl
      · exact hhi (h i q hi hq h1)
    have : Lib.compareBytes L[i] t ≠ 0 := fun hz => e (cmp_eq0 _ _ (by rw [h32 _ (List.getElem_mem hi), ht]) hz)
    simp [hn, this]
theorem Rise.none {L : List (List UInt8)} {t : List UInt8} (hlo : ∀ p (hp : p < L.length), Lib.compareBytes L[p] t < 0) : decide (t ∈ L) = false := by
  refine decide_eq_false fun hm => ?_
  obtain ⟨q, hq, rfl⟩ := List.getElem_of_mem hm
  have := hlo q hq
  rw [cmp_same] at this
  omega
set_option maxRecDepth 100000 in
set_option maxHeartbeats 1000000 in
theorem bs_any (A : Option Addr) (n c : Nat) (L : List (List UInt8)) (hL : L.length = n) (hn : n ≤ 1000000) (h32 : ∀ x ∈ L, x.length = 32) (hR : Rise L) (w : World) (hr : RdIds w A L) (t : List UInt8) (ht : t.length = 32) :
    Calls Tryd.prog 34 #[.slice A n c, .agg (idC t), .func (.func 16) #[] #[]] w fun e w' => (∃ i : Int, e = .returned (.tuple #[.int .i64 i, .bool (decide (t ∈ L))])) ∧ Below w.heap.size w w' := by
  obtain ⟨T, hT, hTs⟩ : ∃ T : Array Value, Hid (T = idC t) ∧ T.size = 32 := ⟨_, rfl, by rw [idC_size, ht]⟩
  have hTi : (Tryd.prog.info? 25).map (·.size) = some T.size := by rw [hTs]; exact size_id
  rw [← hT.out]
  obtain ⟨w1, hw1⟩ : ∃ w1, w1 = w.alloc (.cells T 25) := ⟨_, rfl⟩
  have hb1 : Below w.heap.size w w1 := by rw [hw1]; exact (Below.refl _ w).alloc (Nat.le_refl _) _
  have q1 : w1.heap[w.heap.size]? = some (.cells T 25 (0, 0)) := by rw [hw1]; exact heap_alloc_new _ _
  have HW1 := Lib.hid hw1
  have hni : (n : Int) ≤ 1000000 := by omega
  clear hw1
  go_enter Tryd.func34, Tryd.ntmps34
  go_wp2_with fail
  rw [← HW1.out]
  go_loopw [9, 10] (fun i j wr => ∃ x y : Nat, x ≤ y ∧ y ≤ n ∧ i = .int .i64 (x : Int) ∧ j = .int .i64 (y : Int) ∧ (∀ p (hp : p < L.length), p < x → Lib.compareBytes L[p] t < 0) ∧ (∀ p (hp : p < L.length), y ≤ p → ¬ Lib.compareBytes L[p] t < 0) ∧ wr.heap[w.heap.size]? = some (.cells T 25 (0, 0)) ∧ Below w.heap.size w wr) (fun i j _ => (intOf j - intOf i).toNat)
  case atStart => exact ⟨0, n, by omega, by omega, rfl, rfl, fun p _ h => by omega, fun p hp h => by omega, q1, hb1⟩
  case round =>
    obtain ⟨x, y, hxy, hyn, rfl, rfl, hlo, hhi, g1, gb⟩ := hrel
    clear q1 hb1 HW1
    by_cases hlt : x < y
    · have hlti : (x : Int) < (y : Int) := by omega
      obtain ⟨h, hh⟩ : ∃ h, h = (x + y) / 2 := ⟨_, rfl⟩
      have hhL : h < L.length := by omega
      obtain ⟨g, o, hA, hrg⟩ := hr h hhL
      have hlh : L[h].length = 32 := h32 _ (List.getElem_mem hhL)
      have hSi : (Tryd.prog.info? 25).map (·.size) = some (u8v L[h]).length := by rw [u8v_length, hlh]; exact size_id
      have hag : (u8v L[h]).toArray = idC L[h] := rfl
      have hcmp : ∀ W, Calls Tryd.prog 16 #[.agg (u8v L[h]).toArray, .agg T] W fun e w' => e = .returned (.int .i64 (Lib.compareBytes L[h] t)) ∧ Below W.heap.size W w' := fun W => by rw [hag, hT.out]; exact compare_any _ _ hlh ht W
      have hlo2 := fun hc => hR.lo (t := t) hhL hc
      have hhi2 := fun hc => hR.hi (t := t) hhL hc
      have hrgW : ∀ W, Below wr.heap.size wr W → W.rangeAt g (o + h * 32) (u8v L[h]) := fun W hW => range_below (range_below hrg gb) hW
      have hhn : (h : Int) < (n : Int) := by omega
      have hsum : (x : Int) + (y : Int) < 9223372036854775808 := by omega
      have hdv : ((x : Int) + (y : Int)) / 2 = (h : Int) := by omega
      subst hA
      have HH := Lib.hid hh
      clear hag hh
      go_upto_region 5 with (fail)
      obtain ⟨xv, hxv⟩ : ∃ xv, xv = Lib.compareBytes L[h] t := ⟨_, rfl⟩
      rw [← hxv] at hcmp hlo2 hhi2
      refine bs5 g o n c h w.heap.size (u8v L[h]) T xv wr hhn hrgW hSi hTi (fun W _ => hcmp W) (fun W hW => (hW.block _ (lt_of_get g1)).trans g1) fun w2 hb2 => ?_
      have g2 := (hb2.block _ (lt_of_get g1)).trans g1
      have gb2 := below_then gb hb2 (Nat.le_refl _)
      clear hxv hcmp hrgW g1 gb hb2 hdv hsum
      by_cases hc : xv < 0
      · go_wp2_with fail
        refine ⟨⟨h + 1, y, by have := HH.out; omega, hyn, rfl, rfl, fun p hp hpl => hlo2 hc p hp (by omega), hhi, g2, gb2⟩, ?_⟩
        simp [intOf]
        have := HH.out
        omega
      · go_wp2_with fail
        refine ⟨⟨x, h, by have := HH.out; omega, by omega, rfl, rfl, hlo, fun p hp hpl => hhi2 hc p hp hpl, g2, gb2⟩, ?_⟩
        simp [intOf]
        have := HH.out
        omega
    · obtain rfl : x = y := by omega
      by_cases hn2 : x < n
      · have hhL : x < L.length := by omega
        obtain ⟨g, o, hA, hrg⟩ := hr x hhL
        have hlh : L[x].length = 32 := h32 _ (List.getElem_mem hhL)
        have hSi : (Tryd.prog.info? 25).map (·.size) = some (u8v L[x]).length := by rw [u8v_length, hlh]; exact size_id
        have hag : (u8v L[x]).toArray = idC L[x] := rfl
        have hcmp : ∀ W, Calls Tryd.prog 16 #[.agg (u8v L[x]).toArray, .agg T] W fun e w' => e = .returned (.int .i64 (Lib.compareBytes L[x] t)) ∧ Below W.heap.size W w' := fun W => by rw [hag, hT.out]; exact compare_any _ _ hlh ht W
        have hfd := hR.found h32 ht hhL hlo (hhi x hhL (Nat.le_refl _))
        have hrgW : ∀ W, Below wr.heap.size wr W → W.rangeAt g (o + x * 32) (u8v L[x]) := fun W hW => range_below (range_below hrg gb) hW
        have hhn : (x : Int) < (n : Int) := by omega
        subst hA
        go_upto_region 8 with (fail)
        refine bs8t g o n c x w.heap.size (u8v L[x]) T (Lib.compareBytes L[x] t) wr hhn hrgW hSi hTi (fun W _ => hcmp W) (fun W hW => (hW.block _ (lt_of_get g1)).trans g1) fun w2 hb2 => ?_
        rw [hfd]
        go_wp2_with fail
        exact bodyPost_ret (results_tmp2 rfl _ _ _) rfl ⟨⟨_, rfl⟩, below_then gb hb2 (Nat.le_refl _)⟩
      · obtain rfl : x = n := by omega
        have hfd := Rise.none (L := L) (t := t) fun p hp => hlo p hp (by omega)
        go_upto_region 8 with (fail)
        refine bs8f x _ _ wr fun w2 hb2 => ?_
        go_wp2_with fail
        refine bodyPost_ret (results_tmp2 rfl _ _ _) rfl ⟨⟨(x : Int), ?_⟩, below_then gb hb2 (Nat.le_refl _)⟩
        show Ending.returned (.tuple #[.int .i64 (x : Int), .bool false]) = _
        simp only [hfd]
end Go.Proofs.YtcdnbidenaljlaaDoor

/- hash.Has, among rising ids. -/
namespace Go.Proofs.YtcdnbidenaljlaaDoor
open Go.RowKit

set_option maxRecDepth 100000 in
theorem hashas_any (A : Option Addr) (n c : Nat) (L : List (List UInt8)) (hL : L.length = n) (hn : n ≤ 1000000) (h32 : ∀ x ∈ L, x.length = 32) (hR : Rise L) (w : World) (hr : RdIds w A L) (t : List UInt8) (ht : t.length = 32) :
    Calls Tryd.prog 19 #[.slice A n c, .agg (idC t)] w fun e w' => e = .returned (.bool (decide (t ∈ L))) ∧ Below w.heap.size w w' := by
  obtain ⟨T, hT, hTs⟩ : ∃ T : Array Value, Hid (T = idC t) ∧ T.size = 32 := ⟨_, rfl, by rw [idC_size, ht]⟩
  have hTi : (Tryd.prog.info? 25).map (·.size) = some T.size := by rw [hTs]; exact size_id
  obtain ⟨w1, hw1⟩ : ∃ w1, w1 = w.alloc (.cells T 25) := ⟨_, rfl⟩
  have hb1 : Below w.heap.size w w1 := by rw [hw1]; exact (Below.refl _ w).alloc (Nat.le_refl _) _
  have q1 : w1.heap[w.heap.size]? = some (.cells T 25 (0, 0)) := by rw [hw1]; exact heap_alloc_new _ _
  have hbs := bs_any A n c L hL hn h32 hR w1 (hr.below hb1) t ht
  rw [← hT.out] at hbs ⊢
  have HW1 := Lib.hid hw1
  generalize decide (t ∈ L) = bo at *
  clear hw1
  go_enter Tryd.func19, Tryd.ntmps19
  go_upto_region 1 with (fail)
  rw [← HW1.out]
  go_wp2_with (first
    | (with_reducible refine wpList_load_row rfl 25 (.tmp 3) rfl _ rfl 25 T _ _ q1 Tryd.underlying25 rfl hTi ?_)
    | (go_at_call 34; refine hbs.mono ?_; rintro e w2 ⟨⟨i, rfl⟩, hb2⟩)
    | fail)
  go_ret
  exact ⟨rfl, below_then hb1 hb2 (Nat.le_refl _)⟩
end Go.Proofs.YtcdnbidenaljlaaDoor

/- Regions that draw their order: their obligations (printed by regen2.py). -/
namespace Go.Proofs.YtcdnbidenaljlaaDoor
open Go.RowKit
set_option linter.unusedVariables false
set_option linter.unusedSimpArgs false
set_option linter.unusedSectionVars false
def rh4R (g o n c h tb : Nat) (S : List Value) (TC : Array Value) (bo : Bool) : Nat → Value → World → Prop
  | 0 => fun x_ _ => x_ = (Value.slice (some ⟨g, o, none⟩) n c)
  | 1 => fun x_ _ => x_ = (Value.int IntKind.i64 (h : Int))
  | 2 => fun x_ _ => x_ = (Value.pointer (some ⟨g, o + h * 32, none⟩))
  | 3 => fun x_ _ => x_ = (Value.agg S.toArray)
  | 4 => fun x_ _ => x_ = (Value.agg TC)
  | 5 => fun x_ _ => x_ = (Value.bool bo)
  | _ => fun _ _ => True
theorem rh4_stable (g o n c h tb : Nat) (S : List Value) (TC : Array Value) (bo : Bool) : ∀ i_ u_ w_ w_', (rh4R g o n c h tb S TC bo) i_ u_ w_ → Below w_.heap.size w_ w_' → (rh4R g o n c h tb S TC bo) i_ u_ w_' := fun i_ u_ w_ w_' h_ hb_ => by
  match i_, h_ with
  | 0, h_ => exact h_
  | 1, h_ => exact h_
  | 2, h_ => exact h_
  | 3, h_ => exact h_
  | 4, h_ => exact h_
  | 5, h_ => exact h_
  | (_ + 6), _ => trivial
section
variable (g o n c h tb : Nat) (S : List Value) (TC : Array Value) (bo : Bool) (w0 : World) (a0 : Act)
variable (hhn : (h : Int) < (n : Int))
variable (hld : ∀ W, Below w0.heap.size w0 W → W.rangeAt g (o + h * 32) S)
variable (hSi : (Tryd.prog.info? 25).map (·.size) = some S.length)
variable (hTi : (Tryd.prog.info? 25).map (·.size) = some TC.size)
variable (heqv : ∀ W, (Op.equalIn 10000 25 (.agg S.toArray) (.agg TC)).run Tryd.prog W = .ok bo W)
variable (M_tb : ∀ W, Below w0.heap.size w0 W → W.heap[tb]? = some (.cells TC 25 (0, 0)))
variable (i0 : a0.eval (.tmp 0) = (Value.slice (some ⟨g, o, none⟩) n c)) (i3 : a0.eval (.tmp 3) = (Value.pointer (some ⟨tb, 0, none⟩))) (i5 : a0.eval (.tmp 5) = (Value.int IntKind.i64 (h : Int))) (hsz : a0.tmps.size = 18)
include g o n c h tb S TC bo w0 a0 hhn hld hSi hTi heqv M_tb i0 i3 i5 hsz
set_option maxHeartbeats 4000000 in
set_option maxRecDepth 20000 in
theorem rh4_h0 :
    Reg.OpOK Tryd.prog (Reg.opsOf Tryd.f18 4) a0 w0 (rh4R g o n c h tb S TC bo) (fun _ _ _ _ => True) 0 := by
    refine Reg.op_ok2 (fun af => { dst := some 12, op := Op.move (Operand.tmp 0), type := 47, pos := "ref.go:138", after := af, guard := none }) #[] (by kernel_rfl) [] (by kernel_rfl) fun af v W hb hd => ?_
    have e0 := (Reg.gfr_eval0 (ops := (Reg.opsOf Tryd.f18 4)) (a0 := a0) (v := v) (L := []) 0 (by kernel_rfl)).trans i0
    refine ⟨Reg.wanted_none rfl, ?_⟩
    generalize Reg.gfr (Reg.opsOf Tryd.f18 4) a0 v [] = G at e0 ⊢
    generalize hρ : G.eval = ρ at e0
    have hρ' : G.eval = ρ := hρ
    refine Reg.go_run (Value.slice (some ⟨g, o, none⟩) n c) W ?_ ?_
    · rw [hρ']; simp [execOp, go_sem, e0]
    · exact ⟨Below.refl _ _, rfl⟩
set_option maxHeartbeats 4000000 in
set_option maxRecDepth 20000 in
theorem rh4_h1 :
    Reg.OpOK Tryd.prog (Reg.opsOf Tryd.f18 4) a0 w0 (rh4R g o n c h tb S TC bo) (fun _ _ _ _ => True) 1 := by
    refine Reg.op_ok2 (fun af => { dst := some 13, op := Op.move (Operand.tmp 5), type := 3, pos := "ref.go:138", after := af, guard := none }) #[] (by kernel_rfl) [] (by kernel_rfl) fun af v W hb hd => ?_
    have e5 := (Reg.gfr_eval0 (ops := (Reg.opsOf Tryd.f18 4)) (a0 := a0) (v := v) (L := []) 5 (by kernel_rfl)).trans i5
    refine ⟨Reg.wanted_none rfl, ?_⟩
    generalize Reg.gfr (Reg.opsOf Tryd.f18 4) a0 v [] = G at e5 ⊢
    generalize hρ : G.eval = ρ at e5
    have hρ' : G.eval = ρ := hρ
    refine Reg.go_run (Value.int IntKind.i64 (h : Int)) W ?_ ?_
    · rw [hρ']; simp [execOp, go_sem, e5]
    · exact ⟨Below.refl _ _, rfl⟩
set_option maxHeartbeats 4000000 in
set_option maxRecDepth 20000 in
theorem rh4_h2 :
    Reg.OpOK Tryd.prog (Reg.opsOf Tryd.f18 4) a0 w0 (rh4R g o n c h tb S TC bo) (fun _ _ _ _ => True) 2 := by
    refine Reg.op_ok2 (fun af => { dst := some 14, op := Op.indexAddr 47 (Operand.tmp 12) (Operand.tmp 13), type := 0, pos := "ref.go:138", after := af, guard := none }) #[{ on := 0, ground := Ground.data }, { on := 1, ground := Ground.data }] (by kernel_rfl) [0, 1] (by kernel_rfl) fun af v W hb hd => ?_
    have d0 : v 0 = (Value.slice (some ⟨g, o, none⟩) n c) := hd 0 (by decide)
    have d1 : v 1 = (Value.int IntKind.i64 (h : Int)) := hd 1 (by decide)
    have e12 := (Reg.gfr_eval (ops := (Reg.opsOf Tryd.f18 4)) (a0 := a0) (v := v) (L := [0, 1]) 12 0 (by kernel_rfl) (by rw [hsz]; omega)).trans d0
    have e13 := (Reg.gfr_eval (ops := (Reg.opsOf Tryd.f18 4)) (a0 := a0) (v := v) (L := [0, 1]) 13 1 (by kernel_rfl) (by rw [hsz]; omega)).trans d1
    refine ⟨Reg.wanted_none rfl, ?_⟩
    generalize Reg.gfr (Reg.opsOf Tryd.f18 4) a0 v [0, 1] = G at e12 e13 ⊢
    generalize hρ : G.eval = ρ at e12 e13
    have hρ' : G.eval = ρ := hρ
    refine Reg.go_run (Value.pointer (some ⟨g, o + h * 32, none⟩)) W ?_ ?_
    · rw [hρ']; simp [execOp, go_sem, e12, e13, hhn, Tryd.underlying47, Tryd.sizeOf25]
    · exact ⟨Below.refl _ _, rfl⟩
set_option maxHeartbeats 4000000 in
set_option maxRecDepth 20000 in
theorem rh4_h3 :
    Reg.OpOK Tryd.prog (Reg.opsOf Tryd.f18 4) a0 w0 (rh4R g o n c h tb S TC bo) (fun _ _ _ _ => True) 3 := by
    refine Reg.op_ok2 (fun af => { dst := some 15, op := Op.load 25 (Operand.tmp 14), type := 25, pos := "ref.go:138", after := af, guard := none }) #[{ on := 2, ground := Ground.data }] (by kernel_rfl) [2] (by kernel_rfl) fun af v W hb hd => ?_
    have d2 : v 2 = (Value.pointer (some ⟨g, o + h * 32, none⟩)) := hd 2 (by decide)
    have e14 := (Reg.gfr_eval (ops := (Reg.opsOf Tryd.f18 4)) (a0 := a0) (v := v) (L := [2]) 14 2 (by kernel_rfl) (by rw [hsz]; omega)).trans d2
    refine ⟨Reg.wanted_none rfl, ?_⟩
    generalize Reg.gfr (Reg.opsOf Tryd.f18 4) a0 v [2] = G at e14 ⊢
    generalize hρ : G.eval = ρ at e14
    have hρ' : G.eval = ρ := hρ
    exact fun K hK => wp_load_mid 25 (.tmp 14) rfl g (o + h * 32) (by rw [hρ']; exact e14) S _ (hld W hb) Tryd.underlying25 rfl hSi (hK _ _ ⟨Below.refl _ _, rfl⟩)
set_option maxHeartbeats 4000000 in
set_option maxRecDepth 20000 in
theorem rh4_h4 :
    Reg.OpOK Tryd.prog (Reg.opsOf Tryd.f18 4) a0 w0 (rh4R g o n c h tb S TC bo) (fun _ _ _ _ => True) 4 := by
    refine Reg.op_ok2 (fun af => { dst := some 16, op := Op.load 25 (Operand.tmp 3), type := 25, pos := "ref.go:138", after := af, guard := none }) #[] (by kernel_rfl) [] (by kernel_rfl) fun af v W hb hd => ?_
    have e3 := (Reg.gfr_eval0 (ops := (Reg.opsOf Tryd.f18 4)) (a0 := a0) (v := v) (L := []) 3 (by kernel_rfl)).trans i3
    refine ⟨Reg.wanted_none rfl, ?_⟩
    generalize Reg.gfr (Reg.opsOf Tryd.f18 4) a0 v [] = G at e3 ⊢
    generalize hρ : G.eval = ρ at e3
    have hρ' : G.eval = ρ := hρ
    exact fun K hK => wp_load_row 25 (.tmp 3) rfl tb (by rw [hρ']; exact e3) 25 TC (0, 0) _ (M_tb W hb) Tryd.underlying25 rfl hTi (hK _ _ ⟨Below.refl _ _, rfl⟩)
set_option maxHeartbeats 4000000 in
set_option maxRecDepth 20000 in
theorem rh4_h5 :
    Reg.OpOK Tryd.prog (Reg.opsOf Tryd.f18 4) a0 w0 (rh4R g o n c h tb S TC bo) (fun _ _ _ _ => True) 5 := by
    refine Reg.op_ok2 (fun af => { dst := some 17, op := Op.binOp BinOp.eql 25 (Operand.tmp 15) (Operand.tmp 16) 25, type := 4, pos := "ref.go:138", after := af, guard := none }) #[{ on := 3, ground := Ground.data }, { on := 4, ground := Ground.data }] (by kernel_rfl) [3, 4] (by kernel_rfl) fun af v W hb hd => ?_
    have d3 : v 3 = (Value.agg S.toArray) := hd 3 (by decide)
    have d4 : v 4 = (Value.agg TC) := hd 4 (by decide)
    have e15 := (Reg.gfr_eval (ops := (Reg.opsOf Tryd.f18 4)) (a0 := a0) (v := v) (L := [3, 4]) 15 3 (by kernel_rfl) (by rw [hsz]; omega)).trans d3
    have e16 := (Reg.gfr_eval (ops := (Reg.opsOf Tryd.f18 4)) (a0 := a0) (v := v) (L := [3, 4]) 16 4 (by kernel_rfl) (by rw [hsz]; omega)).trans d4
    refine ⟨Reg.wanted_none rfl, ?_⟩
    generalize Reg.gfr (Reg.opsOf Tryd.f18 4) a0 v [3, 4] = G at e15 e16 ⊢
    generalize hρ : G.eval = ρ at e15 e16
    have hρ' : G.eval = ρ := hρ
    refine Reg.go_run (Value.bool bo) W ?_ ?_
    · rw [hρ']; simp [execOp, go_sem, e15, e16, heqv]
    · exact ⟨Below.refl _ _, rfl⟩
end
set_option maxHeartbeats 4000000 in
set_option maxRecDepth 20000 in
theorem rh4 (g o n c h tb : Nat) (S : List Value) (TC : Array Value) (bo : Bool) (w0 : World) {s1 s2 s4 s6 s7 s8 s9 s10 s11 s12 s13 s14 s15 s16 s17 : Value}
    (hhn : (h : Int) < (n : Int))
    (hld : ∀ W, Below w0.heap.size w0 W → W.rangeAt g (o + h * 32) S)
    (hSi : (Tryd.prog.info? 25).map (·.size) = some S.length)
    (hTi : (Tryd.prog.info? 25).map (·.size) = some TC.size)
    (heqv : ∀ W, (Op.equalIn 10000 25 (.agg S.toArray) (.agg TC)).run Tryd.prog W = .ok bo W)
    (M_tb : ∀ W, Below w0.heap.size w0 W → W.heap[tb]? = some (.cells TC 25 (0, 0)))
    {Q : Exit → Act → World → Prop}
    (hend : ∀ (w : World), Below w0.heap.size w0 w → Q .normal { tmps := #[(Value.slice (some ⟨g, o, none⟩) n c), s1, s2, (Value.pointer (some ⟨tb, 0, none⟩)), s4, (Value.int IntKind.i64 (h : Int)), s6, s7, s8, s9, s10, s11, (Value.slice (some ⟨g, o, none⟩) n c), (Value.int IntKind.i64 (h : Int)), (Value.pointer (some ⟨g, o + h * 32, none⟩)), (Value.agg S.toArray), (Value.agg TC), (Value.bool bo)], defers := [] } w) :
    (Code.region 4 (Reg.opsOf Tryd.f18 4) true).wp Tryd.prog Q { tmps := #[(Value.slice (some ⟨g, o, none⟩) n c), s1, s2, (Value.pointer (some ⟨tb, 0, none⟩)), s4, (Value.int IntKind.i64 (h : Int)), s6, s7, s8, s9, s10, s11, s12, s13, s14, s15, s16, s17], defers := [] } w0 := by
  obtain ⟨a0, ha0⟩ : ∃ a0 : Act, a0 = { tmps := #[(Value.slice (some ⟨g, o, none⟩) n c), s1, s2, (Value.pointer (some ⟨tb, 0, none⟩)), s4, (Value.int IntKind.i64 (h : Int)), s6, s7, s8, s9, s10, s11, s12, s13, s14, s15, s16, s17], defers := [] } := ⟨_, rfl⟩
  have hfin : ∀ v : Nat → Value, Reg.gfr (Reg.opsOf Tryd.f18 4) a0 v (List.range 6) = { tmps := #[(Value.slice (some ⟨g, o, none⟩) n c), s1, s2, (Value.pointer (some ⟨tb, 0, none⟩)), s4, (Value.int IntKind.i64 (h : Int)), s6, s7, s8, s9, s10, s11, v 0, v 1, v 2, v 3, v 4, v 5], defers := [] } := fun v => by rw [ha0]; kernel_rfl
  rw [← ha0]
  have i0 : a0.eval (.tmp 0) = (Value.slice (some ⟨g, o, none⟩) n c) := by rw [ha0]; rfl
  have i3 : a0.eval (.tmp 3) = (Value.pointer (some ⟨tb, 0, none⟩)) := by rw [ha0]; rfl
  have i5 : a0.eval (.tmp 5) = (Value.int IntKind.i64 (h : Int)) := by rw [ha0]; rfl
  have hsz : a0.tmps.size = 18 := by rw [ha0]; rfl
  clear ha0
  have hn : (Reg.opsOf Tryd.f18 4).size = 6 := by kernel_rfl
  have h0 := rh4_h0 g o n c h tb S TC bo w0 a0 hhn hld hSi hTi heqv M_tb i0 i3 i5 hsz
  have h1 := rh4_h1 g o n c h tb S TC bo w0 a0 hhn hld hSi hTi heqv M_tb i0 i3 i5 hsz
  have h2 := rh4_h2 g o n c h tb S TC bo w0 a0 hhn hld hSi hTi heqv M_tb i0 i3 i5 hsz
  have h3 := rh4_h3 g o n c h tb S TC bo w0 a0 hhn hld hSi hTi heqv M_tb i0 i3 i5 hsz
  have h4 := rh4_h4 g o n c h tb S TC bo w0 a0 hhn hld hSi hTi heqv M_tb i0 i3 i5 hsz
  have h5 := rh4_h5 g o n c h tb S TC bo w0 a0 hhn hld hSi hTi heqv M_tb i0 i3 i5 hsz
  refine Reg.region_all (by kernel_rfl) (rh4R g o n c h tb S TC bo) (by rw [hn, hsz]; kernel_rfl) (rh4_stable g o n c h tb S TC bo) (fun i hi => ?_) (fun v w hb hR => ?_)
  · rw [hn] at hi
    match i, List.mem_range.1 hi with
    | 0, _ => exact h0
    | 1, _ => exact h1
    | 2, _ => exact h2
    | 3, _ => exact h3
    | 4, _ => exact h4
    | 5, _ => exact h5
    | (_ + 6), h => omega
  · rw [hn] at hR ⊢
    have v0 : v 0 = (Value.slice (some ⟨g, o, none⟩) n c) := hR 0 (by decide)
    have v1 : v 1 = (Value.int IntKind.i64 (h : Int)) := hR 1 (by decide)
    have v2 : v 2 = (Value.pointer (some ⟨g, o + h * 32, none⟩)) := hR 2 (by decide)
    have v3 : v 3 = (Value.agg S.toArray) := hR 3 (by decide)
    have v4 : v 4 = (Value.agg TC) := hR 4 (by decide)
    have v5 : v 5 = (Value.bool bo) := hR 5 (by decide)
    rw [hfin v, v0, v1, v2, v3, v4, v5]
    exact hend w  hb 
end Go.Proofs.YtcdnbidenaljlaaDoor

/- The reference's Has: of any list of ids. -/
namespace Go.Proofs.YtcdnbidenaljlaaDoor
open Go.RowKit

set_option maxRecDepth 100000 in
theorem rhasid_any (A : Option Addr) (n c : Nat) (L : List (List UInt8)) (hL : L.length = n) (hn : n ≤ 1000000) (h32 : ∀ x ∈ L, x.length = 32) (w : World) (hr : RdIds w A L) (t : List UInt8) (ht : t.length = 32) :
    Calls Tryd.prog 18 #[.slice A n c, .agg (idC t)] w fun e w' => e = .returned (.bool (decide (t ∈ L))) ∧ Below w.heap.size w w' := by
  obtain ⟨T, hT, hTs⟩ : ∃ T : Array Value, Hid (T = idC t) ∧ T.size = 32 := ⟨_, rfl, by rw [idC_size, ht]⟩
  have hTi : (Tryd.prog.info? 25).map (·.size) = some T.size := by rw [hTs]; exact size_id
  rw [← hT.out]
  obtain ⟨fb, hfb⟩ : ∃ fb, fb = decide (t ∈ L) := ⟨_, rfl⟩
  rw [← hfb]
  have HFB := Lib.hid hfb
  clear hfb
  obtain ⟨w1, hw1⟩ : ∃ w1, w1 = w.alloc (.cells T 25) := ⟨_, rfl⟩
  have hb1 : Below w.heap.size w w1 := by rw [hw1]; exact (Below.refl _ w).alloc (Nat.le_refl _) _
  have q1 : w1.heap[w.heap.size]? = some (.cells T 25 (0, 0)) := by rw [hw1]; exact heap_alloc_new _ _
  have HW1 := Lib.hid hw1
  have hni : (n : Int) ≤ 1000000 := by omega
  clear hw1
  go_enter Tryd.func18, Tryd.ntmps18
  go_wp2_with fail
  rw [← HW1.out]
  go_loopw [5] (fun i wr => ∃ x : Nat, x ≤ n ∧ i = .int .i64 (x : Int) ∧ (∀ p (hp : p < L.length), p < x → L[p] ≠ t) ∧ wr.heap[w.heap.size]? = some (.cells T 25 (0, 0)) ∧ Below w.heap.size w wr) (fun i _ => n - (intOf i).toNat)
  case atStart => exact ⟨0, by omega, rfl, fun p _ h => by omega, q1, hb1⟩
  case round =>
    obtain ⟨x, hx, rfl, hlo, g1, gb⟩ := hrel
    clear q1 hb1 HW1
    by_cases hlt : x < n
    · have hhL : x < L.length := by omega
      obtain ⟨g, o, hA, hrg⟩ := hr x hhL
      have hlh : L[x].length = 32 := h32 _ (List.getElem_mem hhL)
      have hSi : (Tryd.prog.info? 25).map (·.size) = some (u8v L[x]).length := by rw [u8v_length, hlh]; exact size_id
      have hag : (u8v L[x]).toArray = idC L[x] := rfl
      have hev : ∀ W, (Op.equalIn 10000 25 (.agg (u8v L[x]).toArray) (.agg T)).run Tryd.prog W = .ok (decide (L[x] = t)) W := fun W => by rw [hag, hT.out]; exact run_eq_id W _ _ hlh ht
      have hrgW : ∀ W, Below wr.heap.size wr W → W.rangeAt g (o + x * 32) (u8v L[x]) := fun W hW => range_below (range_below hrg gb) hW
      have hhn : (x : Int) < (n : Int) := by omega
      subst hA
      obtain ⟨bo, hbo⟩ : ∃ bo, bo = decide (L[x] = t) := ⟨_, rfl⟩
      rw [← hbo] at hev
      have HBO := Lib.hid hbo
      clear hag hbo
      go_upto_region 4 with (fail)
      refine rh4 g o n c x w.heap.size (u8v L[x]) T bo wr hhn hrgW hSi hTi hev (fun W hW => (hW.block _ (lt_of_get g1)).trans g1) fun w2 hb2 => ?_
      have g2 := (hb2.block _ (lt_of_get g1)).trans g1
      have gb2 := below_then gb hb2 (Nat.le_refl _)
      clear hev hrgW g1 gb hb2
      cases bo with
      | true =>
        have he : L[x] = t := of_decide_eq_true HBO.out.symm
        have hm : decide (t ∈ L) = true := decide_eq_true (he ▸ List.getElem_mem hhL)
        go_wp2_with fail
        go_ret
        exact ⟨by rw [HFB.out, hm]; rfl, gb2⟩
      | false =>
        have he : L[x] ≠ t := of_decide_eq_false HBO.out.symm
        go_wp2_with fail
        refine ⟨⟨x + 1, by omega, rfl, fun p hp hpl => ?_, g2, gb2⟩, by simp [intOf]; omega⟩
        rcases Nat.lt_or_ge p x with h1 | h1
        · exact hlo p hp h1
        · obtain rfl : p = x := by omega
          exact he
    · obtain rfl : x = n := by omega
      have hm : decide (t ∈ L) = false := decide_eq_false fun hm => by
        obtain ⟨q, hq, e⟩ := List.getElem_of_mem hm
        exact hlo q hq (by omega) e
      go_wp2_with fail
      go_ret
      exact ⟨by rw [HFB.out, hm]; rfl, gb⟩
end Go.Proofs.YtcdnbidenaljlaaDoor

/- Regions that draw their order: their obligations (printed by regen2.py). -/
namespace Go.Proofs.YtcdnbidenaljlaaDoor
open Go.RowKit
set_option linter.unusedVariables false
set_option linter.unusedSimpArgs false
set_option linter.unusedSectionVars false
def rs6R (g o n c g2 o2 c2 h : Nat) (S S2 : List Value) (bo : Bool) : Nat → Value → World → Prop
  | 0 => fun x_ _ => x_ = (Value.slice (some ⟨g, o, none⟩) n c)
  | 1 => fun x_ _ => x_ = (Value.int IntKind.i64 (h : Int))
  | 2 => fun x_ _ => x_ = (Value.pointer (some ⟨g, o + h * 32, none⟩))
  | 3 => fun x_ _ => x_ = (Value.agg S.toArray)
  | 4 => fun x_ _ => x_ = (Value.slice (some ⟨g2, o2, none⟩) n c2)
  | 5 => fun x_ _ => x_ = (Value.int IntKind.i64 (h : Int))
  | 6 => fun x_ _ => x_ = (Value.pointer (some ⟨g2, o2 + h * 32, none⟩))
  | 7 => fun x_ _ => x_ = (Value.agg S2.toArray)
  | 8 => fun x_ _ => x_ = (Value.bool (!bo))
  | _ => fun _ _ => True
theorem rs6_stable (g o n c g2 o2 c2 h : Nat) (S S2 : List Value) (bo : Bool) : ∀ i_ u_ w_ w_', (rs6R g o n c g2 o2 c2 h S S2 bo) i_ u_ w_ → Below w_.heap.size w_ w_' → (rs6R g o n c g2 o2 c2 h S S2 bo) i_ u_ w_' := fun i_ u_ w_ w_' h_ hb_ => by
  match i_, h_ with
  | 0, h_ => exact h_
  | 1, h_ => exact h_
  | 2, h_ => exact h_
  | 3, h_ => exact h_
  | 4, h_ => exact h_
  | 5, h_ => exact h_
  | 6, h_ => exact h_
  | 7, h_ => exact h_
  | 8, h_ => exact h_
  | (_ + 9), _ => trivial
section
variable (g o n c g2 o2 c2 h : Nat) (S S2 : List Value) (bo : Bool) (w0 : World) (a0 : Act)
variable (hhn : (h : Int) < (n : Int))
variable (hld : ∀ W, Below w0.heap.size w0 W → W.rangeAt g (o + h * 32) S)
variable (hSi : (Tryd.prog.info? 25).map (·.size) = some S.length)
variable (hld2 : ∀ W, Below w0.heap.size w0 W → W.rangeAt g2 (o2 + h * 32) S2)
variable (hSi2 : (Tryd.prog.info? 25).map (·.size) = some S2.length)
variable (hneq : ∀ W, (Op.equalIn 10000 25 (.agg S.toArray) (.agg S2.toArray)).run Tryd.prog W = .ok bo W)
variable (i0 : a0.eval (.tmp 0) = (Value.slice (some ⟨g, o, none⟩) n c)) (i1 : a0.eval (.tmp 1) = (Value.slice (some ⟨g2, o2, none⟩) n c2)) (i5 : a0.eval (.tmp 5) = (Value.int IntKind.i64 (h : Int))) (hsz : a0.tmps.size = 26)
include g o n c g2 o2 c2 h S S2 bo w0 a0 hhn hld hSi hld2 hSi2 hneq i0 i1 i5 hsz
set_option maxHeartbeats 4000000 in
set_option maxRecDepth 20000 in
theorem rs6_h0 :
    Reg.OpOK Tryd.prog (Reg.opsOf Tryd.f21 6) a0 w0 (rs6R g o n c g2 o2 c2 h S S2 bo) (fun _ _ _ _ => True) 0 := by
    refine Reg.op_ok2 (fun af => { dst := some 17, op := Op.move (Operand.tmp 0), type := 47, pos := "ref.go:182", after := af, guard := none }) #[] (by kernel_rfl) [] (by kernel_rfl) fun af v W hb hd => ?_
    have e0 := (Reg.gfr_eval0 (ops := (Reg.opsOf Tryd.f21 6)) (a0 := a0) (v := v) (L := []) 0 (by kernel_rfl)).trans i0
    refine ⟨Reg.wanted_none rfl, ?_⟩
    generalize Reg.gfr (Reg.opsOf Tryd.f21 6) a0 v [] = G at e0 ⊢
    generalize hρ : G.eval = ρ at e0
    have hρ' : G.eval = ρ := hρ
    refine Reg.go_run (Value.slice (some ⟨g, o, none⟩) n c) W ?_ ?_
    · rw [hρ']; simp [execOp, go_sem, e0]
    · exact ⟨Below.refl _ _, rfl⟩
set_option maxHeartbeats 4000000 in
set_option maxRecDepth 20000 in
theorem rs6_h1 :
    Reg.OpOK Tryd.prog (Reg.opsOf Tryd.f21 6) a0 w0 (rs6R g o n c g2 o2 c2 h S S2 bo) (fun _ _ _ _ => True) 1 := by
    refine Reg.op_ok2 (fun af => { dst := some 18, op := Op.move (Operand.tmp 5), type := 3, pos := "ref.go:182", after := af, guard := none }) #[] (by kernel_rfl) [] (by kernel_rfl) fun af v W hb hd => ?_
    have e5 := (Reg.gfr_eval0 (ops := (Reg.opsOf Tryd.f21 6)) (a0 := a0) (v := v) (L := []) 5 (by kernel_rfl)).trans i5
    refine ⟨Reg.wanted_none rfl, ?_⟩
    generalize Reg.gfr (Reg.opsOf Tryd.f21 6) a0 v [] = G at e5 ⊢
    generalize hρ : G.eval = ρ at e5
    have hρ' : G.eval = ρ := hρ
    refine Reg.go_run (Value.int IntKind.i64 (h : Int)) W ?_ ?_
    · rw [hρ']; simp [execOp, go_sem, e5]
    · exact ⟨Below.refl _ _, rfl⟩
set_option maxHeartbeats 4000000 in
set_option maxRecDepth 20000 in
theorem rs6_h2 :
    Reg.OpOK Tryd.prog (Reg.opsOf Tryd.f21 6) a0 w0 (rs6R g o n c g2 o2 c2 h S S2 bo) (fun _ _ _ _ => True) 2 := by
    refine Reg.op_ok2 (fun af => { dst := some 19, op := Op.indexAddr 47 (Operand.tmp 17) (Operand.tmp 18), type := 0, pos := "ref.go:182", after := af, guard := none }) #[{ on := 0, ground := Ground.data }, { on := 1, ground := Ground.data }] (by kernel_rfl) [0, 1] (by kernel_rfl) fun af v W hb hd => ?_
    have d0 : v 0 = (Value.slice (some ⟨g, o, none⟩) n c) := hd 0 (by decide)
    have d1 : v 1 = (Value.int IntKind.i64 (h : Int)) := hd 1 (by decide)
    have e17 := (Reg.gfr_eval (ops := (Reg.opsOf Tryd.f21 6)) (a0 := a0) (v := v) (L := [0, 1]) 17 0 (by kernel_rfl) (by rw [hsz]; omega)).trans d0
    have e18 := (Reg.gfr_eval (ops := (Reg.opsOf Tryd.f21 6)) (a0 := a0) (v := v) (L := [0, 1]) 18 1 (by kernel_rfl) (by rw [hsz]; omega)).trans d1
    refine ⟨Reg.wanted_none rfl, ?_⟩
    generalize Reg.gfr (Reg.opsOf Tryd.f21 6) a0 v [0, 1] = G at e17 e18 ⊢
    generalize hρ : G.eval = ρ at e17 e18
    have hρ' : G.eval = ρ := hρ
    refine Reg.go_run (Value.pointer (some ⟨g, o + h * 32, none⟩)) W ?_ ?_
    · rw [hρ']; simp [execOp, go_sem, e17, e18, hhn, Tryd.underlying47, Tryd.sizeOf25]
    · exact ⟨Below.refl _ _, rfl⟩
set_option maxHeartbeats 4000000 in
set_option maxRecDepth 20000 in
theorem rs6_h3 :
    Reg.OpOK Tryd.prog (Reg.opsOf Tryd.f21 6) a0 w0 (rs6R g o n c g2 o2 c2 h S S2 bo) (fun _ _ _ _ => True) 3 := by
    refine Reg.op_ok2 (fun af => { dst := some 20, op := Op.load 25 (Operand.tmp 19), type := 25, pos := "ref.go:182", after := af, guard := none }) #[{ on := 2, ground := Ground.data }] (by kernel_rfl) [2] (by kernel_rfl) fun af v W hb hd => ?_
    have d2 : v 2 = (Value.pointer (some ⟨g, o + h * 32, none⟩)) := hd 2 (by decide)
    have e19 := (Reg.gfr_eval (ops := (Reg.opsOf Tryd.f21 6)) (a0 := a0) (v := v) (L := [2]) 19 2 (by kernel_rfl) (by rw [hsz]; omega)).trans d2
    refine ⟨Reg.wanted_none rfl, ?_⟩
    generalize Reg.gfr (Reg.opsOf Tryd.f21 6) a0 v [2] = G at e19 ⊢
    generalize hρ : G.eval = ρ at e19
    have hρ' : G.eval = ρ := hρ
    exact fun K hK => wp_load_mid 25 (.tmp 19) rfl g (o + h * 32) (by rw [hρ']; exact e19) S _ (hld W hb) Tryd.underlying25 rfl hSi (hK _ _ ⟨Below.refl _ _, rfl⟩)
set_option maxHeartbeats 4000000 in
set_option maxRecDepth 20000 in
theorem rs6_h4 :
    Reg.OpOK Tryd.prog (Reg.opsOf Tryd.f21 6) a0 w0 (rs6R g o n c g2 o2 c2 h S S2 bo) (fun _ _ _ _ => True) 4 := by
    refine Reg.op_ok2 (fun af => { dst := some 21, op := Op.move (Operand.tmp 1), type := 47, pos := "ref.go:182", after := af, guard := none }) #[] (by kernel_rfl) [] (by kernel_rfl) fun af v W hb hd => ?_
    have e1 := (Reg.gfr_eval0 (ops := (Reg.opsOf Tryd.f21 6)) (a0 := a0) (v := v) (L := []) 1 (by kernel_rfl)).trans i1
    refine ⟨Reg.wanted_none rfl, ?_⟩
    generalize Reg.gfr (Reg.opsOf Tryd.f21 6) a0 v [] = G at e1 ⊢
    generalize hρ : G.eval = ρ at e1
    have hρ' : G.eval = ρ := hρ
    refine Reg.go_run (Value.slice (some ⟨g2, o2, none⟩) n c2) W ?_ ?_
    · rw [hρ']; simp [execOp, go_sem, e1]
    · exact ⟨Below.refl _ _, rfl⟩
set_option maxHeartbeats 4000000 in
set_option maxRecDepth 20000 in
theorem rs6_h5 :
    Reg.OpOK Tryd.prog (Reg.opsOf Tryd.f21 6) a0 w0 (rs6R g o n c g2 o2 c2 h S S2 bo) (fun _ _ _ _ => True) 5 := by
    refine Reg.op_ok2 (fun af => { dst := some 22, op := Op.move (Operand.tmp 5), type := 3, pos := "ref.go:182", after := af, guard := none }) #[] (by kernel_rfl) [] (by kernel_rfl) fun af v W hb hd => ?_
    have e5 := (Reg.gfr_eval0 (ops := (Reg.opsOf Tryd.f21 6)) (a0 := a0) (v := v) (L := []) 5 (by kernel_rfl)).trans i5
    refine ⟨Reg.wanted_none rfl, ?_⟩
    generalize Reg.gfr (Reg.opsOf Tryd.f21 6) a0 v [] = G at e5 ⊢
    generalize hρ : G.eval = ρ at e5
    have hρ' : G.eval = ρ := hρ
    refine Reg.go_run (Value.int IntKind.i64 (h : Int)) W ?_ ?_
    · rw [hρ']; simp [execOp, go_sem, e5]
    · exact ⟨Below.refl _ _, rfl⟩
set_option maxHeartbeats 4000000 in
set_option maxRecDepth 20000 in
theorem rs6_h6 :
    Reg.OpOK Tryd.prog (Reg.opsOf Tryd.f21 6) a0 w0 (rs6R g o n c g2 o2 c2 h S S2 bo) (fun _ _ _ _ => True) 6 := by
    refine Reg.op_ok2 (fun af => { dst := some 23, op := Op.indexAddr 47 (Operand.tmp 21) (Operand.tmp 22), type := 0, pos := "ref.go:182", after := af, guard := none }) #[{ on := 4, ground := Ground.data }, { on := 5, ground := Ground.data }] (by kernel_rfl) [4, 5] (by kernel_rfl) fun af v W hb hd => ?_
    have d4 : v 4 = (Value.slice (some ⟨g2, o2, none⟩) n c2) := hd 4 (by decide)
    have d5 : v 5 = (Value.int IntKind.i64 (h : Int)) := hd 5 (by decide)
    have e21 := (Reg.gfr_eval (ops := (Reg.opsOf Tryd.f21 6)) (a0 := a0) (v := v) (L := [4, 5]) 21 4 (by kernel_rfl) (by rw [hsz]; omega)).trans d4
    have e22 := (Reg.gfr_eval (ops := (Reg.opsOf Tryd.f21 6)) (a0 := a0) (v := v) (L := [4, 5]) 22 5 (by kernel_rfl) (by rw [hsz]; omega)).trans d5
    refine ⟨Reg.wanted_none rfl, ?_⟩
    generalize Reg.gfr (Reg.opsOf Tryd.f21 6) a0 v [4, 5] = G at e21 e22 ⊢
    generalize hρ : G.eval = ρ at e21 e22
    have hρ' : G.eval = ρ := hρ
    refine Reg.go_run (Value.pointer (some ⟨g2, o2 + h * 32, none⟩)) W ?_ ?_
    · rw [hρ']; simp [execOp, go_sem, e21, e22, hhn, Tryd.underlying47, Tryd.sizeOf25]
    · exact ⟨Below.refl _ _, rfl⟩
set_option maxHeartbeats 4000000 in
set_option maxRecDepth 20000 in
theorem rs6_h7 :
    Reg.OpOK Tryd.prog (Reg.opsOf Tryd.f21 6) a0 w0 (rs6R g o n c g2 o2 c2 h S S2 bo) (fun _ _ _ _ => True) 7 := by
    refine Reg.op_ok2 (fun af => { dst := some 24, op := Op.load 25 (Operand.tmp 23), type := 25, pos := "ref.go:182", after := af, guard := none }) #[{ on := 6, ground := Ground.data }] (by kernel_rfl) [6] (by kernel_rfl) fun af v W hb hd => ?_
    have d6 : v 6 = (Value.pointer (some ⟨g2, o2 + h * 32, none⟩)) := hd 6 (by decide)
    have e23 := (Reg.gfr_eval (ops := (Reg.opsOf Tryd.f21 6)) (a0 := a0) (v := v) (L := [6]) 23 6 (by kernel_rfl) (by rw [hsz]; omega)).trans d6
    refine ⟨Reg.wanted_none rfl, ?_⟩
    generalize Reg.gfr (Reg.opsOf Tryd.f21 6) a0 v [6] = G at e23 ⊢
    generalize hρ : G.eval = ρ at e23
    have hρ' : G.eval = ρ := hρ
    exact fun K hK => wp_load_mid 25 (.tmp 23) rfl g2 (o2 + h * 32) (by rw [hρ']; exact e23) S2 _ (hld2 W hb) Tryd.underlying25 rfl hSi2 (hK _ _ ⟨Below.refl _ _, rfl⟩)
set_option maxHeartbeats 4000000 in
set_option maxRecDepth 20000 in
theorem rs6_h8 :
    Reg.OpOK Tryd.prog (Reg.opsOf Tryd.f21 6) a0 w0 (rs6R g o n c g2 o2 c2 h S S2 bo) (fun _ _ _ _ => True) 8 := by
    refine Reg.op_ok2 (fun af => { dst := some 25, op := Op.binOp BinOp.neq 25 (Operand.tmp 20) (Operand.tmp 24) 25, type := 4, pos := "ref.go:182", after := af, guard := none }) #[{ on := 3, ground := Ground.data }, { on := 7, ground := Ground.data }] (by kernel_rfl) [3, 7] (by kernel_rfl) fun af v W hb hd => ?_
    have d3 : v 3 = (Value.agg S.toArray) := hd 3 (by decide)
    have d7 : v 7 = (Value.agg S2.toArray) := hd 7 (by decide)
    have e20 := (Reg.gfr_eval (ops := (Reg.opsOf Tryd.f21 6)) (a0 := a0) (v := v) (L := [3, 7]) 20 3 (by kernel_rfl) (by rw [hsz]; omega)).trans d3
    have e24 := (Reg.gfr_eval (ops := (Reg.opsOf Tryd.f21 6)) (a0 := a0) (v := v) (L := [3, 7]) 24 7 (by kernel_rfl) (by rw [hsz]; omega)).trans d7
    refine ⟨Reg.wanted_none rfl, ?_⟩
    generalize Reg.gfr (Reg.opsOf Tryd.f21 6) a0 v [3, 7] = G at e20 e24 ⊢
    generalize hρ : G.eval = ρ at e20 e24
    have hρ' : G.eval = ρ := hρ
    refine Reg.go_run (Value.bool (!bo)) W ?_ ?_
    · rw [hρ']; simp [execOp, go_sem, e20, e24, hneq]
    · exact ⟨Below.refl _ _, rfl⟩
end
set_option maxHeartbeats 4000000 in
set_option maxRecDepth 20000 in
theorem rs6 (g o n c g2 o2 c2 h : Nat) (S S2 : List Value) (bo : Bool) (w0 : World) {s2 s3 s4 s6 s7 s8 s9 s10 s11 s12 s13 s14 s15 s16 s17 s18 s19 s20 s21 s22 s23 s24 s25 : Value}
    (hhn : (h : Int) < (n : Int))
    (hld : ∀ W, Below w0.heap.size w0 W → W.rangeAt g (o + h * 32) S)
    (hSi : (Tryd.prog.info? 25).map (·.size) = some S.length)
    (hld2 : ∀ W, Below w0.heap.size w0 W → W.rangeAt g2 (o2 + h * 32) S2)
    (hSi2 : (Tryd.prog.info? 25).map (·.size) = some S2.length)
    (hneq : ∀ W, (Op.equalIn 10000 25 (.agg S.toArray) (.agg S2.toArray)).run Tryd.prog W = .ok bo W)
    {Q : Exit → Act → World → Prop}
    (hend : ∀ (w : World), Below w0.heap.size w0 w → Q .normal { tmps := #[(Value.slice (some ⟨g, o, none⟩) n c), (Value.slice (some ⟨g2, o2, none⟩) n c2), s2, s3, s4, (Value.int IntKind.i64 (h : Int)), s6, s7, s8, s9, s10, s11, s12, s13, s14, s15, s16, (Value.slice (some ⟨g, o, none⟩) n c), (Value.int IntKind.i64 (h : Int)), (Value.pointer (some ⟨g, o + h * 32, none⟩)), (Value.agg S.toArray), (Value.slice (some ⟨g2, o2, none⟩) n c2), (Value.int IntKind.i64 (h : Int)), (Value.pointer (some ⟨g2, o2 + h * 32, none⟩)), (Value.agg S2.toArray), (Value.bool (!bo))], defers := [] } w) :
    (Code.region 6 (Reg.opsOf Tryd.f21 6) true).wp Tryd.prog Q { tmps := #[(Value.slice (some ⟨g, o, none⟩) n c), (Value.slice (some ⟨g2, o2, none⟩) n c2), s2, s3, s4, (Value.int IntKind.i64 (h : Int)), s6, s7, s8, s9, s10, s11, s12, s13, s14, s15, s16, s17, s18, s19, s20, s21, s22, s23, s24, s25], defers := [] } w0 := by
  obtain ⟨a0, ha0⟩ : ∃ a0 : Act, a0 = { tmps := #[(Value.slice (some ⟨g, o, none⟩) n c), (Value.slice (some ⟨g2, o2, none⟩) n c2), s2, s3, s4, (Value.int IntKind.i64 (h : Int)), s6, s7, s8, s9, s10, s11, s12, s13, s14, s15, s16, s17, s18, s19, s20, s21, s22, s23, s24, s25], defers := [] } := ⟨_, rfl⟩
  have hfin : ∀ v : Nat → Value, Reg.gfr (Reg.opsOf Tryd.f21 6) a0 v (List.range 9) = { tmps := #[(Value.slice (some ⟨g, o, none⟩) n c), (Value.slice (some ⟨g2, o2, none⟩) n c2), s2, s3, s4, (Value.int IntKind.i64 (h : Int)), s6, s7, s8, s9, s10, s11, s12, s13, s14, s15, s16, v 0, v 1, v 2, v 3, v 4, v 5, v 6, v 7, v 8], defers := [] } := fun v => by rw [ha0]; kernel_rfl
  rw [← ha0]
  have i0 : a0.eval (.tmp 0) = (Value.slice (some ⟨g, o, none⟩) n c) := by rw [ha0]; rfl
  have i1 : a0.eval (.tmp 1) = (Value.slice (some ⟨g2, o2, none⟩) n c2) := by rw [ha0]; rfl
  have i5 : a0.eval (.tmp 5) = (Value.int IntKind.i64 (h : Int)) := by rw [ha0]; rfl
  have hsz : a0.tmps.size = 26 := by rw [ha0]; rfl
  clear ha0
  have hn : (Reg.opsOf Tryd.f21 6).size = 9 := by kernel_rfl
  have h0 := rs6_h0 g o n c g2 o2 c2 h S S2 bo w0 a0 hhn hld hSi hld2 hSi2 hneq i0 i1 i5 hsz
  have h1 := rs6_h1 g o n c g2 o2 c2 h S S2 bo w0 a0 hhn hld hSi hld2 hSi2 hneq i0 i1 i5 hsz
  have h2 := rs6_h2 g o n c g2 o2 c2 h S S2 bo w0 a0 hhn hld hSi hld2 hSi2 hneq i0 i1 i5 hsz
  have h3 := rs6_h3 g o n c g2 o2 c2 h S S2 bo w0 a0 hhn hld hSi hld2 hSi2 hneq i0 i1 i5 hsz
  have h4 := rs6_h4 g o n c g2 o2 c2 h S S2 bo w0 a0 hhn hld hSi hld2 hSi2 hneq i0 i1 i5 hsz
  have h5 := rs6_h5 g o n c g2 o2 c2 h S S2 bo w0 a0 hhn hld hSi hld2 hSi2 hneq i0 i1 i5 hsz
  have h6 := rs6_h6 g o n c g2 o2 c2 h S S2 bo w0 a0 hhn hld hSi hld2 hSi2 hneq i0 i1 i5 hsz
  have h7 := rs6_h7 g o n c g2 o2 c2 h S S2 bo w0 a0 hhn hld hSi hld2 hSi2 hneq i0 i1 i5 hsz
  have h8 := rs6_h8 g o n c g2 o2 c2 h S S2 bo w0 a0 hhn hld hSi hld2 hSi2 hneq i0 i1 i5 hsz
  refine Reg.region_all (by kernel_rfl) (rs6R g o n c g2 o2 c2 h S S2 bo) (by rw [hn, hsz]; kernel_rfl) (rs6_stable g o n c g2 o2 c2 h S S2 bo) (fun i hi => ?_) (fun v w hb hR => ?_)
  · rw [hn] at hi
    match i, List.mem_range.1 hi with
    | 0, _ => exact h0
    | 1, _ => exact h1
    | 2, _ => exact h2
    | 3, _ => exact h3
    | 4, _ => exact h4
    | 5, _ => exact h5
    | 6, _ => exact h6
    | 7, _ => exact h7
    | 8, _ => exact h8
    | (_ + 9), h => omega
  · rw [hn] at hR ⊢
    have v0 : v 0 = (Value.slice (some ⟨g, o, none⟩) n c) := hR 0 (by decide)
    have v1 : v 1 = (Value.int IntKind.i64 (h : Int)) := hR 1 (by decide)
    have v2 : v 2 = (Value.pointer (some ⟨g, o + h * 32, none⟩)) := hR 2 (by decide)
    have v3 : v 3 = (Value.agg S.toArray) := hR 3 (by decide)
    have v4 : v 4 = (Value.slice (some ⟨g2, o2, none⟩) n c2) := hR 4 (by decide)
    have v5 : v 5 = (Value.int IntKind.i64 (h : Int)) := hR 5 (by decide)
    have v6 : v 6 = (Value.pointer (some ⟨g2, o2 + h * 32, none⟩)) := hR 6 (by decide)
    have v7 : v 7 = (Value.agg S2.toArray) := hR 7 (by decide)
    have v8 : v 8 = (Value.bool (!bo)) := hR 8 (by decide)
    rw [hfin v, v0, v1, v2, v3, v4, v5, v6, v7, v8]
    exact hend w  hb 
end Go.Proofs.YtcdnbidenaljlaaDoor

/- The reference's Same. -/
namespace Go.Proofs.YtcdnbidenaljlaaDoor
open Go.RowKit

set_option maxRecDepth 100000 in
theorem rsame_any (A : Option Addr) (n c : Nat) (L : List (List UInt8)) (hL : L.length = n) (hn : n ≤ 1000000) (h32 : ∀ x ∈ L, x.length = 32) (A2 : Option Addr) (n2 c2 : Nat) (L2 : List (List UInt8)) (hL2 : L2.length = n2) (hn2 : n2 ≤ 1000000) (h322 : ∀ x ∈ L2, x.length = 32) (w : World) (hr : RdIds w A L) (hr2 : RdIds w A2 L2) :
    Calls Tryd.prog 21 #[.slice A n c, .slice A2 n2 c2] w fun e w' => e = .returned (.bool (decide (L = L2))) ∧ Below w.heap.size w w' := by
  obtain ⟨fb, hfb⟩ : ∃ fb, fb = decide (L = L2) := ⟨_, rfl⟩
  rw [← hfb]
  have HFB := Lib.hid hfb
  clear hfb
  have hni : (n : Int) ≤ 1000000 := by omega
  have hni2 : (n2 : Int) ≤ 1000000 := by omega
  go_enter Tryd.func21, Tryd.ntmps21
  by_cases hne : n = n2
  case neg =>
    have hm : decide (L = L2) = false := decide_eq_false fun e => hne (by rw [← hL, ← hL2, e])
    go_wp2_with fail
    go_ret
    exact ⟨by rw [HFB.out, hm]; rfl, Below.refl _ _⟩
  case pos =>
    subst hne
    go_wp2_with fail
    go_loopw [5] (fun i wr => ∃ x : Nat, x ≤ n ∧ i = .int .i64 (x : Int) ∧ (∀ p (hp : p < L.length) (hp2 : p < L2.length), p < x → L[p] = L2[p]) ∧ Below w.heap.size w wr) (fun i _ => n - (intOf i).toNat)
    case atStart => exact ⟨0, by omega, rfl, fun p _ _ h => by omega, Below.refl _ _⟩
    case round =>
      obtain ⟨x, hx, rfl, hlo, gb⟩ := hrel
      by_cases hlt : x < n
      · have hhL : x < L.length := by omega
        have hhL2 : x < L2.length := by omega
        obtain ⟨g, o, hA, hrg⟩ := hr x hhL
        obtain ⟨g2, o2, hA2, hrg2⟩ := hr2 x hhL2
        have hlh : L[x].length = 32 := h32 _ (List.getElem_mem hhL)
        have hlh2 : L2[x].length = 32 := h322 _ (List.getElem_mem hhL2)
        have hSi : (Tryd.prog.info? 25).map (·.size) = some (u8v L[x]).length := by rw [u8v_length, hlh]; exact size_id
        have hSi2 : (Tryd.prog.info? 25).map (·.size) = some (u8v L2[x]).length := by rw [u8v_length, hlh2]; exact size_id
        have hag : (u8v L[x]).toArray = idC L[x] := rfl
        have hag2 : (u8v L2[x]).toArray = idC L2[x] := rfl
        have hev : ∀ W, (Op.equalIn 10000 25 (.agg (u8v L[x]).toArray) (.agg (u8v L2[x]).toArray)).run Tryd.prog W = .ok (decide (L[x] = L2[x])) W := fun W => by rw [hag, hag2]; exact run_eq_id W _ _ hlh hlh2
        have hrgW : ∀ W, Below wr.heap.size wr W → W.rangeAt g (o + x * 32) (u8v L[x]) := fun W hW => range_below (range_below hrg gb) hW
        have hrgW2 : ∀ W, Below wr.heap.size wr W → W.rangeAt g2 (o2 + x * 32) (u8v L2[x]) := fun W hW => range_below (range_below hrg2 gb) hW
        have hhn : (x : Int) < (n : Int) := by omega
        subst hA hA2
        obtain ⟨bo, hbo⟩ : ∃ bo, bo = decide (L[x] = L2[x]) := ⟨_, rfl⟩
        rw [← hbo] at hev
        have HBO := Lib.hid hbo
        clear hag hag2 hbo
        go_upto_region 6 with (fail)
        refine rs6 g o n c g2 o2 c2 x (u8v L[x]) (u8v L2[x]) bo wr hhn hrgW hSi hrgW2 hSi2 hev fun w2 hb2 => ?_
        have gb2 := below_then gb hb2 (Nat.le_refl _)
        clear hev hrgW hrgW2 gb hb2
        cases bo with
        | true =>
          have he : L[x] = L2[x] := of_decide_eq_true HBO.out.symm
          go_wp2_with fail
          refine ⟨⟨x + 1, by omega, rfl, fun p hp hp2 hpl => ?_, gb2⟩, by simp [intOf]; omega⟩
          rcases Nat.lt_or_ge p x with h1 | h1
          · exact hlo p hp hp2 h1
          · obtain rfl : p = x := by omega
            exact he
        | false =>
          have he : L[x] ≠ L2[x] := of_decide_eq_false HBO.out.symm
          have hm : decide (L = L2) = false := decide_eq_false fun e => he (by subst e; rfl)
          go_wp2_with fail
          go_ret
          exact ⟨by rw [HFB.out, hm]; rfl, gb2⟩
      · obtain rfl : x = n := by omega
        have hm : decide (L = L2) = true := decide_eq_true (List.ext_getElem (by omega) fun p hp hp2 => hlo p hp hp2 (by omega))
        go_wp2_with fail
        go_ret
        exact ⟨by rw [HFB.out, hm]; rfl, gb⟩
end Go.Proofs.YtcdnbidenaljlaaDoor

/- Lists of ids as literals and under append. -/
namespace Go.Proofs.YtcdnbidenaljlaaDoor
open Go.RowKit Go.Great

def idsC (L : List (List UInt8)) : List Value := L.flatMap u8v
theorem idsC_length (L : List (List UInt8)) (h : ∀ x ∈ L, x.length = 32) : (idsC L).length = L.length * 32 := by
  induction L with
  | nil => rfl
  | cons x L ih =>
    have := ih fun y hy => h y (List.mem_cons_of_mem _ hy)
    simp only [idsC, List.flatMap_cons, List.length_append, List.length_cons, u8v_length] at this ⊢
    rw [this, h x (List.mem_cons_self ..)]
    omega
theorem idsC_app (L M : List (List UInt8)) : idsC (L ++ M) = idsC L ++ idsC M := by simp [idsC]
theorem idsC_one (L : List (List UInt8)) : ∀ u ∈ idsC L, u.oneCell' = true := fun u hu => by
  obtain ⟨x, _, hx⟩ := List.mem_flatMap.1 hu
  exact u8v_one x u hx
theorem idsC_get (L : List (List UInt8)) (h : ∀ x ∈ L, x.length = 32) (k : Nat) (hk : k < L.length) (j : Nat) (hj : j < 32) : (idsC L)[k * 32 + j]? = (u8v L[k])[j]? := by
  induction L generalizing k with
  | nil => simp at hk
  | cons x L ih =>
    have hx : (u8v x).length = 32 := by rw [u8v_length, h x (List.mem_cons_self ..)]
    have e : idsC (x :: L) = u8v x ++ idsC L := rfl
    rw [e]
    cases k with
    | zero => rw [Nat.zero_mul, Nat.zero_add, List.getElem?_append_left (by omega)]; rfl
    | succ k =>
      rw [List.getElem?_append_right (by omega), hx, show (k + 1) * 32 + j - 32 = k * 32 + j by omega]
      exact ih (fun y hy => h y (List.mem_cons_of_mem _ hy)) k (by simpa using hk)
/-- A row of ids is a list of ids that is read. -/
theorem RdIds.of_row {w : World} {A : Option Addr} {L : List (List UInt8)} (h : ∀ x ∈ L, x.length = 32) (hr : RdC w A (idsC L)) (hA : ∀ ad, A = some ad → ad = ⟨ad.block, ad.off, none⟩) : RdIds w A L := fun k hk => by
  have hl : (u8v L[k]).length = 32 := by rw [u8v_length, h _ (List.getElem_mem hk)]
  have h0 := idsC_get L h k hk 0 (by omega)
  obtain ⟨v0, hv0⟩ : ∃ v, (u8v L[k])[0]? = some v := ⟨_, List.getElem?_eq_getElem (l := u8v L[k]) (i := 0) (by omega)⟩
  rw [hv0] at h0
  obtain ⟨ad, e, _⟩ := hr _ _ h0
  have e2 := hA ad e
  refine ⟨ad.block, ad.off, by rw [e]; exact congrArg some e2, fun j v hj => ?_⟩
  have hj32 : j < 32 := by rw [← hl]; exact (List.getElem?_eq_some_iff.1 hj).1
  have h1 := idsC_get L h k hk j hj32
  rw [hj] at h1
  obtain ⟨ad', e', hc⟩ := hr _ _ h1
  rw [e] at e'
  obtain rfl := Option.some.inj e'
  rw [e2] at hc
  rw [addr_add_plain] at hc
  rw [Nat.add_assoc]
  exact hc
theorem elt_id : Elt Tryd.prog 47 25 32 32 (.agg (idC zeros)) := ⟨Tryd.underlying47, by kernel_rfl, by rw [show (Value.agg (idC zeros)).cells = idC zeros from rfl, idC_size]; rfl, by omega⟩
theorem zero_idc : (Tryd.prog.info? 25).map (fun i => (i.zero.map Value.cells, i.size)) = some (some (idC zeros), 32) := by kernel_rfl
set_option maxRecDepth 100000 in
theorem built_id1 (x : List UInt8) (h : x.length = 32) (parts : List (Nat × Value)) (hp : parts = [(0, Value.agg (idC x))]) :
    Tryd.prog.builtSlice 25 1 parts = some (idC x) := by
  obtain ⟨ie, hie, hzc⟩ : ∃ ie, Tryd.prog.info? 25 = some ie ∧ (ie.zero.map Value.cells, ie.size) = (some (idC zeros), 32) := by
    have := zero_idc
    cases hq : Tryd.prog.info? 25 with
    | none => rw [hq] at this; cases this
    | some i => rw [hq] at this; exact ⟨i, rfl, by simpa using this⟩
  obtain ⟨hz, hs⟩ := Prod.mk.inj hzc
  unfold Program.builtSlice
  rw [hie]
  simp only []
  cases hzz : ie.zero with
  | none => rw [hzz] at hz; cases hz
  | some z =>
    simp only []
    rw [hs, if_neg (by omega), hp]
    have hm : ∀ v ∈ [Value.agg (idC x)], v.cells.size = 32 := fun v hv => by
      obtain rfl := List.mem_singleton.1 hv
      show (idC x).size = 32
      rw [idC_size, h]
    have := Great.fill_whole (s := 32) (by omega) [Value.agg (idC x)] ((Array.range (1 * 32)).map (z.cells[· % z.cells.size]!)) hm (by simp)
    simp only [List.zipIdx_cons, List.zipIdx_nil, List.map_cons, List.map_nil] at this
    rw [this]
    congr 1
    apply Array.ext'
    simp [Value.cells]
end Go.Proofs.YtcdnbidenaljlaaDoor

/- hash.Less. -/
namespace Go.Proofs.YtcdnbidenaljlaaDoor
open Go.RowKit

theorem wpList_id1 {ops : Array Oper} {rest : List Oper} {o : Oper} {c : Act} {w : World} {Q : Exit → Act → World → Prop} (hgd : o.guard = none) (x : Operand) (ho : o.op = .buildSlice 47 1 #[(0, x)]) (X : Array Value) (a : List UInt8) (hX : X = idC a) (ha : a.length = 32) (hx : c.eval x = .agg X)
    (h : wpList Tryd.prog ops Q rest (c.put o.dst (.slice (some ⟨w.heap.size, 0, none⟩) 1 1)) (w.alloc (.cells X 25))) : wpList Tryd.prog ops Q (o :: rest) c w := by
  subst hX
  refine wpList_plain hgd fun K hK => ?_
  have hf := built_id1 a ha (#[(0, x)].map fun (i, x) => (i, c.eval x)).toList (by simp [hx])
  unfold Program.builtSlice at hf
  cases hie : Tryd.prog.info? 25 with
  | none => simp [hie] at hf
  | some ie =>
    simp only [hie] at hf
    cases hz : ie.zero with
    | none => simp [hz] at hf
    | some z =>
      simp only [hz] at hf
      by_cases hc : 1 * ie.size > 2 ^ 24 ∨ 1 * ie.size = 0
      · simp only [hc, if_true] at hf; cases hf
      · rw [if_neg hc] at hf
        exact wp_buildSlice 47 25 1 _ ho _ ie z Tryd.underlying47 hie hz (fun h' => hc (Or.inl h')) (fun h' => hc (Or.inr h')) hf (hK _ _ h)
def lessL (L L2 : List (List UInt8)) : List (List UInt8) := L.filter fun x => !decide (x ∈ L2)
theorem lessL_snoc (L L2 : List (List UInt8)) (k : Nat) (h : k < L.length) : lessL (L.take (k + 1)) L2 = lessL (L.take k) L2 ++ if decide (L[k] ∈ L2) = true then [] else [L[k]] := by
  unfold lessL
  rw [List.take_succ_eq_append_getElem h, List.filter_append]
  congr 1
  by_cases e : L[k] ∈ L2 <;> simp [e]
theorem lessL_32 {L L2 : List (List UInt8)} (h : ∀ x ∈ L, x.length = 32) : ∀ x ∈ lessL L L2, x.length = 32 := fun x hx => h x (List.mem_filter.1 hx).1
set_option maxRecDepth 100000 in
set_option maxHeartbeats 1000000 in
theorem less_any (A : Option Addr) (n c : Nat) (L : List (List UInt8)) (hL : L.length = n) (hn : n ≤ 1000000) (h32 : ∀ x ∈ L, x.length = 32) (A2 : Option Addr) (n2 c2 : Nat) (L2 : List (List UInt8)) (hL2 : L2.length = n2) (hn2 : n2 ≤ 1000000) (h322 : ∀ x ∈ L2, x.length = 32) (hR : Rise L2) (w : World) (hr : RdIds w A L) (hr2 : RdIds w A2 L2) :
    Calls Tryd.prog 20 #[.slice A n c, .slice A2 n2 c2] w fun e w' => ∃ v, e = .returned v ∧ w'.ownsRow w.heap.size 25 32 v (lessL L L2).length (idsC (lessL L L2)) ∧ Below w.heap.size w w' := by
  obtain ⟨Z, hZ0, hZs⟩ : ∃ Z : Array Value, (Tryd.prog.info? 25).bind (fun i => i.zero.map Value.cells) = some Z ∧ Z.size = 32 := ⟨_, zero_id, by rw [idC_size]; rfl⟩
  have hni : (n : Int) ≤ 1000000 := by omega
  go_enter Tryd.func20, Tryd.ntmps20
  go_wp2_with fail
  go_loopw [5, 10] (fun v i wr => ∃ k : Nat, k ≤ n ∧ i = .int .i64 (k : Int) ∧ wr.ownsRow w.heap.size 25 32 v (lessL (L.take k) L2).length (idsC (lessL (L.take k) L2)) ∧ Below w.heap.size w wr) (fun _ i _ => n - (intOf i).toNat)
  case atStart => exact ⟨0, by omega, rfl, World.ownsRow_nil _ _ _ _, Below.refl _ _⟩
  case round =>
    obtain ⟨k, hk, rfl, hown, gb⟩ := hrel
    by_cases hlt : k < n
    · have hhL : k < L.length := by omega
      have hki : (k : Int) < (n : Int) := by omega
      obtain ⟨g, o, hA, hrg⟩ := hr k hhL
      have hlh : L[k].length = 32 := h32 _ (List.getElem_mem hhL)
      have hsn := lessL_snoc L L2 k hhL
      have h32k := lessL_32 (L2 := L2) (fun x hx => h32 x (List.mem_of_mem_take hx) : ∀ x ∈ L.take k, x.length = 32)
      have hKl : (lessL (L.take k) L2).length ≤ k := Nat.le_trans (List.length_filter_le _ _) (by rw [List.length_take]; omega)
      have hrgW := range_below hrg gb
      generalize L[k] = x at hlh hsn hrgW hrg
      have hSi : (Tryd.prog.info? 25).map (·.size) = some (u8v x).length := by rw [u8v_length, hlh]; exact size_id
      obtain ⟨X, hX, hXs, hX1⟩ : ∃ X : Array Value, Hid (X = idC x) ∧ X.size = 32 ∧ (∀ u ∈ X.toList, u.oneCell' = true) := ⟨_, rfl, by rw [idC_size, hlh], by simpa [idC] using u8v_one x⟩
      have hXi : (Tryd.prog.info? 25).map (·.size) = some X.size := by rw [hXs]; exact size_id
      have hXz : X.size = Z.size := by rw [hXs, hZs]
      have hag : (u8v x).toArray = X := by rw [hX.out]; rfl
      have qn : (wr.alloc (.cells Z 25)).heap[wr.heap.size]? = some (.cells Z 25 (0, 0)) := heap_alloc_new _ _
      obtain ⟨w1, hw1⟩ : ∃ w1, w1 = (wr.alloc (.cells Z 25)).setRow wr.heap.size X := ⟨_, rfl⟩
      have hb1 : Below wr.heap.size wr w1 := by rw [hw1]; exact below_setRow ((Below.refl _ wr).alloc (Nat.le_refl _) _) (Nat.le_refl _) X
      have q1 : w1.heap[wr.heap.size]? = some (.cells X 25 (0, 0)) := by rw [hw1]; exact setRow_heap _ _ _ _ _ _ qn
      have gb1 := below_then gb hb1 (Nat.le_refl _)
      have hown1 := own_below hown hb1
      have hhas := hashas_any A2 n2 c2 L2 hL2 hn2 h322 hR w1 (hr2.below gb1) x hlh
      rw [← hX.out] at hhas
      obtain ⟨bo, hbo⟩ : ∃ bo, bo = decide (x ∈ L2) := ⟨_, rfl⟩
      rw [← hbo] at hhas hsn
      have HW1 := Lib.hid hw1
      have HSN := Lib.hid hsn
      have HAG := Lib.hid hag
      subst hA
      clear hw1 hsn hbo hown hag hb1
      go_upto_region 4 with (fail)
      go_upto_region 5 with (first
        | (with_reducible refine wpList_load_mid rfl 25 (.tmp 12) rfl g (o + k * 32) rfl (u8v x) _ hrgW Tryd.underlying25 rfl hSi ?_; rw [HAG.out])
        | (with_reducible refine wpList_alloc_z rfl 25 rfl Z hZ0 ?_)
        | (with_reducible refine wpList_store_z rfl 25 (.tmp 7) (.tmp 13) rfl _ rfl X rfl Z _ qn hXz hXi hX1 ?_)
        | fail)
      rw [← HW1.out]
      cases bo with
      | true =>
        go_wp2_with (first
          | (with_reducible refine wpList_load_row rfl 25 (.tmp 7) rfl _ rfl 25 X _ _ q1 Tryd.underlying25 rfl hXi ?_)
          | (go_at_call 19; refine hhas.mono ?_; rintro e w2 ⟨rfl, hb2⟩)
          | fail)
        refine ⟨⟨k + 1, by omega, rfl, ?_, below_then gb1 hb2 (Nat.le_refl _)⟩, by simp [intOf]; omega⟩
        have hs := HSN.out
        simp only [if_true, List.append_nil] at hs
        rw [hs]
        exact own_below hown1 hb2
      | false =>
        go_upto_region 6 with (first
          | (with_reducible refine wpList_load_row rfl 25 (.tmp 7) rfl _ rfl 25 X _ _ q1 Tryd.underlying25 rfl hXi ?_)
          | (go_at_call 19; refine hhas.mono ?_; rintro e w2 ⟨rfl, hb2⟩)
          | fail)
        have q2 := (hb2.block _ (lt_of_get q1)).trans q1
        obtain ⟨wx, hwx⟩ : ∃ wx, wx = w2.alloc (.cells X 25) := ⟨_, rfl⟩
        have hbx : Below w2.heap.size w2 wx := by rw [hwx]; exact (Below.refl _ _).alloc (Nat.le_refl _) _
        have hox := own_below (own_below hown1 hb2) hbx
        have hgx : wx.heap[w2.heap.size]? = some (.cells X 25 (0, 0)) := by rw [hwx]; exact heap_alloc_new _ _
        have hrx : RdC wx (some ⟨w2.heap.size, 0, none⟩) (idsC [x]) := fun j u hj => by
          refine ⟨_, rfl, ?_⟩
          rw [addr_add_plain, Nat.zero_add, cell_of_row _ _ _ _ _ _ hgx, hX.out, ← hj, ← Array.getElem?_toList]
          simp [idsC, idC]
        have hsx := below_then (below_then gb1 hb2 (Nat.le_refl _)) hbx (Nat.le_refl _)
        have hl1 : (idsC [x]).length = 1 * 32 := idsC_length [x] (by simpa using hlh)
        have HWX := Lib.hid hwx
        clear hwx hbx hown1 gb1 hb2 q1
        go_wp2_with (first
          | (with_reducible refine wpList_load_row rfl 25 (.tmp 7) rfl _ rfl 25 X _ _ q2 Tryd.underlying25 rfl hXi ?_)
          | (with_reducible refine wpList_id1 rfl (.tmp 19) rfl X x hX.out hlh rfl ?_; rw [← HWX.out])
          | (at_builtin; go_loud (refine wpList_app elt_id rfl (.tmp 18) (.tmp 20) rfl w.heap.size _ (lessL (L.take k) L2).length (idsC (lessL (L.take k) L2)) rfl hox (some ⟨w2.heap.size, 0, none⟩) 1 1 (idsC [x]) rfl hl1 hrx (idsC_one _) (by unfold maxLen; omega) (by omega) hsx.size ?_; intro v' w' ho hg; have hbn := below_grown hsx hox hg hsx.size (Nat.le_refl _)))
          | fail)
        refine ⟨⟨k + 1, by omega, rfl, ?_, hbn⟩, by simp [intOf]; omega⟩
        have hs := HSN.out
        simp only [Bool.false_eq_true, if_false] at hs
        rw [hs, idsC_app, List.length_append]
        exact ho
    · obtain rfl : k = n := by omega
      rw [List.take_of_length_le (by omega)] at hown
      go_wp2_with fail
      go_ret
      exact ⟨_, rfl, hown, gb⟩
end Go.Proofs.YtcdnbidenaljlaaDoor

/- slices.Clone at ids. -/
namespace Go.Proofs.YtcdnbidenaljlaaDoor
open Go.RowKit

theorem cloneids_any (A : Option Addr) (n c : Nat) (L : List (List UInt8)) (hL : L.length = n) (h32 : ∀ x ∈ L, x.length = 32) (hn : n ≤ 1000000) (w : World) (hr : RdC w A (idsC L)) :
    Calls Tryd.prog 31 #[.slice A n c] w fun e w' => ∃ v', e = .returned v' ∧ w'.ownsRow w.heap.size 25 32 v' n (idsC L) ∧ Below w.heap.size w w' := by
  have q : ∀ (w : World) (a : Option Addr) (n c n' c' : Nat), (binOp .eql 47 (.slice a n c) (.slice none n' c')).run Tryd.prog w = .ok (.bool a.isNone) w := fun w a n c n' c' => Lib.run_eql_slice_nil w 47 25 a n c n' c' Tryd.underlying47
  have hlen := idsC_length L h32
  cases A with
  | none =>
    have h0 : idsC L = [] := by
      cases hq : idsC L with
      | nil => rfl
      | cons x l => obtain ⟨_, h, _⟩ := hr 0 x (by rw [hq]; rfl); cases h
    have hL0 : L.length = 0 := by rw [h0] at hlen; simp at hlen; omega
    obtain rfl : n = 0 := by omega
    rw [h0]
    go_enter Tryd.func31, Tryd.ntmps31
    go_wp2
    go_ret
    exact ⟨_, rfl, ⟨rfl, .inl ⟨rfl, rfl⟩⟩, Below.refl _ _⟩
  | some a =>
    obtain ⟨w1, hw1⟩ : ∃ w1, w1 = w.alloc (.cells #[] 25) := ⟨_, rfl⟩
    have hb1 : Below w.heap.size w w1 := by rw [hw1]; exact (Below.refl _ _).alloc (Nat.le_refl _) _
    have ho1 : w1.ownsRow w.heap.size 25 32 (.slice (some ⟨w.heap.size, 0, none⟩) 0 0) 0 [] := ⟨rfl, .inr ⟨w.heap.size, 0, #[], rfl, Nat.le_refl _, by rw [hw1]; exact heap_alloc_new _ _, by omega, by unfold maxLen; omega, rfl, rfl⟩⟩
    have hr1 := hr.below hb1
    have HW := Lib.hid hw1
    rw [hL] at hlen
    have HL := Lib.hid hlen
    clear hw1 hlen
    go_enter Tryd.func31, Tryd.ntmps31
    go_wp2_with (first
      | (at_builtin; rw [← HW.out]; refine wpList_app elt_id rfl (.tmp 5) (.tmp 6) rfl w.heap.size _ 0 [] rfl ho1 (some a) n c (idsC L) rfl HL.out hr1 (idsC_one L) (by unfold maxLen; omega) (by omega) hb1.size ?_; intro v' w' ho hg)
      | fail)
    go_ret
    rw [Nat.zero_add] at ho
    exact ⟨v', rfl, ho, below_grown hb1 ho1 hg hb1.size (Nat.le_refl _)⟩
end Go.Proofs.YtcdnbidenaljlaaDoor

