/- A range over a function whose body always goes on, where the function keeps a number of its own in a cell: a law over the machine's steps. No program in sight. -/
import Derived.RangeFuncNested
import Derived.RangeFuncBound
import Derived.RangeFuncCalls
import Derived.RangeFuncLeaves
import Derived.RangeFuncBox
import Derived.Shelf.Abstract
import Derived.Shelf.RegionOpen
import Derived.WalkKit
import Derived.OwnWalkIn
import Derived.TacticsInMore
import Derived.LoopNIn
import Derived.LoopIn
import Derived.Test.YtmfncojkpkoijaaDoorB
namespace Go.Proofs.YtmfncojkpkoijaaDoor
open Go.RowKit Go.Shelf

section
variable {F : Fence} {n : Nat} {P : Program}
/-- The cell lies as it lay. -/
def SameCell (p : Addr) (W W' : World) : Prop := W'.cell? p = W.cell? p ∧ W'.frozen? p = W.frozen? p
/-- What a function that hands out xs, one by one, and keeps a number in the cell p, gives. -/
def HandsOut {α : Type} (F : Fence) (n : Nat) (P : Program) (gf : Nat) (lb : Array Value) (encs : α → Array Value) (xs : List α) (p : Addr) (W : World) : Prop :=
  ∀ (l : Nat) (J : List α → World → Prop), (∀ s A v, J s A → J s (A.setCell p v)) →
    (∀ pre x A, J pre A → pre.length < xs.length → YieldAt F (n - 1) P l (encs x) A fun e A' => e = .returned (.bool true) ∧ J (pre ++ [x]) A' ∧ SameCell p A A') →
    J [] W → CallsIn F n P gf (#[.func (.yield l) #[] #[]] ++ lb) W fun e W' => (∃ v, e = .returned v) ∧ J xs W'
/-- The body has gone to its end. -/
def wentOn {α : Type} (p : Addr) (I : List α → World → Prop) (xs : List α) (W : World) : Exit → Act → World → Prop
  | .normal, _, W' => KeepsOthers W W' ∧ SameCell p W W' ∧ I xs W'
  | _, _, _ => False
theorem range_on {α : Type} {g : Operand} {ps : Array Tmp} {assign body : Code} {Q : Exit → Act → World → Prop} {a : Act} {w : World} (hro : F.round = none) (h1 : 1 ≤ n) {gf : Nat} {lb : Array Value} (hg : a.eval g = .func (.func gf) #[] lb) (hFg : F.fn gf)
    (eg : ∀ args w, (callFunc gf args).run P w = .ok (.enter gf args) w) (encs : α → Array Value) (hps : ∀ x, (encs x).size = ps.size) (xs : List α) (p : Addr) (hp : p.block < w.heap.size)
    (hseq : ∀ r o, HandsOut F (n - 1) P gf lb encs xs p ((w.alloc o).alloc r))
    (I : List α → World → Prop) (h0 : ∀ o r, I [] ((w.alloc o).alloc r)) (hIc : ∀ s A v, I s A → I s (A.setCell p v)) (hIp : ∀ s A k o o', I s A → w.heap.size ≤ k → A.heap[k]? = some o → o.isCells = false → I s (A.putObj k o'))
    (a₁ : α → Act)
    (hassign : ∀ (l : Nat) (x : α) (W : World) (K : Act → World → Prop), K (a₁ x) W → assign.wpIn (F.inRound l) (n - 1 - 1) P (Exit.then K (fun _ _ _ => False)) { tmps := (ps.zip (encs x)).foldl (fun t (p, v) => t.setIfInBounds p v) a.tmps, defers := [] } W)
    (hbody : ∀ (l : Nat) (pre : List α) (x : α) (W : World), I pre W → pre.length < xs.length → w.heap.size + 1 < W.heap.size → body.wpIn (F.inRound l) (n - 1 - 1) P (wentOn p I (pre ++ [x]) W) (a₁ x) W)
    (hdone : ∀ (D : Nat) (W : World), D = w.heap.size → I xs W → W.heap[D]? = some (.deferred (some [])) → Q .normal { a with defers := { target := .collected D, args := #[] } :: a.defers } W) :
    (Code.rangeFunc g ps assign body).wpIn F n P Q a w := by
  refine wpIn_rangeFunc fun fn hfn => ?_
  rw [hro]
  obtain ⟨rec, hrec⟩ : ∃ rec : LoopState → Loop, rec = fun st => { state := st, pending := none, fn, tmps := a.tmps, params := ps, assign, body, defers := w.heap.size } := ⟨_, rfl⟩
  obtain ⟨W1, hW1⟩ : ∃ W1, (w.alloc (.deferred (some []))).alloc (.loop (rec .ready)) = W1 := ⟨_, rfl⟩
  have hL : W1.heap[w.heap.size + 1]? = some (.loop (rec .ready)) := by rw [← hW1]; exact heap_alloc2_new _ _ _
  have hD : W1.heap[w.heap.size]? = some (.deferred (some [])) := by rw [← hW1]; exact heap_alloc2_old _ _ _
  refine ⟨w.heap.size + 1, [{ target := .collected w.heap.size, args := #[] }], W1, { target := .fn (.func gf) lb, args := #[.func (.yield (w.heap.size + 1)) #[] #[]] }, W1, gf,
    #[.func (.yield (w.heap.size + 1)) #[] #[]] ++ lb, W1, ?_, ?_, ?_, ?_, fun _ => h1, ?_⟩
  · rw [← hW1, hrec]; exact run_enterLoop_outer _ _ _ _ _
  · simp only [resolve, hg]
    simp [go_sem]
  · intro f' hf'
    simp [Target.leads] at hf'
    subst hf'
    exact hFg
  · simp [invoke, go_sem, eg]
  have key := hseq (.loop (rec .ready)) (.deferred (some []))
  rw [hW1] at key
  refine (key (w.heap.size + 1) (fun pre W => I pre W ∧ W.heap[w.heap.size + 1]? = some (.loop (rec .ready)) ∧ W.heap[w.heap.size]? = some (.deferred (some []))) ?_ ?_ ⟨by rw [← hW1]; exact h0 _ _, hL, hD⟩).mono ?_
  · rintro s A v ⟨hi, hl, hd⟩
    exact ⟨hIc s A v hi, by rw [heap_setCell_other _ _ _ _ (by omega)]; exact hl, by rw [heap_setCell_other _ _ _ _ (by omega)]; exact hd⟩
  · rintro pre x A ⟨hi, hl, hd⟩ hpl
    have hlt := (Array.getElem?_eq_some_iff.1 hl).1
    have hy := run_yield (P := P) (args := encs x) hl (by rw [hrec]; exact hps x)
    rw [hrec] at hy
    refine ⟨fn, _, assign, body, hy, roundIn_of_wpIn hfn (hassign _ x A _ ⟨_, run_beginRound hl (by rw [hrec]), ?_⟩)⟩
    obtain ⟨B, hB⟩ : ∃ B, B = A.putObj (w.heap.size + 1) (.loop { rec .ready with state := .busy }) := ⟨_, rfl⟩
    rw [← hB]
    have bl : B.heap[w.heap.size + 1]? = some (.loop { rec .ready with state := .busy }) := by rw [hB]; exact World.putObj_heap_same hlt
    have bd : B.heap[w.heap.size]? = some (.deferred (some [])) := by rw [hB, World.putObj_heap_other (by omega)]; exact hd
    have bi : I pre B := by rw [hB]; exact hIp _ _ _ _ _ hi (by omega) hl rfl
    have bs : SameCell p A B := by
      rw [hB]
      have hk : (A.putObj (w.heap.size + 1) (.loop { rec .ready with state := .busy })).heap[p.block]? = A.heap[p.block]? := World.putObj_heap_other (by omega)
      exact ⟨by unfold World.cell?; rw [hk], by unfold World.frozen?; rw [hk]⟩
    have bz : B.heap.size = A.heap.size := by rw [hB, World.putObj_size]
    refine wpIn_mono (hbody _ pre x B bi hpl (by omega)) fun e a3 C hC => ?_
    cases e with
    | normal =>
      obtain ⟨hk3, hs3, hi3⟩ := hC
      have cl := hk3.same _ _ bl rfl
      have cd := hk3.same _ _ bd rfl
      have clt := (Array.getElem?_eq_some_iff.1 cl).1
      have he := run_endRound (P := P) none cl
      have hk : (C.putObj (w.heap.size + 1) (.loop (rec .ready))).heap[p.block]? = C.heap[p.block]? := World.putObj_heap_other (by omega)
      refine ⟨_, _, he, rfl, ⟨hIp _ _ _ _ _ hi3 (by omega) cl rfl, ?_, ?_⟩, ?_⟩
      · rw [World.putObj_heap_same clt, hrec]; rfl
      · rw [World.putObj_heap_other (by omega)]; exact cd
      · have hs4 : SameCell p C (C.putObj (w.heap.size + 1) (.loop (rec .ready))) := ⟨by unfold World.cell?; rw [hk], by unfold World.frozen?; rw [hk]⟩
        have e2 : (C.putObj (w.heap.size + 1) (.loop { rec .ready with state := .busy })).heap.size = C.heap.size := World.putObj_size
        rw [hrec] at hs4 ⊢
        exact ⟨hs4.1.trans (hs3.1.trans bs.1), hs4.2.trans (hs3.2.trans bs.2)⟩
    | ret => exact hC.elim
    | exit id => exact hC.elim
    | goto t => exact hC.elim
    | panic ch => exact hC.elim
    | outgrown => exact hC.elim
  · rintro e W2 ⟨⟨v, rfl⟩, hi, hl, hd⟩
    have he := run_endLoop (P := P) hl (by rw [hrec]; simp)
    rw [show (rec .ready).pending = none by rw [hrec]] at he
    exact ⟨none, _, he, hdone _ _ rfl (hIp _ _ _ _ _ hi (by omega) hl rfl) (by rw [World.putObj_heap_other (by omega)]; exact hd)⟩
end
end Go.Proofs.YtmfncojkpkoijaaDoor
