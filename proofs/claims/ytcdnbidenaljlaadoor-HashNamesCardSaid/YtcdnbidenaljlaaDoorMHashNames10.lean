/- Texts of this proof, laid into one: Range, RangeS, RangeR, RegIn, QuietIn. -/
import Derived.RangeFuncNested
import Derived.RangeFuncBound
import Derived.RangeFuncCalls
import Derived.RangeFuncLeaves
import Derived.RangeFuncBox
import Derived.Shelf.Abstract
import Derived.Shelf.RegionOpen
import Derived.WalkKit
import Derived.OwnWalkIn
import Derived.TacticsInMore
import Derived.LoopNIn
import Derived.LoopIn
import Derived.Test.YtcdnbidenaljlaaDoorMHashNames2
import Derived.OrdersIn
import Derived.Deep.QuietTactic
import Derived.BigQuiet
/- A range over a function whose body always goes on, where the function keeps a number of its own in a cell: a law over the machine's steps. No program in sight. -/
namespace Go.Proofs.YtcdnbidenaljlaaDoor
open Go.RowKit Go.Shelf

section
variable {F : Fence} {n : Nat} {P : Program}
/-- The cell lies as it lay. -/
def SameCell (p : Addr) (W W' : World) : Prop := W'.cell? p = W.cell? p ∧ W'.frozen? p = W.frozen? p
/-- What a function that hands out xs, one by one, and keeps a number in the cell p, gives. -/
def HandsOut {α : Type} (F : Fence) (n : Nat) (P : Program) (gf : Nat) (lb : Array Value) (encs : α → Array Value) (xs : List α) (p : Addr) (W : World) : Prop :=
  ∀ (l : Nat) (J : List α → World → Prop), (∀ s A v, J s A → J s (A.setCell p v)) →
    (∀ pre x A, J pre A → pre.length < xs.length → YieldAt F (n - 1) P l (encs x) A fun e A' => e = .returned (.bool true) ∧ J (pre ++ [x]) A' ∧ SameCell p A A') →
    J [] W → CallsIn F n P gf (#[.func (.yield l) #[] #[]] ++ lb) W fun e W' => (∃ v, e = .returned v) ∧ J xs W'
/-- The body has gone to its end. -/
def wentOn {α : Type} (p : Addr) (I : List α → World → Prop) (xs : List α) (W : World) : Exit → Act → World → Prop
  | .normal, _, W' => KeepsOthers W W' ∧ SameCell p W W' ∧ I xs W'
  | _, _, _ => False
theorem range_on {α : Type} {g : Operand} {ps : Array Tmp} {assign body : Code} {Q : Exit → Act → World → Prop} {a : Act} {w : World} (hro : F.round = none) (h1 : 1 ≤ n) {gf : Nat} {lb : Array Value} (hg : a.eval g = .func (.func gf) #[] lb) (hFg : F.fn gf)
    (eg : ∀ args w, (callFunc gf args).run P w = .ok (.enter gf args) w) (encs : α → Array Value) (hps : ∀ x, (encs x).size = ps.size) (xs : List α) (p : Addr) (hp : p.block < w.heap.size)
    (hseq : ∀ r o, HandsOut F (n - 1) P gf lb encs xs p ((w.alloc o).alloc r))
    (I : List α → World → Prop) (h0 : ∀ o r, I [] ((w.alloc o).alloc r)) (hIc : ∀ s A v, I s A → I s (A.setCell p v)) (hIp : ∀ s A k o o', I s A → w.heap.size ≤ k → A.heap[k]? = some o → o.isCells = false → I s (A.putObj k o'))
    (a₁ : α → Act)
    (hassign : ∀ (l : Nat) (x : α) (W : World) (K : Act → World → Prop), K (a₁ x) W → assign.wpIn (F.inRound l) (n - 1 - 1) P (Exit.then K (fun _ _ _ => False)) { tmps := (ps.zip (encs x)).foldl (fun t (p, v) => t.setIfInBounds p v) a.tmps, defers := [] } W)
    (hbody : ∀ (l : Nat) (pre : List α) (x : α) (W : World), I pre W → pre.length < xs.length → w.heap.size + 1 < W.heap.size → body.wpIn (F.inRound l) (n - 1 - 1) P (wentOn p I (pre ++ [x]) W) (a₁ x) W)
    (hdone : ∀ (D : Nat) (W : World), D = w.heap.size → I xs W → W.heap[D]? = some (.deferred (some [])) → Q .normal { a with defers := { target := .collected D, args := #[] } :: a.defers } W) :
    (Code.rangeFunc g ps assign body).wpIn F n P Q a w := by
  refine wpIn_rangeFunc fun fn hfn => ?_
  rw [hro]
  obtain ⟨rec, hrec⟩ : ∃ rec : LoopState → Loop, rec = fun st => { state := st, pending := none, fn, tmps := a.tmps, params := ps, assign, body, defers := w.heap.size } := ⟨_, rfl⟩
  obtain ⟨W1, hW1⟩ : ∃ W1, (w.alloc (.deferred (some []))).alloc (.loop (rec .ready)) = W1 := ⟨_, rfl⟩
  have hL : W1.heap[w.heap.size + 1]? = some (.loop (rec .ready)) := by rw [← hW1]; exact heap_alloc2_new _ _ _
  have hD : W1.heap[w.heap.size]? = some (.deferred (some [])) := by rw [← hW1]; exact heap_alloc2_old _ _ _
  refine ⟨w.heap.size + 1, [{ target := .collected w.heap.size, args := #[] }], W1, { target := .fn (.func gf) lb, args := #[.func (.yield (w.heap.size + 1)) #[] #[]] }, W1, gf,
    #[.func (.yield (w.heap.size + 1)) #[] #[]] ++ lb, W1, ?_, ?_, ?_, ?_, fun _ => h1, ?_⟩
  · rw [← hW1, hrec]; exact run_enterLoop_outer _ _ _ _ _
  · simp only [resolve, hg]
    simp [go_sem]
  · intro f' hf'
    simp [Target.leads] at hf'
    subst hf'
    exact hFg
  · simp [invoke, go_sem, eg]
  have key := hseq (.loop (rec .ready)) (.deferred (some []))
  rw [hW1] at key
  refine (key (w.heap.size + 1) (fun pre W => I pre W ∧ W.heap[w.heap.size + 1]? = some (.loop (rec .ready)) ∧ W.heap[w.heap.size]? = some (.deferred (some []))) ?_ ?_ ⟨by rw [← hW1]; exact h0 _ _, hL, hD⟩).mono ?_
  · rintro s A v ⟨hi, hl, hd⟩
    exact ⟨hIc s A v hi, by rw [heap_setCell_other _ _ _ _ (by omega)]; exact hl, by rw [heap_setCell_other _ _ _ _ (by omega)]; exact hd⟩
  · rintro pre x A ⟨hi, hl, hd⟩ hpl
    have hlt := (Array.getElem?_eq_some_iff.1 hl).1
    have hy := run_yield (P := P) (args := encs x) hl (by rw [hrec]; exact hps x)
    rw [hrec] at hy
    refine ⟨fn, _, assign, body, hy, roundIn_of_wpIn hfn (hassign _ x A _ ⟨_, run_beginRound hl (by rw [hrec]), ?_⟩)⟩
    obtain ⟨B, hB⟩ : ∃ B, B = A.putObj (w.heap.size + 1) (.loop { rec .ready with state := .busy }) := ⟨_, rfl⟩
    rw [← hB]
    have bl : B.heap[w.heap.size + 1]? = some (.loop { rec .ready with state := .busy }) := by rw [hB]; exact World.putObj_heap_same hlt
    have bd : B.heap[w.heap.size]? = some (.deferred (some [])) := by rw [hB, World.putObj_heap_other (by omega)]; exact hd
    have bi : I pre B := by rw [hB]; exact hIp _ _ _ _ _ hi (by omega) hl rfl
    have bs : SameCell p A B := by
      rw [hB]
      have hk : (A.putObj (w.heap.size + 1) (.loop { rec .ready with state := .busy })).heap[p.block]? = A.heap[p.block]? := World.putObj_heap_other (by omega)
      exact ⟨by unfold World.cell?; rw [hk], by unfold World.frozen?; rw [hk]⟩
    have bz : B.heap.size = A.heap.size := by rw [hB, World.putObj_size]
    refine wpIn_mono (hbody _ pre x B bi hpl (by omega)) fun e a3 C hC => ?_
    cases e with
    | normal =>
      obtain ⟨hk3, hs3, hi3⟩ := hC
      have cl := hk3.same _ _ bl rfl
      have cd := hk3.same _ _ bd rfl
      have clt := (Array.getElem?_eq_some_iff.1 cl).1
      have he := run_endRound (P := P) none cl
      have hk : (C.putObj (w.heap.size + 1) (.loop (rec .ready))).heap[p.block]? = C.heap[p.block]? := World.putObj_heap_other (by omega)
      refine ⟨_, _, he, rfl, ⟨hIp _ _ _ _ _ hi3 (by omega) cl rfl, ?_, ?_⟩, ?_⟩
      · rw [World.putObj_heap_same clt, hrec]; rfl
      · rw [World.putObj_heap_other (by omega)]; exact cd
      · have hs4 : SameCell p C (C.putObj (w.heap.size + 1) (.loop (rec .ready))) := ⟨by unfold World.cell?; rw [hk], by unfold World.frozen?; rw [hk]⟩
        have e2 : (C.putObj (w.heap.size + 1) (.loop { rec .ready with state := .busy })).heap.size = C.heap.size := World.putObj_size
        rw [hrec] at hs4 ⊢
        exact ⟨hs4.1.trans (hs3.1.trans bs.1), hs4.2.trans (hs3.2.trans bs.2)⟩
    | ret => exact hC.elim
    | exit id => exact hC.elim
    | goto t => exact hC.elim
    | panic ch => exact hC.elim
    | outgrown => exact hC.elim
  · rintro e W2 ⟨⟨v, rfl⟩, hi, hl, hd⟩
    have he := run_endLoop (P := P) hl (by rw [hrec]; simp)
    rw [show (rec .ready).pending = none by rw [hrec]] at he
    exact ⟨none, _, he, hdone _ _ rfl (hIp _ _ _ _ _ hi (by omega) hl rfl) (by rw [World.putObj_heap_other (by omega)]; exact hd)⟩
end
end Go.Proofs.YtcdnbidenaljlaaDoor

/- A range over a function whose body may leave, where the function keeps a state of its own in cells: a law over the machine's steps. No program in sight. -/
namespace Go.Proofs.YtcdnbidenaljlaaDoor
open Go.RowKit Go.Shelf

section
variable {F : Fence} {n : Nat} {P : Program}
/-- What a function that hands out xs, one by one, gives, whose body may say 'no more': St k: its own state behind k of them; Ch: what it changes by itself. -/
def HandsSome {α : Type} (F : Fence) (n : Nat) (P : Program) (gf : Nat) (lb : Array Value) (encs : α → Array Value) (xs : List α) (St : Nat → World → Prop) (Ch : World → World → Prop) (W : World) : Prop :=
  ∀ (l : Nat) (J Jx : List α → World → Prop), (∀ s A A', J s A → Ch A A' → J s A') →
    (∀ pre x rest A, xs = pre ++ x :: rest → J pre A → St (pre.length + 1) A → YieldAt F (n - 1) P l (encs x) A fun e A' => (e = .returned (.bool true) ∧ J (pre ++ [x]) A' ∧ St (pre.length + 1) A') ∨ (e = .returned (.bool false) ∧ Jx (pre ++ [x]) A')) →
    J [] W → CallsIn F n P gf (#[.func (.yield l) #[] #[]] ++ lb) W fun e W' => (∃ v, e = .returned v) ∧ ((J xs W' ∧ St xs.length W') ∨ ∃ pre, pre <+: xs ∧ Jx pre W')
/-- The body has gone to its end, or left. -/
def leftOr {α : Type} (I : List α → World → Prop) (Ix : Code → List α → World → Prop) (St : Nat → World → Prop) (xs : List α) (W : World) : Exit → Act → World → Prop
  | .normal, _, W' => KeepsOthers W W' ∧ St xs.length W' ∧ I xs W'
  | .ret, _, W' => KeepsOthers W W' ∧ Ix .ret xs W'
  | .exit id, _, W' => KeepsOthers W W' ∧ Ix (.exit id) xs W'
  | _, _, _ => False
theorem range_some {α : Type} {g : Operand} {ps : Array Tmp} {assign body : Code} {Q : Exit → Act → World → Prop} {a : Act} {w : World} (hro : F.round = none) (h1 : 1 ≤ n) {gf : Nat} {lb : Array Value} (hg : a.eval g = .func (.func gf) #[] lb) (hFg : F.fn gf)
    (eg : ∀ args w, (callFunc gf args).run P w = .ok (.enter gf args) w) (encs : α → Array Value) (hps : ∀ x, (encs x).size = ps.size) (xs : List α) (St : Nat → World → Prop) (Ch : World → World → Prop)
    (hseq : ∀ r o, HandsSome F (n - 1) P gf lb encs xs St Ch ((w.alloc o).alloc r))
    (hCk : ∀ A A', Ch A A' → ∀ (k : Nat) (o : Obj), A.heap[k]? = some o → o.isCells = false → A'.heap[k]? = some o)
    (I : List α → World → Prop) (Ix : Code → List α → World → Prop) (h0 : ∀ o r, I [] ((w.alloc o).alloc r)) (hIc : ∀ s A A', I s A → Ch A A' → I s A') (hIp : ∀ s A k o o', I s A → w.heap.size ≤ k → A.heap[k]? = some o → o.isCells = false → I s (A.putObj k o'))
    (hSp : ∀ s A k o o', St s A → w.heap.size ≤ k → A.heap[k]? = some o → o.isCells = false → St s (A.putObj k o'))
    (hIxp : ∀ c s A k o o', Ix c s A → w.heap.size ≤ k → A.heap[k]? = some o → o.isCells = false → Ix c s (A.putObj k o'))
    (a₁ : α → Act)
    (hassign : ∀ (l : Nat) (x : α) (W : World) (K : Act → World → Prop), K (a₁ x) W → assign.wpIn (F.inRound l) (n - 1 - 1) P (Exit.then K (fun _ _ _ => False)) { tmps := (ps.zip (encs x)).foldl (fun t (p, v) => t.setIfInBounds p v) a.tmps, defers := [] } W)
    (hbody : ∀ (l : Nat) (pre : List α) (x : α) (rest : List α) (W : World), xs = pre ++ x :: rest → I pre W → St (pre.length + 1) W → w.heap.size + 1 < W.heap.size → body.wpIn (F.inRound l) (n - 1 - 1) P (leftOr I Ix St (pre ++ [x]) W) (a₁ x) W)
    (hdone : ∀ (D : Nat) (W : World), D = w.heap.size → I xs W → St xs.length W → W.heap[D]? = some (.deferred (some [])) → Q .normal { a with defers := { target := .collected D, args := #[] } :: a.defers } W)
    (hstop : ∀ (D : Nat) (c : Code) (pre : List α) (W : World), D = w.heap.size → pre <+: xs → Ix c pre W → W.heap[D]? = some (.deferred (some [])) → c.wpIn F n P Q { a with defers := { target := .collected D, args := #[] } :: a.defers } W) :
    (Code.rangeFunc g ps assign body).wpIn F n P Q a w := by
  refine wpIn_rangeFunc fun fn hfn => ?_
  rw [hro]
  obtain ⟨rec, hrec⟩ : ∃ rec : LoopState → Option Code → Loop, rec = fun st pe => { state := st, pending := pe, fn, tmps := a.tmps, params := ps, assign, body, defers := w.heap.size } := ⟨_, rfl⟩
  obtain ⟨W1, hW1⟩ : ∃ W1, (w.alloc (.deferred (some []))).alloc (.loop (rec .ready none)) = W1 := ⟨_, rfl⟩
  have hL : W1.heap[w.heap.size + 1]? = some (.loop (rec .ready none)) := by rw [← hW1]; exact heap_alloc2_new _ _ _
  have hD : W1.heap[w.heap.size]? = some (.deferred (some [])) := by rw [← hW1]; exact heap_alloc2_old _ _ _
  refine ⟨w.heap.size + 1, [{ target := .collected w.heap.size, args := #[] }], W1, { target := .fn (.func gf) lb, args := #[.func (.yield (w.heap.size + 1)) #[] #[]] }, W1, gf,
    #[.func (.yield (w.heap.size + 1)) #[] #[]] ++ lb, W1, ?_, ?_, ?_, ?_, fun _ => h1, ?_⟩
  · rw [← hW1, hrec]; exact run_enterLoop_outer _ _ _ _ _
  · simp only [resolve, hg]
    simp [go_sem]
  · intro f' hf'
    simp [Target.leads] at hf'
    subst hf'
    exact hFg
  · simp [invoke, go_sem, eg]
  have key := hseq (.loop (rec .ready none)) (.deferred (some []))
  rw [hW1] at key
  refine (key (w.heap.size + 1) (fun pre W => I pre W ∧ W.heap[w.heap.size + 1]? = some (.loop (rec .ready none)) ∧ W.heap[w.heap.size]? = some (.deferred (some [])))
    (fun pre W => ∃ c, Ix c pre W ∧ W.heap[w.heap.size + 1]? = some (.loop (rec .done (some c))) ∧ W.heap[w.heap.size]? = some (.deferred (some []))) ?_ ?_ ⟨by rw [← hW1]; exact h0 _ _, hL, hD⟩).mono ?_
  · rintro s A A' ⟨hi, hl, hd⟩ hch
    exact ⟨hIc s A A' hi hch, hCk A A' hch _ _ hl rfl, hCk A A' hch _ _ hd rfl⟩
  · rintro pre x rest A hxs ⟨hi, hl, hd⟩ hst
    have hlt := (Array.getElem?_eq_some_iff.1 hl).1
    have hy := run_yield (P := P) (args := encs x) hl (by rw [hrec]; exact hps x)
    rw [hrec] at hy
    refine ⟨fn, _, assign, body, hy, roundIn_of_wpIn hfn (hassign _ x A _ ⟨_, run_beginRound hl (by rw [hrec]), ?_⟩)⟩
    obtain ⟨B, hB⟩ : ∃ B, B = A.putObj (w.heap.size + 1) (.loop { rec .ready none with state := .busy }) := ⟨_, rfl⟩
    rw [← hB]
    have bl : B.heap[w.heap.size + 1]? = some (.loop { rec .ready none with state := .busy }) := by rw [hB]; exact World.putObj_heap_same hlt
    have bd : B.heap[w.heap.size]? = some (.deferred (some [])) := by rw [hB, World.putObj_heap_other (by omega)]; exact hd
    have bi : I pre B := by rw [hB]; exact hIp _ _ _ _ _ hi (by omega) hl rfl
    have bst : St (pre.length + 1) B := by rw [hB]; exact hSp _ _ _ _ _ hst (by omega) hl rfl
    have bz : B.heap.size = A.heap.size := by rw [hB, World.putObj_size]
    have fin : ∀ (jump : Option Code) (C : World), KeepsOthers B C →
        (Instr.endRound (w.heap.size + 1) jump).run P C = .ok (.bool jump.isNone) (C.putObj (w.heap.size + 1) (.loop (rec (if jump.isNone then .ready else .done) jump))) ∧
        C.heap[w.heap.size + 1]? = some (.loop { rec .ready none with state := .busy }) ∧
        (C.putObj (w.heap.size + 1) (.loop (rec (if jump.isNone then .ready else .done) jump))).heap[w.heap.size + 1]? = some (.loop (rec (if jump.isNone then .ready else .done) jump)) ∧
        (C.putObj (w.heap.size + 1) (.loop (rec (if jump.isNone then .ready else .done) jump))).heap[w.heap.size]? = some (.deferred (some [])) := fun jump C hk3 => by
      have cl := hk3.same _ _ bl rfl
      have := run_endRound (P := P) jump cl
      rw [hrec] at this ⊢
      exact ⟨this, by rw [hrec] at cl; exact cl, World.putObj_heap_same (Array.getElem?_eq_some_iff.1 cl).1, (World.putObj_heap_other (by omega)).trans (hk3.same _ _ bd rfl)⟩
    refine wpIn_mono (hbody _ pre x rest B hxs bi bst (by omega)) fun e a3 C hC => ?_
    cases e with
    | normal =>
      obtain ⟨hk3, hs3, hi3⟩ := hC
      obtain ⟨hr, cl, cl4, cd⟩ := fin none C hk3
      have hls : (pre ++ [x]).length = pre.length + 1 := by simp
      rw [hls] at hs3
      exact ⟨_, _, hr, .inl ⟨rfl, ⟨hIp _ _ _ _ _ hi3 (by omega) cl rfl, cl4, cd⟩, hSp _ _ _ _ _ hs3 (by omega) cl rfl⟩⟩
    | ret =>
      obtain ⟨hk3, hi3⟩ := hC
      obtain ⟨hr, cl, cl4, cd⟩ := fin (some .ret) C hk3
      exact ⟨_, _, hr, .inr ⟨rfl, .ret, hIxp _ _ _ _ _ _ hi3 (by omega) cl rfl, cl4, cd⟩⟩
    | exit id =>
      obtain ⟨hk3, hi3⟩ := hC
      obtain ⟨hr, cl, cl4, cd⟩ := fin (some (.exit id)) C hk3
      exact ⟨_, _, hr, .inr ⟨rfl, .exit id, hIxp _ _ _ _ _ _ hi3 (by omega) cl rfl, cl4, cd⟩⟩
    | goto t => exact hC.elim
    | panic ch => exact hC.elim
    | outgrown => exact hC.elim
  · rintro e W2 ⟨⟨v, rfl⟩, (⟨⟨hi, hl, hd⟩, hst⟩ | ⟨pre, hpre, c, hi, hl, hd⟩)⟩
    · have he := run_endLoop (P := P) hl (by rw [hrec]; simp)
      rw [show (rec .ready none).pending = none by rw [hrec]] at he
      exact ⟨none, _, he, hdone _ _ rfl (hIp _ _ _ _ _ hi (by omega) hl rfl) (hSp _ _ _ _ _ hst (by omega) hl rfl) (by rw [World.putObj_heap_other (by omega)]; exact hd)⟩
    · have he := run_endLoop (P := P) hl (by rw [hrec]; simp)
      rw [show (rec .done (some c)).pending = some c by rw [hrec]] at he
      exact ⟨some c, _, he, hstop _ c pre _ rfl hpre (hIxp _ _ _ _ _ _ hi (by omega) hl rfl) (by rw [World.putObj_heap_other (by omega)]; exact hd)⟩
end
end Go.Proofs.YtcdnbidenaljlaaDoor

/- A range over a function whose body may leave; what is handed out is told by a relation (new memory may be in it), and taking it may store. A law over the machine's steps. No program in sight. -/
namespace Go.Proofs.YtcdnbidenaljlaaDoor
open Go.RowKit Go.Shelf

section
variable {F : Fence} {n : Nat} {P : Program}
/-- What a function that hands out xs, one by one, gives, whose body may say 'no more': St k: its own state behind k of them; Ch: what it changes by itself. -/
def HandsRel {α : Type} (F : Fence) (n : Nat) (P : Program) (gf : Nat) (lb : Array Value) (E : α → Array Value → World → Prop) (xs : List α) (St : Nat → World → Prop) (Ch : World → World → Prop) (W : World) : Prop :=
  ∀ (l : Nat) (J Jx : List α → World → Prop), (∀ s A A', J s A → Ch A A' → J s A') →
    (∀ pre x rest y A, xs = pre ++ x :: rest → J pre A → St (pre.length + 1) A → E x y A → YieldAt F (n - 1) P l y A fun e A' => (e = .returned (.bool true) ∧ J (pre ++ [x]) A' ∧ St (pre.length + 1) A') ∨ (e = .returned (.bool false) ∧ Jx (pre ++ [x]) A')) →
    J [] W → CallsIn F n P gf (#[.func (.yield l) #[] #[]] ++ lb) W fun e W' => (∃ v, e = .returned v) ∧ ((J xs W' ∧ St xs.length W') ∨ ∃ pre, pre <+: xs ∧ Jx pre W')
theorem range_rel {α : Type} {g : Operand} {ps : Array Tmp} {assign body : Code} {Q : Exit → Act → World → Prop} {a : Act} {w : World} (hro : F.round = none) (h1 : 1 ≤ n) {gf : Nat} {lb : Array Value} (hg : a.eval g = .func (.func gf) #[] lb) (hFg : F.fn gf)
    (eg : ∀ args w, (callFunc gf args).run P w = .ok (.enter gf args) w) (E : α → Array Value → World → Prop) (hps : ∀ x y W, E x y W → y.size = ps.size) (xs : List α) (St : Nat → World → Prop) (Ch : World → World → Prop)
    (hseq : ∀ r o, HandsRel F (n - 1) P gf lb E xs St Ch ((w.alloc o).alloc r))
    (hCk : ∀ A A', Ch A A' → ∀ (k : Nat) (o : Obj), A.heap[k]? = some o → o.isCells = false → A'.heap[k]? = some o)
    (I : List α → World → Prop) (Ix : Code → List α → World → Prop) (h0 : ∀ o r, I [] ((w.alloc o).alloc r)) (hIc : ∀ s A A', I s A → Ch A A' → I s A') (hIp : ∀ s A k o o', I s A → w.heap.size ≤ k → A.heap[k]? = some o → o.isCells = false → I s (A.putObj k o'))
    (hSp : ∀ s A k o o', St s A → w.heap.size ≤ k → A.heap[k]? = some o → o.isCells = false → St s (A.putObj k o'))
    (hIxp : ∀ c s A k o o', Ix c s A → w.heap.size ≤ k → A.heap[k]? = some o → o.isCells = false → Ix c s (A.putObj k o'))
    (Mid : List α → α → Act → World → Prop) (hMp : ∀ s x a A k o o', Mid s x a A → w.heap.size ≤ k → A.heap[k]? = some o → o.isCells = false → Mid s x a (A.putObj k o'))
    (hassign : ∀ (l : Nat) (pre : List α) (x : α) (rest : List α) (y : Array Value) (W : World) (K : Act → World → Prop), xs = pre ++ x :: rest → I pre W → St (pre.length + 1) W → E x y W → w.heap.size + 1 < W.heap.size →
      (∀ a' W', Mid pre x a' W' → (∀ (k : Nat) (o : Obj), W.heap[k]? = some o → o.isCells = false → W'.heap[k]? = some o) → K a' W') → assign.wpIn (F.inRound l) (n - 1 - 1) P (Exit.then K (fun _ _ _ => False)) { tmps := (ps.zip y).foldl (fun t (p, v) => t.setIfInBounds p v) a.tmps, defers := [] } W)
    (hbody : ∀ (l : Nat) (pre : List α) (x : α) (rest : List α) (a' : Act) (W : World), xs = pre ++ x :: rest → Mid pre x a' W → w.heap.size + 1 < W.heap.size → body.wpIn (F.inRound l) (n - 1 - 1) P (leftOr I Ix St (pre ++ [x]) W) a' W)
    (hdone : ∀ (D : Nat) (W : World), D = w.heap.size → I xs W → St xs.length W → W.heap[D]? = some (.deferred (some [])) → Q .normal { a with defers := { target := .collected D, args := #[] } :: a.defers } W)
    (hstop : ∀ (D : Nat) (c : Code) (pre : List α) (W : World), D = w.heap.size → pre <+: xs → Ix c pre W → W.heap[D]? = some (.deferred (some [])) → c.wpIn F n P Q { a with defers := { target := .collected D, args := #[] } :: a.defers } W) :
    (Code.rangeFunc g ps assign body).wpIn F n P Q a w := by
  refine wpIn_rangeFunc fun fn hfn => ?_
  rw [hro]
  obtain ⟨rec, hrec⟩ : ∃ rec : LoopState → Option Code → Loop, rec = fun st pe => { state := st, pending := pe, fn, tmps := a.tmps, params := ps, assign, body, defers := w.heap.size } := ⟨_, rfl⟩
  obtain ⟨W1, hW1⟩ : ∃ W1, (w.alloc (.deferred (some []))).alloc (.loop (rec .ready none)) = W1 := ⟨_, rfl⟩
  have hL : W1.heap[w.heap.size + 1]? = some (.loop (rec .ready none)) := by rw [← hW1]; exact heap_alloc2_new _ _ _
  have hD : W1.heap[w.heap.size]? = some (.deferred (some [])) := by rw [← hW1]; exact heap_alloc2_old _ _ _
  refine ⟨w.heap.size + 1, [{ target := .collected w.heap.size, args := #[] }], W1, { target := .fn (.func gf) lb, args := #[.func (.yield (w.heap.size + 1)) #[] #[]] }, W1, gf,
    #[.func (.yield (w.heap.size + 1)) #[] #[]] ++ lb, W1, ?_, ?_, ?_, ?_, fun _ => h1, ?_⟩
  · rw [← hW1, hrec]; exact run_enterLoop_outer _ _ _ _ _
  · simp only [resolve, hg]
    simp [go_sem]
  · intro f' hf'
    simp [Target.leads] at hf'
    subst hf'
    exact hFg
  · simp [invoke, go_sem, eg]
  have key := hseq (.loop (rec .ready none)) (.deferred (some []))
  rw [hW1] at key
  refine (key (w.heap.size + 1) (fun pre W => I pre W ∧ W.heap[w.heap.size + 1]? = some (.loop (rec .ready none)) ∧ W.heap[w.heap.size]? = some (.deferred (some [])))
    (fun pre W => ∃ c, Ix c pre W ∧ W.heap[w.heap.size + 1]? = some (.loop (rec .done (some c))) ∧ W.heap[w.heap.size]? = some (.deferred (some []))) ?_ ?_ ⟨by rw [← hW1]; exact h0 _ _, hL, hD⟩).mono ?_
  · rintro s A A' ⟨hi, hl, hd⟩ hch
    exact ⟨hIc s A A' hi hch, hCk A A' hch _ _ hl rfl, hCk A A' hch _ _ hd rfl⟩
  · rintro pre x rest y A0 hxs ⟨hi0, hl0, hd0⟩ hst0 hE
    have hlt0 := (Array.getElem?_eq_some_iff.1 hl0).1
    have hy := run_yield (P := P) (args := y) hl0 (by rw [hrec]; exact hps x y A0 hE)
    rw [hrec] at hy
    refine ⟨fn, _, assign, body, hy, roundIn_of_wpIn hfn (hassign _ pre x rest y A0 _ hxs hi0 hst0 hE (by omega) fun a1 A hM hkp => ?_)⟩
    have hl := hkp _ _ hl0 rfl
    have hd := hkp _ _ hd0 rfl
    have hlt := (Array.getElem?_eq_some_iff.1 hl).1
    refine ⟨_, run_beginRound hl (by rw [hrec]), ?_⟩
    obtain ⟨B, hB⟩ : ∃ B, B = A.putObj (w.heap.size + 1) (.loop { rec .ready none with state := .busy }) := ⟨_, rfl⟩
    rw [← hB]
    have bl : B.heap[w.heap.size + 1]? = some (.loop { rec .ready none with state := .busy }) := by rw [hB]; exact World.putObj_heap_same hlt
    have bd : B.heap[w.heap.size]? = some (.deferred (some [])) := by rw [hB, World.putObj_heap_other (by omega)]; exact hd
    have bM : Mid pre x a1 B := by rw [hB]; exact hMp _ _ _ _ _ _ _ hM (by omega) hl rfl
    have bz : B.heap.size = A.heap.size := by rw [hB, World.putObj_size]
    have fin : ∀ (jump : Option Code) (C : World), KeepsOthers B C →
        (Instr.endRound (w.heap.size + 1) jump).run P C = .ok (.bool jump.isNone) (C.putObj (w.heap.size + 1) (.loop (rec (if jump.isNone then .ready else .done) jump))) ∧
        C.heap[w.heap.size + 1]? = some (.loop { rec .ready none with state := .busy }) ∧
        (C.putObj (w.heap.size + 1) (.loop (rec (if jump.isNone then .ready else .done) jump))).heap[w.heap.size + 1]? = some (.loop (rec (if jump.isNone then .ready else .done) jump)) ∧
        (C.putObj (w.heap.size + 1) (.loop (rec (if jump.isNone then .ready else .done) jump))).heap[w.heap.size]? = some (.deferred (some [])) := fun jump C hk3 => by
      have cl := hk3.same _ _ bl rfl
      have := run_endRound (P := P) jump cl
      rw [hrec] at this ⊢
      exact ⟨this, by rw [hrec] at cl; exact cl, World.putObj_heap_same (Array.getElem?_eq_some_iff.1 cl).1, (World.putObj_heap_other (by omega)).trans (hk3.same _ _ bd rfl)⟩
    refine wpIn_mono (hbody _ pre x rest a1 B hxs bM (by omega)) fun e a3 C hC => ?_
    cases e with
    | normal =>
      obtain ⟨hk3, hs3, hi3⟩ := hC
      obtain ⟨hr, cl, cl4, cd⟩ := fin none C hk3
      have hls : (pre ++ [x]).length = pre.length + 1 := by simp
      rw [hls] at hs3
      exact ⟨_, _, hr, .inl ⟨rfl, ⟨hIp _ _ _ _ _ hi3 (by omega) cl rfl, cl4, cd⟩, hSp _ _ _ _ _ hs3 (by omega) cl rfl⟩⟩
    | ret =>
      obtain ⟨hk3, hi3⟩ := hC
      obtain ⟨hr, cl, cl4, cd⟩ := fin (some .ret) C hk3
      exact ⟨_, _, hr, .inr ⟨rfl, .ret, hIxp _ _ _ _ _ _ hi3 (by omega) cl rfl, cl4, cd⟩⟩
    | exit id =>
      obtain ⟨hk3, hi3⟩ := hC
      obtain ⟨hr, cl, cl4, cd⟩ := fin (some (.exit id)) C hk3
      exact ⟨_, _, hr, .inr ⟨rfl, .exit id, hIxp _ _ _ _ _ _ hi3 (by omega) cl rfl, cl4, cd⟩⟩
    | goto t => exact hC.elim
    | panic ch => exact hC.elim
    | outgrown => exact hC.elim
  · rintro e W2 ⟨⟨v, rfl⟩, (⟨⟨hi, hl, hd⟩, hst⟩ | ⟨pre, hpre, c, hi, hl, hd⟩)⟩
    · have he := run_endLoop (P := P) hl (by rw [hrec]; simp)
      rw [show (rec .ready none).pending = none by rw [hrec]] at he
      exact ⟨none, _, he, hdone _ _ rfl (hIp _ _ _ _ _ hi (by omega) hl rfl) (hSp _ _ _ _ _ hst (by omega) hl rfl) (by rw [World.putObj_heap_other (by omega)]; exact hd)⟩
    · have he := run_endLoop (P := P) hl (by rw [hrec]; simp)
      rw [show (rec .done (some c)).pending = some c by rw [hrec]] at he
      exact ⟨some c, _, he, hstop _ c pre _ rfl hpre (hIxp _ _ _ _ _ _ hi (by omega) hl rfl) (by rw [World.putObj_heap_other (by omega)]; exact hd)⟩
end
end Go.Proofs.YtcdnbidenaljlaaDoor

/- A region that draws its order, within the round of a range over a function. No program in sight. -/
namespace Go.Proofs.YtcdnbidenaljlaaDoor
open Go.RowKit
namespace Reg

section
variable {P : Program} {ops : Array Oper} {Q : Exit → Act → World → Prop}
/-- The operations of a function's region, wherever it stands. -/
def find2 (id : Nat) : Code → Option (Array Oper)
  | .region i ops _ => if i = id then some ops else none
  | .seq a b => (find2 id a).orElse fun _ => find2 id b
  | .cond _ a b => (find2 id a).orElse fun _ => find2 id b
  | .block _ a => find2 id a
  | .loop a => find2 id a
  | .scope a => find2 id a
  | .rangeFunc _ _ a b => (find2 id a).orElse fun _ => find2 id b
  | _ => none
def opsOf2 (f : Func) (id : Nat) : Array Oper := ((f.body.bind (find2 id))).getD #[]
def noDefer (ops : Array Oper) : Bool := ops.toList.all fun o => match o.op with | .defer _ => false | _ => true
theorem noDefer_spec {ops : Array Oper} (h : noDefer ops = true) : ∀ o ∈ ops.toList, ∀ c, o.op ≠ .defer c := fun o ho c e => by
  have := List.all_eq_true.1 h o ho
  simp only [e] at this
  cases this
theorem rows_wide {n : Nat} {row : String} {args : Array Value} {w : World} {R : Value → World → Prop} (h : Rows P row args w R) : RowsIn Fence.wide n P row args w R :=
  fun c cs _ => let ⟨v, w', r, s⟩ := h c cs; ⟨v, w', r, stepsIn_wide.2 s⟩
theorem op_in {l n : Nat} {o : Oper} {a : Act} {w : World} {K : Act → World → Prop} (hd : ∀ c, o.op ≠ .defer c) (h : o.wp P a w K Q) : o.wpIn (Fence.wide.inRound l) n P a w K Q := by
  refine ⟨fun _ _ => trivial, ?_⟩
  show o.uponIn (Fence.wide.inRound l) n P a K Q ((o.semAt (some l) a.eval).run P w)
  rw [Oper.semAt_some l _ o hd]
  unfold Oper.wp at h
  generalize (execOp a.eval o).run P w = r at *
  cases r with
  | ok nx w' =>
    cases nx with
    | value v => exact h
    | skip => exact h
    | defer d => exact h
    | enter f args => exact ⟨fun e => (by cases e), callsIn_wide.2 h⟩
    | row row args => exact ⟨fun e => (by cases e), rows_wide h⟩
    | _ => exact h.elim
  | halt e w' =>
    cases e with
    | panic v => exact h
    | _ => exact h.elim
theorem any_in {l n : Nat} (hd : ∀ o ∈ ops.toList, ∀ c, o.op ≠ .defer c) (hQ : ¬ LetsOut Q) : ∀ (fuel : Nat) (listed : Array Bool) (a : Act) (w : World), wpAny P .any ops Q fuel listed a w → wpAnyIn (Fence.wide.inRound l) n P .any ops Q fuel listed a w := by
  intro fuel
  induction fuel with
  | zero => intro listed a w h; exact h
  | succ fuel ih =>
    intro listed a w h
    refine ⟨h.1, fun i hi => ?_⟩
    have h2 := h.2 i hi
    unfold wpOp at h2
    unfold wpOpIn
    cases ho : ops[i]? with
    | none => rw [ho] at h2; exact ih _ _ _ h2
    | some o =>
      rw [ho] at h2
      simp only at h2 ⊢
      split
      · rename_i hw
        rw [if_pos hw] at h2
        rcases h2 with h2 | h2
        · exact op_in (hd o (by have := Array.mem_of_getElem? ho; simpa using this)) (Oper.wp_mono (fun a w h => ih _ _ _ h) h2)
        · exact absurd h2.2 hQ
      · rename_i hw
        rw [if_neg hw] at h2
        exact ⟨fun _ _ => trivial, ih _ _ _ h2⟩
end
section
variable {P : Program} {ops : Array Oper} {Q : Exit → Act → World → Prop} {a0 : Act} {w0 : World}
theorem region_rel_in {l n id : Nat} (hd : ∀ o ∈ ops.toList, ∀ c, o.op ≠ .defer c) (hQ : ¬ LetsOut Q) (hm : P.follows .mixedOrders = true) (U : List Nat) (R : Nat → Value → World → Prop) (D : Nat → Nat → Value → Value → Prop) (hc : chk ops a0.tmps.size U = true) (hst : ∀ i u w w', R i u w → Below w.heap.size w w' → R i u w') (hop : ∀ i ∈ U, OpOK P ops a0 w0 R D i)
    (hend : ∀ (v : Nat → Value) (w : World), Below w0.heap.size w0 w → (∀ i ∈ U, R i (v i) w) → (∀ i ∈ U, ∀ j ∈ U, i ≠ j → D i j (v i) (v j)) → ∀ fuel, cnt (List.range ops.size) (lst ops U) ≤ fuel → wpAny P .any ops Q fuel (lst ops U) (gfr ops a0 v U) w) :
    (Code.region id ops true).wpIn (Fence.wide.inRound l) n P Q a0 w0 := by
  refine wpIn_region_any hm (any_in hd hQ _ _ _ _ (region_go hc hst hop hend _ _ _ _ ⟨by simp, fun i hi => ?_, fun i hi => ?_, rfl, rfl, fun t _ => rfl, fun i _ hi => ?_, fun i _ j _ _ hi => ?_, (Below.refl _ w0).drew⟩ ?_))
  · rw [rep_false] at hi; cases hi
  · rw [rep_false] at hi; cases hi
  · rw [rep_false] at hi; cases hi
  · rw [rep_false] at hi; cases hi
  · unfold cnt
    have := List.length_filter_le (fun i => !(Array.replicate ops.size false).getD i false) (List.range ops.size)
    rwa [List.length_range] at this
end
end Reg
end Go.Proofs.YtcdnbidenaljlaaDoor

/- A region that draws its order and only reads, within a round of a range over a function: one walk of the lexical order. No program in sight. -/
namespace Go.Proofs.YtcdnbidenaljlaaDoor
open Go.RowKit

theorem region_quiet_in {P : Program} {Q : Exit → Act → World → Prop} {a : Act} {w : World} {lr n id : Nat} {l : List Oper} (hd : Reg.noDefer l.toArray = true) (hQ : ¬ LetsOut Q) (hm : P.follows .mixedOrders = true) (hB : Region.lexB .any l.toArray = true)
    (h : wpQuiet P l.toArray (fun w' => ∃ n, w' = w.drewN n) (fun a' => ∀ w', (∃ n, w' = w.drewN n) → Q .normal a' w') l a) : (Code.region id l.toArray true).wpIn (Fence.wide.inRound lr) n P Q a w := by
  simp only [Region.lexB, Bool.and_eq_true] at hB
  refine wpIn_region_any hm (Reg.any_in (Reg.noDefer_spec hd) hQ _ _ _ _ (wpAny_of_quiet (C := fun w' => ∃ n, w' = w.drewN n) (Q := fun a' => ∀ w', (∃ n, w' = w.drewN n) → Q .normal a' w') (fun _ w' hw' h => h w' hw') _ _ _ _ ⟨1, rfl⟩ ?_))
  have := wpAnyQ_lex (C := fun w' => ∃ n, w' = w.drewN n) (md := .any) hB.1 l 0 (Array.replicate l.toArray.size false) a (by simp) (by simpa using hB.2) (by simpa using h)
  simpa using this
end Go.Proofs.YtcdnbidenaljlaaDoor

