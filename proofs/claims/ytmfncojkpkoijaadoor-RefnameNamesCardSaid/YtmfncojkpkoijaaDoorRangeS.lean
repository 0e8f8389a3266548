/- A range over a function whose body may leave, where the function keeps a state of its own in cells: a law over the machine's steps. No program in sight. -/
import Derived.Test.YtmfncojkpkoijaaDoorRange
namespace Go.Proofs.YtmfncojkpkoijaaDoor
open Go.RowKit Go.Shelf

section
variable {F : Fence} {n : Nat} {P : Program}
/-- What a function that hands out xs, one by one, gives, whose body may say 'no more': St k: its own state behind k of them; Ch: what it changes by itself. -/
def HandsSome {α : Type} (F : Fence) (n : Nat) (P : Program) (gf : Nat) (lb : Array Value) (encs : α → Array Value) (xs : List α) (St : Nat → World → Prop) (Ch : World → World → Prop) (W : World) : Prop :=
  ∀ (l : Nat) (J Jx : List α → World → Prop), (∀ s A A', J s A → Ch A A' → J s A') →
    (∀ pre x rest A, xs = pre ++ x :: rest → J pre A → St (pre.length + 1) A → YieldAt F (n - 1) P l (encs x) A fun e A' => (e = .returned (.bool true) ∧ J (pre ++ [x]) A' ∧ St (pre.length + 1) A') ∨ (e = .returned (.bool false) ∧ Jx (pre ++ [x]) A')) →
    J [] W → CallsIn F n P gf (#[.func (.yield l) #[] #[]] ++ lb) W fun e W' => (∃ v, e = .returned v) ∧ ((J xs W' ∧ St xs.length W') ∨ ∃ pre, pre <+: xs ∧ Jx pre W')
/-- The body has gone to its end, or left. -/
def leftOr {α : Type} (I : List α → World → Prop) (Ix : Code → List α → World → Prop) (St : Nat → World → Prop) (xs : List α) (W : World) : Exit → Act → World → Prop
  | .normal, _, W' => KeepsOthers W W' ∧ St xs.length W' ∧ I xs W'
  | .ret, _, W' => KeepsOthers W W' ∧ Ix .ret xs W'
  | .exit id, _, W' => KeepsOthers W W' ∧ Ix (.exit id) xs W'
  | _, _, _ => False
theorem range_some {α : Type} {g : Operand} {ps : Array Tmp} {assign body : Code} {Q : Exit → Act → World → Prop} {a : Act} {w : World} (hro : F.round = none) (h1 : 1 ≤ n) {gf : Nat} {lb : Array Value} (hg : a.eval g = .func (.func gf) #[] lb) (hFg : F.fn gf)
    (eg : ∀ args w, (callFunc gf args).run P w = .ok (.enter gf args) w) (encs : α → Array Value) (hps : ∀ x, (encs x).size = ps.size) (xs : List α) (St : Nat → World → Prop) (Ch : World → World → Prop)
    (hseq : ∀ r o, HandsSome F (n - 1) P gf lb encs xs St Ch ((w.alloc o).alloc r))
    (hCk : ∀ A A', Ch A A' → ∀ (k : Nat) (o : Obj), A.heap[k]? = some o → o.isCells = false → A'.heap[k]? = some o)
    (I : List α → World → Prop) (Ix : Code → List α → World → Prop) (h0 : ∀ o r, I [] ((w.alloc o).alloc r)) (hIc : ∀ s A A', I s A → Ch A A' → I s A') (hIp : ∀ s A k o o', I s A → w.heap.size ≤ k → A.heap[k]? = some o → o.isCells = false → I s (A.putObj k o'))
    (hSp : ∀ s A k o o', St s A → w.heap.size ≤ k → A.heap[k]? = some o → o.isCells = false → St s (A.putObj k o'))
    (hIxp : ∀ c s A k o o', Ix c s A → w.heap.size ≤ k → A.heap[k]? = some o → o.isCells = false → Ix c s (A.putObj k o'))
    (a₁ : α → Act)
    (hassign : ∀ (l : Nat) (x : α) (W : World) (K : Act → World → Prop), K (a₁ x) W → assign.wpIn (F.inRound l) (n - 1 - 1) P (Exit.then K (fun _ _ _ => False)) { tmps := (ps.zip (encs x)).foldl (fun t (p, v) => t.setIfInBounds p v) a.tmps, defers := [] } W)
    (hbody : ∀ (l : Nat) (pre : List α) (x : α) (rest : List α) (W : World), xs = pre ++ x :: rest → I pre W → St (pre.length + 1) W → w.heap.size + 1 < W.heap.size → body.wpIn (F.inRound l) (n - 1 - 1) P (leftOr I Ix St (pre ++ [x]) W) (a₁ x) W)
    (hdone : ∀ (D : Nat) (W : World), D = w.heap.size → I xs W → St xs.length W → W.heap[D]? = some (.deferred (some [])) → Q .normal { a with defers := { target := .collected D, args := #[] } :: a.defers } W)
    (hstop : ∀ (D : Nat) (c : Code) (pre : List α) (W : World), D = w.heap.size → pre <+: xs → Ix c pre W → W.heap[D]? = some (.deferred (some [])) → c.wpIn F n P Q { a with defers := { target := .collected D, args := #[] } :: a.defers } W) :
    (Code.rangeFunc g ps assign body).wpIn F n P Q a w := by
  refine wpIn_rangeFunc fun fn hfn => ?_
  rw [hro]
  obtain ⟨rec, hrec⟩ : ∃ rec : LoopState → Option Code → Loop, rec = fun st pe => { state := st, pending := pe, fn, tmps := a.tmps, params := ps, assign, body, defers := w.heap.size } := ⟨_, rfl⟩
  obtain ⟨W1, hW1⟩ : ∃ W1, (w.alloc (.deferred (some []))).alloc (.loop (rec .ready none)) = W1 := ⟨_, rfl⟩
  have hL : W1.heap[w.heap.size + 1]? = some (.loop (rec .ready none)) := by rw [← hW1]; exact heap_alloc2_new _ _ _
  have hD : W1.heap[w.heap.size]? = some (.deferred (some [])) := by rw [← hW1]; exact heap_alloc2_old _ _ _
  refine ⟨w.heap.size + 1, [{ target := .collected w.heap.size, args := #[] }], W1, { target := .fn (.func gf) lb, args := #[.func (.yield (w.heap.size + 1)) #[] #[]] }, W1, gf,
    #[.func (.yield (w.heap.size + 1)) #[] #[]] ++ lb, W1, ?_, ?_, ?_, ?_, fun _ => h1, ?_⟩
  · rw [← hW1, hrec]; exact run_enterLoop_outer _ _ _ _ _
  · simp only [resolve, hg]
    simp [go_sem]
  · intro f' hf'
    simp [Target.leads] at hf'
    subst hf'
    exact hFg
  · simp [invoke, go_sem, eg]
  have key := hseq (.loop (rec .ready none)) (.deferred (some []))
  rw [hW1] at key
  refine (key (w.heap.size + 1) (fun pre W => I pre W ∧ W.heap[w.heap.size + 1]? = some (.loop (rec .ready none)) ∧ W.heap[w.heap.size]? = some (.deferred (some [])))
    (fun pre W => ∃ c, Ix c pre W ∧ W.heap[w.heap.size + 1]? = some (.loop (rec .done (some c))) ∧ W.heap[w.heap.size]? = some (.deferred (some []))) ?_ ?_ ⟨by rw [← hW1]; exact h0 _ _, hL, hD⟩).mono ?_
  · rintro s A A' ⟨hi, hl, hd⟩ hch
    exact ⟨hIc s A A' hi hch, hCk A A' hch _ _ hl rfl, hCk A A' hch _ _ hd rfl⟩
  · rintro pre x rest A hxs ⟨hi, hl, hd⟩ hst
    have hlt := (Array.getElem?_eq_some_iff.1 hl).1
    have hy := run_yield (P := P) (args := encs x) hl (by rw [hrec]; exact hps x)
    rw [hrec] at hy
    refine ⟨fn, _, assign, body, hy, roundIn_of_wpIn hfn (hassign _ x A _ ⟨_, run_beginRound hl (by rw [hrec]), ?_⟩)⟩
    obtain ⟨B, hB⟩ : ∃ B, B = A.putObj (w.heap.size + 1) (.loop { rec .ready none with state := .busy }) := ⟨_, rfl⟩
    rw [← hB]
    have bl : B.heap[w.heap.size + 1]? = some (.loop { rec .ready none with state := .busy }) := by rw [hB]; exact World.putObj_heap_same hlt
    have bd : B.heap[w.heap.size]? = some (.deferred (some [])) := by rw [hB, World.putObj_heap_other (by omega)]; exact hd
    have bi : I pre B := by rw [hB]; exact hIp _ _ _ _ _ hi (by omega) hl rfl
    have bst : St (pre.length + 1) B := by rw [hB]; exact hSp _ _ _ _ _ hst (by omega) hl rfl
    have bz : B.heap.size = A.heap.size := by rw [hB, World.putObj_size]
    have fin : ∀ (jump : Option Code) (C : World), KeepsOthers B C →
        (Instr.endRound (w.heap.size + 1) jump).run P C = .ok (.bool jump.isNone) (C.putObj (w.heap.size + 1) (.loop (rec (if jump.isNone then .ready else .done) jump))) ∧
        C.heap[w.heap.size + 1]? = some (.loop { rec .ready none with state := .busy }) ∧
        (C.putObj (w.heap.size + 1) (.loop (rec (if jump.isNone then .ready else .done) jump))).heap[w.heap.size + 1]? = some (.loop (rec (if jump.isNone then .ready else .done) jump)) ∧
        (C.putObj (w.heap.size + 1) (.loop (rec (if jump.isNone then .ready else .done) jump))).heap[w.heap.size]? = some (.deferred (some [])) := fun jump C hk3 => by
      have cl := hk3.same _ _ bl rfl
      have := run_endRound (P := P) jump cl
      rw [hrec] at this ⊢
      exact ⟨this, by rw [hrec] at cl; exact cl, World.putObj_heap_same (Array.getElem?_eq_some_iff.1 cl).1, (World.putObj_heap_other (by omega)).trans (hk3.same _ _ bd rfl)⟩
    refine wpIn_mono (hbody _ pre x rest B hxs bi bst (by omega)) fun e a3 C hC => ?_
    cases e with
    | normal =>
      obtain ⟨hk3, hs3, hi3⟩ := hC
      obtain ⟨hr, cl, cl4, cd⟩ := fin none C hk3
      have hls : (pre ++ [x]).length = pre.length + 1 := by simp
      rw [hls] at hs3
      exact ⟨_, _, hr, .inl ⟨rfl, ⟨hIp _ _ _ _ _ hi3 (by omega) cl rfl, cl4, cd⟩, hSp _ _ _ _ _ hs3 (by omega) cl rfl⟩⟩
    | ret =>
      obtain ⟨hk3, hi3⟩ := hC
      obtain ⟨hr, cl, cl4, cd⟩ := fin (some .ret) C hk3
      exact ⟨_, _, hr, .inr ⟨rfl, .ret, hIxp _ _ _ _ _ _ hi3 (by omega) cl rfl, cl4, cd⟩⟩
    | exit id =>
      obtain ⟨hk3, hi3⟩ := hC
      obtain ⟨hr, cl, cl4, cd⟩ := fin (some (.exit id)) C hk3
      exact ⟨_, _, hr, .inr ⟨rfl, .exit id, hIxp _ _ _ _ _ _ hi3 (by omega) cl rfl, cl4, cd⟩⟩
    | goto t => exact hC.elim
    | panic ch => exact hC.elim
    | outgrown => exact hC.elim
  · rintro e W2 ⟨⟨v, rfl⟩, (⟨⟨hi, hl, hd⟩, hst⟩ | ⟨pre, hpre, c, hi, hl, hd⟩)⟩
    · have he := run_endLoop (P := P) hl (by rw [hrec]; simp)
      rw [show (rec .ready none).pending = none by rw [hrec]] at he
      exact ⟨none, _, he, hdone _ _ rfl (hIp _ _ _ _ _ hi (by omega) hl rfl) (hSp _ _ _ _ _ hst (by omega) hl rfl) (by rw [World.putObj_heap_other (by omega)]; exact hd)⟩
    · have he := run_endLoop (P := P) hl (by rw [hrec]; simp)
      rw [show (rec .done (some c)).pending = some c by rw [hrec]] at he
      exact ⟨some c, _, he, hstop _ c pre _ rfl hpre (hIxp _ _ _ _ _ _ hi (by omega) hl rfl) (by rw [World.putObj_heap_other (by omega)]; exact hd)⟩
end
end Go.Proofs.YtmfncojkpkoijaaDoor
