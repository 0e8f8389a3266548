/- The rules by which the obligations of a drawn region are met: an operation in a frame that is told by its slots alone. No program in sight. -/
import Derived.Test.YtcdnbidenaljlaaReg
namespace Go.Proofs.Ytcdnbidenaljlaa
open Go.RowKit

namespace Reg
def look (ops : Array Oper) (L : List Nat) (t : Nat) : Option Nat := L.find? fun j => dst ops j == some t
section
variable {P : Program} {ops : Array Oper} {a0 : Act} {v : Nat → Value} {L : List Nat}
theorem gfr_eval (t j : Nat) (h : look ops L t = some j) (ht : t < a0.tmps.size) : (gfr ops a0 v L).eval (.tmp t) = v j := by
  induction L with
  | nil => cases h
  | cons x L ih =>
    unfold look at h ih
    rw [gfr]
    by_cases hx : dst ops x = some t
    · rw [List.find?_cons_of_pos (by simp [hx])] at h
      cases h
      simp only [Act.eval, Array.getD_eq_getD_getElem?]
      rw [hx, put_same _ t _ (by rw [gfr_size]; exact ht)]
      rfl
    · rw [List.find?_cons_of_neg (by simp [hx])] at h
      have := ih h
      simp only [Act.eval, Array.getD_eq_getD_getElem?] at this ⊢
      rw [put_other _ _ _ _ hx]
      exact this
theorem gfr_eval0 (t : Nat) (h : look ops L t = none) : (gfr ops a0 v L).eval (.tmp t) = a0.eval (.tmp t) := by
  simp only [Act.eval, Array.getD_eq_getD_getElem?]
  rw [gfr_out]
  intro j hj hd
  unfold look at h
  have := List.find?_eq_none.1 h j hj
  simp [hd] at this
theorem wanted_none {o : Oper} {tm : Nat → Option Bool} (h : o.guard = none) : Region.wanted o tm = true := by unfold Region.wanted; rw [h]
theorem wanted_of {o : Oper} {g t : Nat} {b : Bool} {G : Act} (h : o.guard = some (g, b)) (hd : dst ops g = some t) (he : G.eval (.tmp t) = .bool b) : Region.wanted o (yielded ops G.tmps) = true := by
  unfold Region.wanted
  rw [h]
  simp only
  unfold yielded
  unfold dst at hd
  rw [hd]
  simp only [Act.eval, Array.getD_eq_getD_getElem?, Option.bind_some] at he ⊢
  cases ht : G.tmps[t]? with
  | none => rw [ht] at he; cases he
  | some x =>
    rw [ht] at he
    simp only [Option.getD_some] at he
    rw [he]
    simp
def OpGo (P : Program) (o : Oper) (G : Act) (W : World) (post : Value → World → Prop) : Prop := ∀ K : Act → World → Prop, (∀ u w', post u w' → K (G.put o.dst u) w') → o.wp P G W K (fun _ _ _ => False)
theorem go_run {o : Oper} {G : Act} {W : World} {post : Value → World → Prop} (c : Value) (w' : World) (h : (execOp G.eval o).run P W = .ok (.value c) w') (hp : post c w') : OpGo P o G W post := fun K hK => by
  unfold Oper.wp
  rw [h]
  exact hK c w' hp
theorem go_call {o : Oper} {G : Act} {W : World} {post : Value → World → Prop} (f : FuncId) (args : Array Value) (h : (execOp G.eval o).run P W = .ok (.enter f args) W) (hc : Calls P f args W fun e w' => ∃ u, e = .returned u ∧ post u w') : OpGo P o G W post := fun K hK => by
  unfold Oper.wp
  rw [h]
  refine Calls.mono hc fun e w'' he => ?_
  obtain ⟨u, rfl, hp⟩ := he
  exact hK u w'' hp
variable {w0 : World} {R : Nat → Value → World → Prop} {D : Nat → Nat → Value → Value → Prop}
theorem op_ok {i : Nat} {o : Oper} (ho : ops[i]? = some o) (L : List Nat) (hdp : dp ops i = L)
    (h : ∀ (v : Nat → Value) (W : World), Below w0.heap.size w0 W → (∀ j ∈ L, R j (v j) W) → Region.wanted o (yielded ops (gfr ops a0 v L).tmps) = true ∧ OpGo P o (gfr ops a0 v L) W (fun u w' => Below W.heap.size W w' ∧ R i u w')) : OpOK P ops a0 w0 R (fun _ _ _ _ => True) i := fun v W hb hd o' ho' K hK => by
  rw [ho] at ho'
  cases ho'
  rw [hdp] at hd hK ⊢
  obtain ⟨hw, hg⟩ := h v W hb hd
  rw [if_pos hw]
  exact hg K fun u w' ⟨h1, h2⟩ => hK u w' h1 h2 fun _ _ _ _ => ⟨trivial, trivial⟩
/-- The same, where some values have to be unlike. -/
theorem op_okD {i : Nat} {o : Oper} (ho : ops[i]? = some o) (L : List Nat) (hdp : dp ops i = L)
    (h : ∀ (v : Nat → Value) (W : World), Below w0.heap.size w0 W → (∀ j ∈ L, R j (v j) W) → Region.wanted o (yielded ops (gfr ops a0 v L).tmps) = true ∧ OpGo P o (gfr ops a0 v L) W (fun u w' => Below W.heap.size W w' ∧ R i u w' ∧ ∀ j x, j ≠ i → R j x W → D i j u x ∧ D j i x u)) : OpOK P ops a0 w0 R D i := fun v W hb hd o' ho' K hK => by
  rw [ho] at ho'
  cases ho'
  rw [hdp] at hd hK ⊢
  obtain ⟨hw, hg⟩ := h v W hb hd
  rw [if_pos hw]
  exact hg K fun u w' ⟨h1, h2, h3⟩ => hK u w' h1 h2 h3
end
/-- The operations of a function's region. -/
def find (id : Nat) : Code → Option (Array Oper)
  | .region i ops _ => if i = id then some ops else none
  | .seq a b => (find id a).orElse fun _ => find id b
  | .cond _ a b => (find id a).orElse fun _ => find id b
  | .block _ a => find id a
  | .loop a => find id a
  | _ => none
def opsOf (f : Func) (id : Nat) : Array Oper := ((f.body.bind (find id))).getD #[]
/-- A block of one row, laid by the call. -/
def IsRow (t : TypeId) (cs : Array Value) (n : Nat) (u : Value) (w : World) : Prop := ∃ g, u = .slice (some ⟨g, 0, none⟩) n n ∧ w.heap[g]? = some (.cells cs t (0, 0))
theorem IsRow.below {t : TypeId} {cs : Array Value} {n : Nat} {u : Value} {w w' : World} (h : IsRow t cs n u w) (hb : Below w.heap.size w w') : IsRow t cs n u w' := by
  obtain ⟨g, e, h⟩ := h
  refine ⟨g, e, ?_⟩
  rw [hb.block g (by
    rcases Nat.lt_or_ge g w.heap.size with h' | h'
    · exact h'
    · rw [Array.getElem?_eq_none h'] at h; cases h)]
  exact h
end Reg
end Go.Proofs.Ytcdnbidenaljlaa
