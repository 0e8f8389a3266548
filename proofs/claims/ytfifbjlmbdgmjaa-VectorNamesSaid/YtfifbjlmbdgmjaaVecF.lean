/- Vectors: fold. -/
import Derived.Test.YtfifbjlmbdgmjaaVecW
namespace Go.Proofs.Ytfifbjlmbdgmjaa
open Go.RowKit

def z16 : List Nat := List.replicate 16 0
theorem zero_vec : (Try.prog.info? 24).bind (fun i => i.zero.map Value.cells) = some (vC z16) := by kernel_rfl
theorem size_vec : (Try.prog.info? 24).map (·.size) = some 16 := by kernel_rfl
/-- What fold has behind so many vectors. -/
def foldK (op : Nat → Nat → Nat) (L : List (List Nat)) : Nat → List Nat
  | 0 => z16
  | k + 1 => List.zipWith op (if k = 0 then L.getD k [] else foldK op L k) (L.getD k [])
theorem foldK_length (op : Nat → Nat → Nat) (L : List (List Nat)) (h : ∀ v ∈ L, v.length = 16) (k : Nat) (hk : k ≤ L.length) : (foldK op L k).length = 16 := by
  induction k with
  | zero => rfl
  | succ k ih =>
    have hv : (L.getD k []).length = 16 := by
      rw [List.getD_eq_getElem?_getD, List.getElem?_eq_getElem (by omega)]
      exact h _ (List.getElem_mem _)
    rw [foldK, List.length_zipWith, hv]
    split
    · rw [hv]; rfl
    · rw [ih (by omega)]; rfl
/-- A list of vectors, as it lies. -/
def vecs (L : List (List Nat)) : List Value := (L.map fun v => (vC v).toList).flatten
theorem vecs_length (L : List (List Nat)) (h : ∀ v ∈ L, v.length = 16) : (vecs L).length = 16 * L.length := by
  induction L with
  | nil => rfl
  | cons v L ih =>
    have := ih fun x hx => h x (List.mem_cons_of_mem _ hx)
    have hv := h v (List.mem_cons_self ..)
    simp only [vecs, List.map_cons, List.flatten_cons, List.length_append, List.length_cons] at this ⊢
    rw [this]
    simp [vC_size, hv]
    omega
theorem vecs_get (L : List (List Nat)) (h : ∀ v ∈ L, v.length = 16) (k j : Nat) (hk : k < L.length) (hj : j < 16) (hv : j < L[k].length) : (vecs L)[k * 16 + j]? = some (.int .u32 (L[k][j] : Int)) := by
  induction L generalizing k with
  | nil => cases hk
  | cons v L ih =>
    have hl := h v (List.mem_cons_self ..)
    have hs : (vC v).toList.length = 16 := by simp [vC_size, hl]
    cases k with
    | zero =>
      simp only [vecs, List.map_cons, List.flatten_cons, Nat.zero_mul, Nat.zero_add, List.getElem_cons_zero] at hv ⊢
      rw [List.getElem?_append_left (by omega)]
      have := vC_get v j hv
      simpa using this
    | succ k =>
      simp only [vecs, List.map_cons, List.flatten_cons, List.getElem_cons_succ] at hv ⊢
      rw [List.getElem?_append_right (by omega), hs, show (k + 1) * 16 + j - 16 = k * 16 + j by omega]
      exact ih (fun x hx => h x (List.mem_cons_of_mem _ hx)) k (by simpa using hk) hv
/-- A vector that lies somewhere is loaded. -/
theorem load_vec (W : World) (ad : Addr) (v : List Nat) (hv : v.length = 16) (h : ∀ j (hj : j < v.length), W.cell? (ad.add j) = some (.int .u32 (v[j] : Int))) : (loadVar 24 ad).run Try.prog W = .ok (.agg (vC v)) W := by
  have hl := run_loadCells_rd (P := Try.prog) W ad (vC v).toList (fun j u hj => by
    have hjl : j < v.length := by have := (List.getElem?_eq_some_iff.1 hj).1; simpa [vC_size] using this
    rw [Array.getElem?_toList, vC_get v j hjl] at hj
    cases hj
    exact h j hjl)
  obtain ⟨i, hi, hs⟩ : ∃ i, Try.prog.info? 24 = some i ∧ i.size = 16 := by
    have := size_vec
    cases hq : Try.prog.info? 24 with
    | none => rw [hq] at this; cases this
    | some i => rw [hq] at this; exact ⟨i, rfl, by simpa using this⟩
  have hagg : (isAgg 24).run Try.prog W = .ok true W := Try.isAgg24 W
  rw [Array.length_toList, vC_size, hv] at hl
  simp [loadVar, Sem.run_bind, hagg, sizeOf, typeInfo, hi, hs, hl]
theorem wp_load_at {P : Program} {o : Oper} {a : Act} {w : World} {K : Act → World → Prop} {Q : Exit → Act → World → Prop} (ty : TypeId) (x : Operand) (ho : o.op = .load ty x) (ad : Addr) (hx : a.eval x = .pointer (some ad)) (v : Value) (hl : (loadVar ty ad).run P w = .ok v w)
    (h : K (a.put o.dst v) w) : o.wp P a w K Q := by
  unfold Oper.wp execOp
  simp only [ho, hx, Instr.loadAt, Instr.sureAddr, Sem.run_bind, Sem.run_pure, Result.andThen_ok, hl]
  exact h
theorem wpList_load_at {P : Program} {ops : Array Oper} {rest : List Oper} {o : Oper} {a : Act} {w : World} {Q : Exit → Act → World → Prop} (hgd : o.guard = none) (ty : TypeId) (x : Operand) (ho : o.op = .load ty x) (ad : Addr) (hx : a.eval x = .pointer (some ad)) (v : Value) (hl : (loadVar ty ad).run P w = .ok v w)
    (h : wpList P ops Q rest (a.put o.dst v) w) : wpList P ops Q (o :: rest) a w :=
  wpList_plain hgd fun _ hK => wp_load_at ty x ho ad hx v hl (hK _ _ h)
end Go.Proofs.Ytfifbjlmbdgmjaa
