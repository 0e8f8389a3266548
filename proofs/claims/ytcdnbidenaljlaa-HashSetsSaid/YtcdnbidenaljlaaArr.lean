/- Arrays of integers as values: two are the same. No program is in sight but for the tables of types. -/
import Derived.Test.YtcdnbidenaljlaaA
import Derived.ChangeKeysEq
namespace Go.Proofs.Ytcdnbidenaljlaa
open Go.RowKit Go.ChangeMaps

def intsC (k : IntKind) (xs : List Int) : Array Value := (xs.map (Value.int k)).toArray
theorem intsC_get (k : IntKind) (xs : List Int) (i : Nat) (h : i < xs.length) : (intsC k xs)[i]? = some (.int k (xs.getD i 0)) := by simp [intsC, h]
section
variable {P : Program} (w : World)
theorem run_part_int (e : TypeId) (hag : (isAgg e).run P w = .ok false w) (k : IntKind) (xs : List Int) (i : Nat) (h : i < xs.length) : (part e (intsC k xs) i).run P w = .ok (.int k (xs.getD i 0)) w := by
  unfold part
  simp only [Sem.run_bind, hag, Result.andThen_ok, Bool.false_eq_true, if_false]
  rw [intsC_get k xs i h]
  rfl
theorem run_eqItems_ints (d : Nat) (e : TypeId) (k k' : IntKind) (he : P.underlying e = some (.int k')) (hag : (isAgg e).run P w = .ok false w) (xs ys : List Int) : ∀ (is : List Nat), (∀ i ∈ is, i < xs.length ∧ i < ys.length) →
    (Op.eqItems (d + 1) e 1 (intsC k xs) (intsC k ys) is).run P w = .ok (is.all fun i => xs.getD i 0 == ys.getD i 0) w
  | [], _ => by simp [Op.eqItems]
  | i :: is, h => by
    have h0 := h i (List.mem_cons_self ..)
    have ih := run_eqItems_ints d e k k' he hag xs ys is fun j hj => h j (List.mem_cons_of_mem _ hj)
    simp only [Op.eqItems, Sem.run_bind, Nat.mul_one, run_part_int w e hag k xs i h0.1, run_part_int w e hag k ys i h0.2, Result.andThen_ok, run_equalIn_int w d e k k' _ _ he, List.all_cons]
    cases xs.getD i 0 == ys.getD i 0 with
    | false => simp
    | true => simpa using ih
theorem run_eq_ints (d : Nat) (T e : TypeId) (n : Nat) (k k' : IntKind) (ht : P.underlying T = some (.array n e)) (he : P.underlying e = some (.int k')) (hi : (P.info? e).map (·.size) = some 1) (hag : (isAgg e).run P w = .ok false w)
    (xs ys : List Int) (hx : xs.length = n) (hy : ys.length = n) : (Op.equalIn (d + 2) T (.agg (intsC k xs)) (.agg (intsC k ys))).run P w = .ok (decide (xs = ys)) w := by
  cases hq : P.info? e with
  | none => simp [hq] at hi
  | some i =>
    have hs : P.cellsOf e = 1 := by unfold Program.cellsOf; rw [hq]; simpa [hq] using hi
    rw [run_equalIn_array w (d + 1) _ _ ht hq, hs, run_eqItems_ints w d e k k' he hag xs ys _ fun j hj => by rw [hx, hy]; exact ⟨List.mem_range.1 hj, List.mem_range.1 hj⟩]
    congr 1
    rw [Bool.eq_iff_iff, List.all_eq_true, decide_eq_true_iff]
    constructor
    · intro h
      apply List.ext_getElem (by omega)
      intro j h1 h2
      have := h j (List.mem_range.2 (by omega))
      simpa [h1, h2] using this
    · rintro rfl j _
      simp
end
end Go.Proofs.Ytcdnbidenaljlaa
