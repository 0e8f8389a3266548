/- A region that draws its order, within the round of a range over a function. No program in sight. -/
import Derived.Test.YtcdnbidenaljlaaDoorRangeR
import Derived.Test.YtcdnbidenaljlaaDoorRegR
import Derived.OrdersIn
namespace Go.Proofs.YtcdnbidenaljlaaDoor
open Go.RowKit
namespace Reg

section
variable {P : Program} {ops : Array Oper} {Q : Exit → Act → World → Prop}
/-- The operations of a function's region, wherever it stands. -/
def find2 (id : Nat) : Code → Option (Array Oper)
  | .region i ops _ => if i = id then some ops else none
  | .seq a b => (find2 id a).orElse fun _ => find2 id b
  | .cond _ a b => (find2 id a).orElse fun _ => find2 id b
  | .block _ a => find2 id a
  | .loop a => find2 id a
  | .scope a => find2 id a
  | .rangeFunc _ _ a b => (find2 id a).orElse fun _ => find2 id b
  | _ => none
def opsOf2 (f : Func) (id : Nat) : Array Oper := ((f.body.bind (find2 id))).getD #[]
def noDefer (ops : Array Oper) : Bool := ops.toList.all fun o => match o.op with | .defer _ => false | _ => true
theorem noDefer_spec {ops : Array Oper} (h : noDefer ops = true) : ∀ o ∈ ops.toList, ∀ c, o.op ≠ .defer c := fun o ho c e => by
  have := List.all_eq_true.1 h o ho
  simp only [e] at this
  cases this
theorem rows_wide {n : Nat} {row : String} {args : Array Value} {w : World} {R : Value → World → Prop} (h : Rows P row args w R) : RowsIn Fence.wide n P row args w R :=
  fun c cs _ => let ⟨v, w', r, s⟩ := h c cs; ⟨v, w', r, stepsIn_wide.2 s⟩
theorem op_in {l n : Nat} {o : Oper} {a : Act} {w : World} {K : Act → World → Prop} (hd : ∀ c, o.op ≠ .defer c) (h : o.wp P a w K Q) : o.wpIn (Fence.wide.inRound l) n P a w K Q := by
  refine ⟨fun _ _ => trivial, ?_⟩
  show o.uponIn (Fence.wide.inRound l) n P a K Q ((o.semAt (some l) a.eval).run P w)
  rw [Oper.semAt_some l _ o hd]
  unfold Oper.wp at h
  generalize (execOp a.eval o).run P w = r at *
  cases r with
  | ok nx w' =>
    cases nx with
    | value v => exact h
    | skip => exact h
    | defer d => exact h
    | enter f args => exact ⟨fun e => (by cases e), callsIn_wide.2 h⟩
    | row row args => exact ⟨fun e => (by cases e), rows_wide h⟩
    | _ => exact h.elim
  | halt e w' =>
    cases e with
    | panic v => exact h
    | _ => exact h.elim
theorem any_in {l n : Nat} (hd : ∀ o ∈ ops.toList, ∀ c, o.op ≠ .defer c) (hQ : ¬ LetsOut Q) : ∀ (fuel : Nat) (listed : Array Bool) (a : Act) (w : World), wpAny P .any ops Q fuel listed a w → wpAnyIn (Fence.wide.inRound l) n P .any ops Q fuel listed a w := by
  intro fuel
  induction fuel with
  | zero => intro listed a w h; exact h
  | succ fuel ih =>
    intro listed a w h
    refine ⟨h.1, fun i hi => ?_⟩
    have h2 := h.2 i hi
    unfold wpOp at h2
    unfold wpOpIn
    cases ho : ops[i]? with
    | none => rw [ho] at h2; exact ih _ _ _ h2
    | some o =>
      rw [ho] at h2
      simp only at h2 ⊢
      split
      · rename_i hw
        rw [if_pos hw] at h2
        rcases h2 with h2 | h2
        · exact op_in (hd o (by have := Array.mem_of_getElem? ho; simpa using this)) (Oper.wp_mono (fun a w h => ih _ _ _ h) h2)
        · exact absurd h2.2 hQ
      · rename_i hw
        rw [if_neg hw] at h2
        exact ⟨fun _ _ => trivial, ih _ _ _ h2⟩
end
section
variable {P : Program} {ops : Array Oper} {Q : Exit → Act → World → Prop} {a0 : Act} {w0 : World}
theorem region_rel_in {l n id : Nat} (hd : ∀ o ∈ ops.toList, ∀ c, o.op ≠ .defer c) (hQ : ¬ LetsOut Q) (hm : P.follows .mixedOrders = true) (U : List Nat) (R : Nat → Value → World → Prop) (D : Nat → Nat → Value → Value → Prop) (hc : chk ops a0.tmps.size U = true) (hst : ∀ i u w w', R i u w → Below w.heap.size w w' → R i u w') (hop : ∀ i ∈ U, OpOK P ops a0 w0 R D i)
    (hend : ∀ (v : Nat → Value) (w : World), Below w0.heap.size w0 w → (∀ i ∈ U, R i (v i) w) → (∀ i ∈ U, ∀ j ∈ U, i ≠ j → D i j (v i) (v j)) → ∀ fuel, cnt (List.range ops.size) (lst ops U) ≤ fuel → wpAny P .any ops Q fuel (lst ops U) (gfr ops a0 v U) w) :
    (Code.region id ops true).wpIn (Fence.wide.inRound l) n P Q a0 w0 := by
  refine wpIn_region_any hm (any_in hd hQ _ _ _ _ (region_go hc hst hop hend _ _ _ _ ⟨by simp, fun i hi => ?_, fun i hi => ?_, rfl, rfl, fun t _ => rfl, fun i _ hi => ?_, fun i _ j _ _ hi => ?_, (Below.refl _ w0).drew⟩ ?_))
  · rw [rep_false] at hi; cases hi
  · rw [rep_false] at hi; cases hi
  · rw [rep_false] at hi; cases hi
  · rw [rep_false] at hi; cases hi
  · unfold cnt
    have := List.length_filter_le (fun i => !(Array.replicate ops.size false).getD i false) (List.range ops.size)
    rwa [List.length_range] at this
end
end Reg
end Go.Proofs.YtcdnbidenaljlaaDoor
