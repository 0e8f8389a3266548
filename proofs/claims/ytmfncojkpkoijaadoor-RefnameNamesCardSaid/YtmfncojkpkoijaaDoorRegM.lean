/- A region that draws its order, told by an invariant over which operations are over. No program in sight. -/
import Derived.Test.YtmfncojkpkoijaaDoorRegS
namespace Go.Proofs.YtmfncojkpkoijaaDoor
open Go.RowKit

namespace Reg
section
variable {P : Program} {ops : Array Oper} {Q : Exit → Act → World → Prop} {a0 : Act} {w0 : World}
theorem region_inv {id : Nat} (hm : P.follows .mixedOrders = true) (J : (Nat → Bool) → Act → World → Prop) (h0 : J (fun _ => false) a0 w0.drew)
    (hdp : ((List.range ops.size).all fun k => (dp ops k).all fun j => decide (j < k)) = true)
    (hstep : ∀ k, k < ops.size → ∃ o, ops[k]? = some o ∧ o.guard = none ∧ ∀ (b : Nat → Bool) (a : Act) (w : World), J b a w → b k = false → (∀ j ∈ dp ops k, b j = true) → ∀ K : Act → World → Prop, (∀ a' w', J (fun j => if j = k then true else b j) a' w' → K a' w') → o.wp P a w K Q)
    (hend : ∀ b a w, J b a w → (∀ k, k < ops.size → b k = true) → Q .normal a w) : (Code.region id ops true).wp P Q a0 w0 := by
  have hdp' : ∀ k, k < ops.size → ∀ j ∈ dp ops k, j < k := fun k hk j hj => by
    have h1 := List.all_eq_true.1 hdp k (List.mem_range.2 hk)
    exact of_decide_eq_true (List.all_eq_true.1 h1 j hj)
  have main : ∀ (fuel : Nat) (listed : Array Bool) (a : Act) (w : World), listed.size = ops.size → J (fun k => listed.getD k false) a w → cnt (List.range ops.size) listed ≤ fuel → wpAny P .any ops Q fuel listed a w := by
    intro fuel
    induction fuel with
    | zero =>
      intro listed a w hsz hJ hf
      have hall : ∀ i, i < ops.size → listed.getD i false = true := fun i hi => by
        cases hl : listed.getD i false with
        | true => rfl
        | false =>
          have := (cnt_set (List.range ops.size) listed i).2 (List.mem_range.2 hi) (by omega) hl
          omega
      refine ⟨List.eq_nil_iff_forall_not_mem.2 fun i hi => ?_, hend _ a w hJ hall⟩
      obtain ⟨h1, o, ho, _⟩ := mem_ready.1 hi
      have his := (Array.getElem?_eq_some_iff.1 ho).1
      have := hall i his
      simp [show i < listed.size by omega] at h1 this
      rw [h1] at this
      cases this
    | succ fuel ih =>
      intro listed a w hsz hJ hf
      refine ⟨fun hr => hend _ a w hJ ?_, fun i hi => ?_⟩
      · intro i
        induction i using Nat.strongRecOn with
        | ind i ih2 =>
          intro his
          cases hl : listed.getD i false with
          | true => rfl
          | false =>
            exfalso
            obtain ⟨o, ho, _⟩ := hstep i his
            have : i ∈ Region.ready .any ops listed := mem_ready.2 ⟨by
              simp [show i < listed.size by omega] at hl ⊢
              exact hl, o, ho, fun e he hbd => by
                have hj : e.on ∈ dp ops i := (dp_of ho _).2 ⟨e, he, hbd, rfl⟩
                have := hdp' i his _ hj
                exact ih2 _ this (by omega)⟩
            rw [hr] at this
            cases this
      · obtain ⟨h1, o, ho, hdd⟩ := mem_ready.1 hi
        have his := (Array.getElem?_eq_some_iff.1 ho).1
        have hunf : listed.getD i false = false := by
          simp [show i < listed.size by omega] at h1 ⊢
          exact h1
        obtain ⟨o', ho', hgd, hop⟩ := hstep i his
        rw [ho] at ho'
        cases ho'
        have hc := (cnt_set (List.range ops.size) listed i).2 (List.mem_range.2 his) (by omega) hunf
        unfold wpOp
        rw [ho]
        simp only
        rw [if_pos (wanted_none hgd)]
        refine .inl (hop _ a w hJ hunf (fun j hj => ?_) _ fun a' w' hJ' => ih _ _ _ (by rw [Array.size_setIfInBounds]; exact hsz) ?_ (by omega))
        · obtain ⟨e, he, hb, rfl⟩ := (dp_of ho j).1 hj
          exact hdd e he hb
        · have e : (fun k => (listed.setIfInBounds i true).getD k false) = fun j => if j = i then true else listed.getD j false := by
            funext j
            by_cases hji : j = i
            · subst hji; rw [if_pos rfl]; simp [show j < listed.size by omega]
            · rw [if_neg hji, getD_set_ne false (Ne.symm hji)]
          rw [e]
          exact hJ'
  refine wp_region_any hm (main _ _ _ _ (by simp) ?_ ?_)
  · have e : (fun k => (Array.replicate ops.size false).getD k false) = fun _ => false := by
      funext k
      exact rep_false _ _
    rw [e]
    exact h0
  · unfold cnt
    have := List.length_filter_le (fun i => !(Array.replicate ops.size false).getD i false) (List.range ops.size)
    rwa [List.length_range] at this
end
end Reg
end Go.Proofs.YtmfncojkpkoijaaDoor
