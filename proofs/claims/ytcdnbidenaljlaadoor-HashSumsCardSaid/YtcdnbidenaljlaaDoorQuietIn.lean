/- A region that draws its order and only reads, within a round of a range over a function: one walk of the lexical order. No program in sight. -/
import Derived.Test.YtcdnbidenaljlaaDoorRegIn
import Derived.Deep.QuietTactic
import Derived.BigQuiet
namespace Go.Proofs.YtcdnbidenaljlaaDoor
open Go.RowKit

theorem region_quiet_in {P : Program} {Q : Exit → Act → World → Prop} {a : Act} {w : World} {lr n id : Nat} {l : List Oper} (hd : Reg.noDefer l.toArray = true) (hQ : ¬ LetsOut Q) (hm : P.follows .mixedOrders = true) (hB : Region.lexB .any l.toArray = true)
    (h : wpQuiet P l.toArray (fun w' => ∃ n, w' = w.drewN n) (fun a' => ∀ w', (∃ n, w' = w.drewN n) → Q .normal a' w') l a) : (Code.region id l.toArray true).wpIn (Fence.wide.inRound lr) n P Q a w := by
  simp only [Region.lexB, Bool.and_eq_true] at hB
  refine wpIn_region_any hm (Reg.any_in (Reg.noDefer_spec hd) hQ _ _ _ _ (wpAny_of_quiet (C := fun w' => ∃ n, w' = w.drewN n) (Q := fun a' => ∀ w', (∃ n, w' = w.drewN n) → Q .normal a' w') (fun _ w' hw' h => h w' hw') _ _ _ _ ⟨1, rfl⟩ ?_))
  have := wpAnyQ_lex (C := fun w' => ∃ n, w' = w.drewN n) (md := .any) hB.1 l 0 (Array.replicate l.toArray.size false) a (by simp) (by simpa using hB.2) (by simpa using h)
  simpa using this
end Go.Proofs.YtcdnbidenaljlaaDoor
