/- '[]byte("..")' of a constant string, wherever its row lies. No program in sight. -/
import Derived.Test.YtcdnbidenaljlaaDoorMHashNames2
import Derived.Lib.SlBytesConst
namespace Go.Proofs.YtcdnbidenaljlaaDoor
open Go.RowKit

theorem run_convert_mark {P : Program} (W : World) (t e : TypeId) (C : Array Value) (b n c : Nat) (ht : P.underlying t = some (.slice e)) (he : P.underlying e = some (.int .u8)) (hb : W.heap[b]? = some (.cells C e (0, 0))) :
    ∃ W', (convert t t (.slice (some ⟨b, 0, none⟩) n c)).run P W = .ok (.slice (some ⟨b, 0, none⟩) n c) W' ∧ W'.heap[b]? = some (.cells C e (C.size, C.size + 1)) ∧ (∀ k, k ≠ b → W'.heap[k]? = W.heap[k]?) ∧ W'.heap.size = W.heap.size ∧ W'.os = W.os ∧ W'.tape = W.tape ∧ W'.output = W.output := by
  have hsh : W.shape? b = some (e, C.size) := by
    unfold World.shape?
    rw [hb]
  refine ⟨W.freeze ⟨b, C.size, none⟩ 1, ?_, ?_, fun k hk => ?_, ?_, ?_, ?_, ?_⟩
  · simp [convert, run_underlying ht, run_underlying he, markStringish, hsh]
  · unfold World.freeze
    rw [if_neg (by decide)]
    simp [Array.getElem?_modify, hb]
  · unfold World.freeze
    rw [if_neg (by decide)]
    simp [Array.getElem?_modify, Ne.symm hk]
  · unfold World.freeze
    rw [if_neg (by decide)]
    simp
  · unfold World.freeze
    rw [if_neg (by decide)]
  · unfold World.freeze
    rw [if_neg (by decide)]
  · unfold World.freeze
    rw [if_neg (by decide)]
end Go.Proofs.YtcdnbidenaljlaaDoor
