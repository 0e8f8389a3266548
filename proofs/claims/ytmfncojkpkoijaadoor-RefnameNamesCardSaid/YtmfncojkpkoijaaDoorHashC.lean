/- Ids: the program's Compare (bytes.Compare is the machine's own). -/
import Derived.Test.YtmfncojkpkoijaaDoorHashR
import Derived.Test.YtmfncojkpkoijaaDoorArr
import Derived.Lib.BytesEntry
import Derived.Laws.Externs
namespace Go.Proofs.YtmfncojkpkoijaaDoor
open Go.RowKit

theorem bytesOf_nums (l : List UInt8) : Lib.bytesOf (l.map fun b => (b.toNat : Int)) = l := by
  unfold Lib.bytesOf
  rw [List.map_map]
  exact (List.map_congr_left fun b _ => by simp).trans (List.map_id l)
theorem run_bytesOf {P : Program} (w : World) (A : Option Addr) (l : List UInt8) (c : Nat) (h : RdC w A (u8v l)) : (Extern.Bytes.bytesOf (.slice A l.length c)).run P w = .ok (bstr l) w := by
  cases A with
  | none =>
    have : l = [] := by
      cases l with
      | nil => rfl
      | cons b l => obtain ⟨_, e, _⟩ := h 0 _ (u8v_get (b :: l) 0 (by simp)); cases e
    subst this
    rfl
  | some ad =>
    have := Lib.run_loadBytesX (P := P) w (l.map fun b => (b.toNat : Int)) ad .empty (fun j x hj => by
      have hjl : j < l.length := by have := (List.getElem?_eq_some_iff.1 hj).1; simpa using this
      obtain ⟨_, e, hc⟩ := cell_of_rd h j hjl
      cases e
      rw [hc]
      simp [hjl] at hj
      rw [hj])
    rw [List.length_map, bytesOf_nums] at this
    simpa [Extern.Bytes.bytesOf, bstr] using this
theorem run_cmp {P : Program} (w : World) (A B : Option Addr) (a b : List UInt8) (c d : Nat) (ha : RdC w A (u8v a)) (hb : RdC w B (u8v b)) : (Extern.BytealgCompare.compare #[.slice A a.length c, .slice B b.length d]).run P w = .ok (.int .i64 (Lib.compareBytes a b)) w := by
  change Sem.run P (do pure (goInt (Extern.BytealgCompare.cmp (← Extern.Bytes.bytesOf (.slice A a.length c)) (← Extern.Bytes.bytesOf (.slice B b.length d))))) w = _
  simp only [Sem.run_bind, run_bytesOf w A a c ha, run_bytesOf w B b d hb, Sem.run_pure, Result.andThen]
  rw [Lib.cmp_eq]
  rfl
theorem rd_id {w : World} {g : Nat} {l : List UInt8} {t : TypeId} (h : w.heap[g]? = some (.cells (idC l) t (0, 0))) : RdC w (some ⟨g, 0, none⟩) (u8v l) := fun j u hj => by
  refine ⟨_, rfl, ?_⟩
  rw [addr_add_plain, Nat.zero_add, cell_of_row _ _ j _ _ _ h]
  simpa [idC] using hj
theorem idC_inj {a b : List UInt8} (h : idC a = idC b) : a = b := u8v_inj (by simpa [idC] using h)
theorem idC_ints (l : List UInt8) : idC l = intsC .u8 (l.map fun b => (b.toNat : Int)) := by simp [idC, intsC, u8v]
theorem run_eq_id (W : World) (a b : List UInt8) (ha : a.length = 32) (hb : b.length = 32) : (Op.equalIn 10000 30 (.agg (idC a)) (.agg (idC b))).run Tryd.prog W = .ok (decide (a = b)) W := by
  rw [idC_ints, idC_ints, run_eq_ints W 9998 30 5 32 .u8 .u8 Tryd.underlying30 Tryd.underlying5 (by kernel_rfl) (Tryd.isAgg5 W) _ _ (by simpa using ha) (by simpa using hb)]
  congr 1
  rw [Bool.eq_iff_iff, decide_eq_true_iff, decide_eq_true_iff]
  refine ⟨fun h => ?_, fun h => by rw [h]⟩
  have : idC a = idC b := by rw [idC_ints, idC_ints, h]
  exact idC_inj this
theorem size_id : (Tryd.prog.info? 30).map (·.size) = some 32 := by kernel_rfl
end Go.Proofs.YtmfncojkpkoijaaDoor
