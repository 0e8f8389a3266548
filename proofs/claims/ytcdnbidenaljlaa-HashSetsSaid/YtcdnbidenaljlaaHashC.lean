/- Ids: the program's Compare (bytes.Compare is the machine's own). -/
import Derived.Test.YtcdnbidenaljlaaHashR
import Derived.Test.YtcdnbidenaljlaaArr
import Derived.Lib.BytesEntry
import Derived.Laws.Externs
namespace Go.Proofs.Ytcdnbidenaljlaa
open Go.RowKit

theorem bytesOf_nums (l : List UInt8) : Lib.bytesOf (l.map fun b => (b.toNat : Int)) = l := by
  unfold Lib.bytesOf
  rw [List.map_map]
  exact (List.map_congr_left fun b _ => by simp).trans (List.map_id l)
theorem run_bytesOf {P : Program} (w : World) (A : Option Addr) (l : List UInt8) (c : Nat) (h : RdC w A (u8v l)) : (Extern.Bytes.bytesOf (.slice A l.length c)).run P w = .ok (bstr l) w := by
  cases A with
  | none =>
    have : l = [] := by
      cases l with
      | nil => rfl
      | cons b l => obtain ⟨_, e, _⟩ := h 0 _ (u8v_get (b :: l) 0 (by simp)); cases e
    subst this
    rfl
  | some ad =>
    have := Lib.run_loadBytesX (P := P) w (l.map fun b => (b.toNat : Int)) ad .empty (fun j x hj => by
      have hjl : j < l.length := by have := (List.getElem?_eq_some_iff.1 hj).1; simpa using this
      obtain ⟨_, e, hc⟩ := cell_of_rd h j hjl
      cases e
      rw [hc]
      simp [hjl] at hj
      rw [hj])
    rw [List.length_map, bytesOf_nums] at this
    simpa [Extern.Bytes.bytesOf, bstr] using this
theorem run_cmp {P : Program} (w : World) (A B : Option Addr) (a b : List UInt8) (c d : Nat) (ha : RdC w A (u8v a)) (hb : RdC w B (u8v b)) : (Extern.BytealgCompare.compare #[.slice A a.length c, .slice B b.length d]).run P w = .ok (.int .i64 (Lib.compareBytes a b)) w := by
  change Sem.run P (do pure (goInt (Extern.BytealgCompare.cmp (← Extern.Bytes.bytesOf (.slice A a.length c)) (← Extern.Bytes.bytesOf (.slice B b.length d))))) w = _
  simp only [Sem.run_bind, run_bytesOf w A a c ha, run_bytesOf w B b d hb, Sem.run_pure, Result.andThen]
  rw [Lib.cmp_eq]
  rfl
theorem bcompare_any (A B : Option Addr) (n m c d : Nat) (a b : List UInt8) (hn : a.length = n) (hm : b.length = m) (w : World) (ha : RdC w A (u8v a)) (hb : RdC w B (u8v b)) :
    Calls Try.prog 20 #[.slice A n c, .slice B m d] w fun e w' => e = .returned (.int .i64 (Lib.compareBytes a b)) ∧ w = w' := by
  subst hn hm
  go_enter Try.func20, Try.ntmps20
  go_wp2
  rw [run_callFunc_extern Try.func26 (by kernel_rfl) (by kernel_rfl) (by kernel_rfl) (e := Extern.BytealgCompare.compare) (by kernel_rfl), run_cmp w A B a b c d ha hb]
  simp only [Result.andThen]
  rw [Oper.upon_value]
  go_wp2
  go_ret
  exact ⟨rfl, rfl⟩
theorem rd_id {w : World} {g : Nat} {l : List UInt8} {t : TypeId} (h : w.heap[g]? = some (.cells (idC l) t (0, 0))) : RdC w (some ⟨g, 0, none⟩) (u8v l) := fun j u hj => by
  refine ⟨_, rfl, ?_⟩
  rw [addr_add_plain, Nat.zero_add, cell_of_row _ _ j _ _ _ h]
  simpa [idC] using hj
theorem idC_inj {a b : List UInt8} (h : idC a = idC b) : a = b := u8v_inj (by simpa [idC] using h)
theorem idC_ints (l : List UInt8) : idC l = intsC .u8 (l.map fun b => (b.toNat : Int)) := by simp [idC, intsC, u8v]
theorem run_eq_id (W : World) (a b : List UInt8) (ha : a.length = 32) (hb : b.length = 32) : (Op.equalIn 10000 23 (.agg (idC a)) (.agg (idC b))).run Try.prog W = .ok (decide (a = b)) W := by
  rw [idC_ints, idC_ints, run_eq_ints W 9998 23 5 32 .u8 .u8 Try.underlying23 Try.underlying5 (by kernel_rfl) (Try.isAgg5 W) _ _ (by simpa using ha) (by simpa using hb)]
  congr 1
  rw [Bool.eq_iff_iff, decide_eq_true_iff, decide_eq_true_iff]
  refine ⟨fun h => ?_, fun h => by rw [h]⟩
  have : idC a = idC b := by rw [idC_ints, idC_ints, h]
  exact idC_inj this
theorem size_id : (Try.prog.info? 23).map (·.size) = some 32 := by kernel_rfl
set_option maxHeartbeats 1000000 in
theorem compare_any (a b : List UInt8) (ha : a.length = 32) (hb : b.length = 32) (w : World) :
    Calls Try.prog 9 #[.agg (idC a), .agg (idC b)] w fun e w' => e = .returned (.int .i64 (Lib.compareBytes a b)) ∧ Below w.heap.size w w' := by
  go_enter Try.func9, Try.ntmps9
  have hb1 : Below w.heap.size w ((w.alloc (.cells (idC a) 23)).alloc (.cells (idC b) 23)) := ((Below.refl _ w).alloc (Nat.le_refl _) _).alloc (by simp) _
  have hg1 : ((w.alloc (.cells (idC a) 23)).alloc (.cells (idC b) 23)).heap[w.heap.size]? = some (.cells (idC a) 23 (0, 0)) := heap_alloc2_old _ _ _
  have hg2 : ((w.alloc (.cells (idC a) 23)).alloc (.cells (idC b) 23)).heap[w.heap.size + 1]? = some (.cells (idC b) 23 (0, 0)) := heap_alloc2_new _ _ _
  have hsa : (Try.prog.info? 23).map (·.size) = some (idC a).size := by rw [idC_size, ha]; exact size_id
  have hsb : (Try.prog.info? 23).map (·.size) = some (idC b).size := by rw [idC_size, hb]; exact size_id
  have heq := run_eq_id ((w.alloc (.cells (idC a) 23)).alloc (.cells (idC b) 23)) a b ha hb
  by_cases hab : a = b
  · subst hab
    simp only [decide_true] at heq
    go_wp2_with (first
      | (with_reducible refine wpList_load_row rfl 23 (.tmp 2) rfl _ rfl 23 (idC a) _ _ hg1 Try.underlying23 rfl hsa ?_)
      | (with_reducible refine wpList_load_row rfl 23 (.tmp 3) rfl _ rfl 23 (idC a) _ _ hg2 Try.underlying23 rfl hsb ?_)
      | fail)
    go_ret
    exact ⟨by rw [cmp_same]; rfl, hb1⟩
  · simp only [hab, decide_false] at heq
    go_wp2_with (first
      | (with_reducible refine wpList_load_row rfl 23 (.tmp 2) rfl _ rfl 23 (idC a) _ _ hg1 Try.underlying23 rfl hsa ?_)
      | (with_reducible refine wpList_load_row rfl 23 (.tmp 3) rfl _ rfl 23 (idC b) _ _ hg2 Try.underlying23 rfl hsb ?_)
      | fail)
    obtain ⟨w1, hw1⟩ : ∃ w1, w1 = (w.alloc (.cells (idC a) 23)).alloc (.cells (idC b) 23) := ⟨_, rfl⟩
    rw [← hw1] at hb1 hg1 hg2 ⊢
    clear hw1 heq
    have q : ∀ W, Below w1.heap.size w1 W → Calls Try.prog 20 #[.slice (some ⟨w.heap.size, 0, none⟩) 32 32, .slice (some ⟨w.heap.size + 1, 0, none⟩) 32 32] W fun e w' => e = .returned (.int .i64 (Lib.compareBytes a b)) ∧ W = w' := fun W hW =>
      bcompare_any _ _ 32 32 32 32 a b ha hb W ((rd_id hg1).below hW) ((rd_id hg2).below hW)
    go_region_held3 (fun W => Below w1.heap.size w1 W) ((repeat first | exact Below.refl _ _ | assumption | apply Below.drew)) (first
      | (go_at_call 20; (with_reducible refine (q _ ?_).mono ?_); (repeat first | exact Below.refl _ _ | assumption | apply Below.drew); rintro e w' ⟨rfl, rfl⟩)
      | fail)
    all_goals
      go_wp2
      go_ret
      exact ⟨rfl, hb1.drew⟩
end Go.Proofs.Ytcdnbidenaljlaa
