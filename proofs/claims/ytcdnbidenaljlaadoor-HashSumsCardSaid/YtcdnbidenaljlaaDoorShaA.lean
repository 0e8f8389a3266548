/- hash: slices.Clip, slices.Clone of bytes; an append onto a clipped slice; a Running, as it lies; Len. -/
import Derived.Test.YtcdnbidenaljlaaDoorShaM
import Derived.Test.YtcdnbidenaljlaaDoorApp
import Derived.Test.YtcdnbidenaljlaaDoorHashT
import Derived.Deep.MidRow
namespace Go.Proofs.YtcdnbidenaljlaaDoor
open Go.RowKit

section
variable {P : Program} {t e : TypeId} {size bytes : Nat} {z : Value}
/-- 'append' onto a slice without room: what is read behind it. -/
theorem run_app_clip (E : Elt P t e size bytes z) (ty : TypeId) (w : World) (A : Option Addr) (n : Nat) (olds : List Value) (hlo : olds.length = n * size) (hro : RdC w A olds) (hA : A = none → n = 0) (A2 : Option Addr) (m c : Nat) (news : List Value)
    (hl : news.length = m * size) (hr : RdC w A2 news) (hmc : m ≤ c) (h63 : n + m ≤ maxLen) (hbytes : (n + m) * bytes ≤ 140737488355328) :
    ∃ A' c' w', (Builtin.append_ #[t, t] ty #[.slice A n n, .slice A2 m c]).run P w = .ok (.slice A' (n + m) c') w' ∧ RdC w' A' (olds ++ news) ∧ n + m ≤ c' ∧ c' ≤ maxLen ∧ (A' = none → n + m = 0) ∧ (∀ ad, A' = some ad → w.heap.size ≤ ad.block ∨ A = some ad ∧ m = 0) ∧ Below w.heap.size w w' := by
  rcases Nat.eq_zero_or_pos m with rfl | hm
  · obtain ⟨i, hi, hz, hz1, hz2⟩ := info_parts E.hi
    have hn : news = [] := List.eq_nil_of_length_eq_zero (by simpa using hl)
    subst hn
    refine ⟨A, n, w, ?_, by simpa using hro, by omega, by omega, by simpa using hA, fun ad h => .inr ⟨h, rfl⟩, Below.refl _ _⟩
    cases A with
    | none =>
      have := hA rfl
      subst this
      cases A2 <;> simp [Builtin.append_, run_underlying E.ht, sizeOf, typeInfo, hi, Builtin.lenOf, Builtin.firstCells, loadCells, loadCellsFrom]
    | some b => cases A2 <;> simp [Builtin.append_, run_underlying E.ht, sizeOf, typeInfo, hi, Builtin.lenOf, Builtin.firstCells, storeCells, loadCells, loadCellsFrom]
  · have hA2 : ∃ b, A2 = some b := by
      have h0 : 0 < news.length := by rw [hl]; exact Nat.mul_pos hm E.hsz
      obtain ⟨ad, h, _⟩ := hr 0 _ (List.getElem?_eq_getElem h0)
      exact ⟨ad, h⟩
    obtain ⟨b, rfl⟩ := hA2
    obtain ⟨v', w', hrun, ho, hb⟩ := run_app_new E ty w A n n olds hlo hro (fun h => ⟨hA h, hA h⟩) b m c news hl hr (by omega) h63 hbytes
    obtain ⟨A', c', rfl, h1, h2, h3, h4⟩ := RdC.of_own ho
    refine ⟨A', c', w', hrun, h3, h1, h2, fun h => ?_, fun ad h => .inl (h4 ad h), hb⟩
    rcases ho.2 with ⟨h5, h6⟩ | ⟨g, cap, cur, h5, _⟩
    · exact h6
    · cases h5; cases h
theorem wpList_app_clip (E : Elt P t e size bytes z) {w : World} {ops : Array Oper} {rest : List Oper} {o : Oper} {a : Act} {Q : Exit → Act → World → Prop} (hgd : o.guard = none) (s x : Operand)
    (ho : o.op = .call { callee := .builtin .append, args := #[s, x], argTypes := #[t, t] })
    (A : Option Addr) (n : Nat) (olds : List Value) (hs : a.eval s = .slice A n n) (hlo : olds.length = n * size) (hro : RdC w A olds) (hA : A = none → n = 0) (A2 : Option Addr) (m c : Nat) (news : List Value) (hx : a.eval x = .slice A2 m c)
    (hl : news.length = m * size) (hr : RdC w A2 news) (hmc : m ≤ c) (h63 : n + m ≤ maxLen) (hbytes : (n + m) * bytes ≤ 140737488355328)
    (h : ∀ A' c' w', RdC w' A' (olds ++ news) → n + m ≤ c' → c' ≤ maxLen → (A' = none → n + m = 0) → (∀ ad, A' = some ad → w.heap.size ≤ ad.block ∨ A = some ad ∧ m = 0) → Below w.heap.size w w' → wpList P ops Q rest (a.put o.dst (.slice A' (n + m) c')) w') : wpList P ops Q (o :: rest) a w :=
  wpList_plain hgd fun _ hK => by
    obtain ⟨A', c', w', hrun, h1, h2, h3, h4, h5, h6⟩ := run_app_clip E o.type w A n olds hlo hro hA A2 m c news hl hr hmc h63 hbytes
    unfold Oper.wp
    simp [execOp, ho, resolve, invoke, builtin, hs, hx, hrun, Result.andThen]
    exact hK _ _ (h A' c' w' h1 h2 h3 h4 h5 h6)
/-- A part of a variable is stored: an array within a struct. -/
theorem wp_store_part {o : Oper} {a : Act} {w : World} {K : Act → World → Prop} {Q : Exit → Act → World → Prop} (ty : TypeId) (x y : Operand) (ho : o.op = .store ty x y) (g off : Nat) (hx : a.eval x = .pointer (some ⟨g, off, none⟩)) (cs : Array Value) (hy : a.eval y = .agg cs)
    (cur : Array Value) (t : TypeId) (hg : w.heap[g]? = some (.cells cur t (0, 0))) (hs : off + cs.size ≤ cur.size) (hi : (P.info? ty).map (·.size) = some cs.size) (h1 : ∀ u ∈ cs.toList, u.oneCell' = true)
    (hK : K (a.put o.dst undef) (w.setRow g (cur.toList.take off ++ cs.toList ++ cur.toList.drop (off + cs.size)).toArray)) : o.wp P a w K Q := by
  have hrun : (storeCells ⟨g, off, none⟩ cs.toList 0).run P w = .ok () (w.setRow g (cur.toList.take off ++ cs.toList ++ cur.toList.drop (off + cs.size)).toArray) := by
    have := run_storeCells_at P g off t cs.toList 0 cur w hg (by simpa using hs) h1
    rw [this]
    simp
  cases hq : P.info? ty with
  | none => simp [hq] at hi
  | some i =>
    have hsz : cs.size = i.size := by simp [hq] at hi; omega
    unfold Oper.wp execOp
    simp only [ho, hx, hy, Instr.storeAt, Instr.sureAddr, Sem.run_bind, Sem.run_pure, Result.andThen_ok, storeVar, sizeOf, typeInfo, hq]
    simp [hq, Value.cells, hsz, hrun]
    rw [← hsz]
    simp only [List.append_assoc] at hK ⊢
    exact hK
theorem step_store_part {ops : Array Oper} {X : Prop} {o : Oper} {a : Act} {w : World} {K : Act → World → Prop} {Q : Exit → Act → World → Prop} (hgd : o.guard = none) (ty : TypeId) (x y : Operand) (ho : o.op = .store ty x y) (g off : Nat) (hx : a.eval x = .pointer (some ⟨g, off, none⟩)) (cs : Array Value) (hy : a.eval y = .agg cs)
    (cur : Array Value) (t : TypeId) (hg : w.heap[g]? = some (.cells cur t (0, 0))) (hs : off + cs.size ≤ cur.size) (hi : (P.info? ty).map (·.size) = some cs.size) (h1 : ∀ u ∈ cs.toList, u.oneCell' = true)
    (hK : K (a.put o.dst undef) (w.setRow g (cur.toList.take off ++ cs.toList ++ cur.toList.drop (off + cs.size)).toArray)) : if Region.wanted o (yielded ops a.tmps) = true then o.wp P a w K Q else X := by
  have hw : Region.wanted o (yielded ops a.tmps) = true := by simp [Region.wanted, hgd]
  rw [if_pos hw]
  exact wp_store_part ty x y ho g off hx cs hy cur t hg hs hi h1 hK
theorem wpList_store_part {ops : Array Oper} {rest : List Oper} {Q : Exit → Act → World → Prop} {o : Oper} {a : Act} {w : World} (hgd : o.guard = none) (ty : TypeId) (x y : Operand) (ho : o.op = .store ty x y) (g off : Nat) (hx : a.eval x = .pointer (some ⟨g, off, none⟩)) (cs : Array Value) (hy : a.eval y = .agg cs)
    (cur : Array Value) (t : TypeId) (hg : w.heap[g]? = some (.cells cur t (0, 0))) (hs : off + cs.size ≤ cur.size) (hi : (P.info? ty).map (·.size) = some cs.size) (h1 : ∀ u ∈ cs.toList, u.oneCell' = true)
    (h : wpList P ops Q rest (a.put o.dst undef) (w.setRow g (cur.toList.take off ++ cs.toList ++ cur.toList.drop (off + cs.size)).toArray)) : wpList P ops Q (o :: rest) a w :=
  wpList_plain hgd fun K hK => wp_store_part ty x y ho g off hx cs hy cur t hg hs hi h1 (hK _ _ h)
end
theorem clip_any (A : Option Addr) (n c : Nat) (hnc : n ≤ c) (w : World) :
    Calls Tryd.prog 26 #[.slice A n c] w fun e w' => e = .returned (.slice A n n) ∧ w = w' := by
  go_enter Tryd.func26, Tryd.ntmps26
  go_wp2
  go_ret
  exact ⟨rfl, rfl⟩
set_option maxRecDepth 20000 in
set_option maxHeartbeats 1000000 in
theorem clone_any (A : Option Addr) (n c : Nat) (l : List UInt8) (hl : l.length = n) (hnc : n ≤ c) (hn : n ≤ 1000000) (w : World) (hr : RdC w A (u8v l)) :
    Calls Tryd.prog 28 #[.slice A n c] w fun e w' => ∃ v', e = .returned v' ∧ w'.ownsRow w.heap.size 5 1 v' n (u8v l) ∧ Below w.heap.size w w' := by
  have q : ∀ (w : World) (a : Option Addr) (n c n' c' : Nat), (binOp .eql 22 (.slice a n c) (.slice none n' c')).run Tryd.prog w = .ok (.bool a.isNone) w := fun w a n c n' c' => Lib.run_eql_slice_nil w 22 5 a n c n' c' Tryd.underlying22
  cases A with
  | none =>
    have h0 : l = [] := by
      cases l with
      | nil => rfl
      | cons x l => obtain ⟨_, h, _⟩ := hr 0 _ (u8v_get (x :: l) 0 (by simp)); cases h
    subst h0
    obtain rfl : n = 0 := by simpa using hl.symm
    go_enter Tryd.func28, Tryd.ntmps28
    go_wp2
    go_ret
    exact ⟨_, rfl, ⟨rfl, .inl ⟨rfl, rfl⟩⟩, Below.refl _ _⟩
  | some a =>
    obtain ⟨w1, hw1⟩ : ∃ w1, w1 = w.alloc (.cells #[] 5) := ⟨_, rfl⟩
    have hb1 : Below w.heap.size w w1 := by rw [hw1]; exact (Below.refl _ _).alloc (Nat.le_refl _) _
    have ho1 : w1.ownsRow w.heap.size 5 1 (.slice (some ⟨w.heap.size, 0, none⟩) 0 0) 0 [] := ⟨rfl, .inr ⟨w.heap.size, 0, #[], rfl, Nat.le_refl _, by rw [hw1]; exact heap_alloc_new _ _, by omega, by unfold maxLen; omega, rfl, rfl⟩⟩
    have hr1 := hr.below hb1
    have HW := Lib.hid hw1
    have HL := Lib.hid hl
    clear hw1 hl
    go_enter Tryd.func28, Tryd.ntmps28
    go_wp2_with (first
      | (at_builtin; rw [← HW.out]; refine wpList_app elt8 rfl (.tmp 5) (.tmp 6) rfl w.heap.size _ 0 [] rfl ho1 (some a) n c (u8v l) rfl (by rw [u8v_length, HL.out]; omega) hr1 (u8v_one l) (by unfold maxLen; omega) (by omega) hb1.size ?_; intro v' w' ho hg)
      | fail)
    go_ret
    rw [Nat.zero_add] at ho
    exact ⟨v', rfl, ho, below_grown hb1 ho1 hg hb1.size (Nat.le_refl _)⟩
end Go.Proofs.YtcdnbidenaljlaaDoor
