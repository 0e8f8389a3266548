/- 'append' on a slice without room: the row is new, whatever it was. No program in sight. -/
import Derived.Test.YtcdnbidenaljlaaB
namespace Go.Proofs.Ytcdnbidenaljlaa
open Go.RowKit

section
variable {P : Program} {t e : TypeId} {size bytes : Nat} {z : Value}
theorem run_app_new (E : Elt P t e size bytes z) (ty : TypeId) (w : World) (A : Option Addr) (n cap : Nat) (olds : List Value) (hlo : olds.length = n * size) (hro : RdC w A olds) (hA : A = none → n = 0 ∧ cap = 0) (a : Addr) (m c : Nat) (news : List Value)
    (hl : news.length = m * size) (hr : RdC w (some a) news) (hg : cap < n + m) (h63 : n + m ≤ maxLen) (hbytes : (n + m) * bytes ≤ 140737488355328) :
    ∃ v' w', (Builtin.append_ #[t, t] ty #[.slice A n cap, .slice (some a) m c]).run P w = .ok v' w' ∧ w'.ownsRow w.heap.size e size v' (n + m) (olds ++ news) ∧ Below w.heap.size w w' := by
  obtain ⟨i, hi, hz, hz1, hz2⟩ := info_parts E.hi
  have hzs := E.hz
  subst hz1 hz2
  have hsmall : n + m ≤ 9223372036854775807 := by simp only [maxLen] at h63; omega
  have hlen : (olds ++ news).length = (n + m) * i.size := by rw [List.length_append, hlo, hl, Nat.add_mul]
  have hnews : ∀ j u, news[j]? = some u → w.cell? (a.add j) = some u := fun j u hj => by obtain ⟨_, e, hc⟩ := hr j u hj; cases e; exact hc
  have grown : ∀ (old : Nat), old < n + m →
      (w.drew.alloc (.cells (olds.toArray ++ news.toArray ++ Builtin.zeroCells z.cells (grownCap w (n + m) old e - (n + m))) e)).ownsRow w.heap.size e i.size
        (.slice (some ⟨w.heap.size, 0, none⟩) (n + m) (grownCap w (n + m) old e)) (n + m) (olds ++ news) ∧
      Below w.heap.size w (w.drew.alloc (.cells (olds.toArray ++ news.toArray ++ Builtin.zeroCells z.cells (grownCap w (n + m) old e - (n + m))) e)) := by
    intro old ho
    have hge := grownCap_ge w (n + m) old e
    have hcm : grownCap w (n + m) old e ≤ maxLen := grownCap_le_maxLen w (n + m) old e h63
    refine ⟨⟨hlen, .inr ⟨w.heap.size, _, _, rfl, Nat.le_refl _, heap_alloc_new w.drew _, hge, hcm, ?_, ?_⟩⟩, (Below.refl _ w).drew.alloc (Nat.le_refl _) _⟩
    · simp only [Array.size_append, List.size_toArray, size_zeroCells, hzs, hlo, hl, ← Nat.add_mul]
      congr 1
      omega
    · simp only [Array.toList_append, List.append_assoc]
      rw [← List.append_assoc, ← hlen]
      exact List.take_left
  cases A with
  | none =>
    obtain ⟨rfl, rfl⟩ := hA rfl
    have hx : olds = [] := List.eq_nil_of_length_eq_zero (by simpa using hlo)
    subst hx
    have hr := run_append_nil (P := P) w t ty e i z E.ht hi hz a m c news hl hnews (by omega) (by omega) (by have hb := hbytes; simp only [Nat.zero_add] at hb; omega)
    have hgr := grown 0 (by omega)
    simp only [Nat.zero_add, List.nil_append, Array.empty_append] at hgr ⊢
    exact ⟨_, _, hr, hgr.1, hgr.2⟩
  | some b =>
    have holds : ∀ j u, olds[j]? = some u → w.cell? (b.add j) = some u := fun j u hj => by obtain ⟨_, e, hc⟩ := hro j u hj; cases e; exact hc
    have hr := run_append_grow (P := P) w t ty e i z E.ht hi hz b n cap olds hlo holds a m c news hl hnews (by omega) (by omega) (growslice_fits (by omega) hbytes)
    have hgr := grown cap (by omega)
    exact ⟨_, _, hr, hgr.1, hgr.2⟩
/-- 'append', kept shut. -/
def appK (ts : Array TypeId) (t : TypeId) (vs : Array Value) : Sem Value := Builtin.append_ ts t vs
theorem appK_hide (ts : Array TypeId) (t : TypeId) (vs : Array Value) : Builtin.append_ ts t vs = appK ts t vs := rfl
theorem wpList_app_new (E : Elt P t e size bytes z) {w : World} {ops : Array Oper} {rest : List Oper} {o : Oper} {a : Act} {Q : Exit → Act → World → Prop} (hgd : o.guard = none) (s x : Operand)
    (ho : o.op = .call { callee := .builtin .append, args := #[s, x], argTypes := #[t, t] })
    (A : Option Addr) (n cap : Nat) (olds : List Value) (hs : a.eval s = .slice A n cap) (hlo : olds.length = n * size) (hro : RdC w A olds) (hA : A = none → n = 0 ∧ cap = 0) (b : Addr) (m c : Nat) (news : List Value) (hx : a.eval x = .slice (some b) m c)
    (hl : news.length = m * size) (hr : RdC w (some b) news) (hg : cap < n + m) (h63 : n + m ≤ maxLen) (hbytes : (n + m) * bytes ≤ 140737488355328)
    (h : ∀ v' w', w'.ownsRow w.heap.size e size v' (n + m) (olds ++ news) → Below w.heap.size w w' → wpList P ops Q rest (a.put o.dst v') w') : wpList P ops Q (o :: rest) a w :=
  wpList_plain hgd fun _ hK => by
    obtain ⟨v', w', hrun, h2, h3⟩ := run_app_new E o.type w A n cap olds hlo hro hA b m c news hl hr hg h63 hbytes
    unfold Oper.wp
    simp [execOp, ho, resolve, invoke, builtin, hs, hx, hrun, Result.andThen]
    exact hK _ _ (h v' w' h2 h3)
end
theorem wp_store_slc {P : Program} {o : Oper} {a : Act} {w : World} {K : Act → World → Prop} {Q : Exit → Act → World → Prop} (ty : TypeId) (x y : Operand) (ho : o.op = .store ty x y) (p : Addr) (hx : a.eval x = .pointer (some p)) (A : Option Addr) (n c : Nat) (hy : a.eval y = .slice A n c) (old : Value)
    (h1 : w.cell? p = some old) (h2 : w.frozen? p = false) (hs : (P.info? ty).map (·.size) = some 1) (hd : o.dst = none) (hK : K a (w.setCell p (.slice A n c))) : o.wp P a w K Q := by
  cases hq : P.info? ty with
  | none => simp [hq] at hs
  | some i =>
    have hsz : i.size = 1 := by simpa [hq] using hs
    unfold Oper.wp execOp
    simp only [ho, hx, hy, Instr.storeAt, Instr.sureAddr, Sem.run_bind, Sem.run_pure, Result.andThen_ok, storeVar, sizeOf, typeInfo, hq]
    simp [hq, hsz, Value.cells, storeCells, go_sem, h1, h2, addr_add_zero, Oper.upon, hd, Act.put]
    exact hK
end Go.Proofs.Ytcdnbidenaljlaa
