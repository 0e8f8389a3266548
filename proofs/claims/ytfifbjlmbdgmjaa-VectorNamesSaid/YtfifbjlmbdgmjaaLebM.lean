/- leb: a Sink, as it lies. -/
import Derived.Test.YtfifbjlmbdgmjaaLebI
import Derived.Maps.AppendAt
namespace Go.Proofs.Ytfifbjlmbdgmjaa
open Go.RowKit Go.Shelf
attribute [local go_sem] Oper.semAt_some
/-- 'append', kept shut. -/
def appH (ts : Array TypeId) (t : TypeId) (vs : Array Value) : Sem Value := Builtin.append_ ts t vs
theorem app_hide (ts : Array TypeId) (t : TypeId) (vs : Array Value) : Builtin.append_ ts t vs = appH ts t vs := rfl

theorem lt_get {w : World} {g : Nat} {o : Obj} (h : w.heap[g]? = some o) : g < w.heap.size := (Array.getElem?_eq_some_iff.1 h).1
theorem parts_any (m : Nat) (w : World) : Calls Try.prog 49 #[.int .u64 (m : Int)] w fun e w' => e = .returned (.func (.func 52) #[] #[.pointer (some ⟨w.heap.size, 0, none⟩)]) ∧ w' = w.alloc (.cells #[.int .u64 (m : Int)] 31) := by
  go_enter Try.func49, Try.ntmps49
  go_wp2
  go_ret
  exact ⟨rfl, rfl⟩
theorem info8 : (Try.prog.info? 5).map (fun i => (i.zero, i.size, i.bytes)) = some (some (.int .u8 0), 1, 1) := by kernel_rfl
theorem elt8 : Elt Try.prog 33 5 1 1 (.int .u8 0) := ⟨Try.underlying33, info8, rfl, by omega⟩
/-- Where what 'append' gives lies. -/
theorem app_origin {P : Program} {t e : TypeId} {size bytes : Nat} {z : Value} (E : Elt P t e size bytes z) (ty : TypeId) (w : World) (base : Nat) (v : Value) (n : Nat) (xs : List Value) (hown : w.ownsRow base e size v n xs) (a : Addr) (m c : Nat) (news : List Value)
    (hl : news.length = m * size) (hr : RdC w (some a) news) (h1 : ∀ u ∈ news, u.oneCell' = true) (h63 : n + m ≤ maxLen) (hbytes : (n + m) * bytes ≤ 140737488355328) (hm : 0 < m) (v' : Value) (w' : World)
    (h : (Builtin.append_ #[t, t] ty #[v, .slice (some a) m c]).run P w = .ok v' w') : v'.ownBlock = v.ownBlock ∨ v'.ownBlock = some w.heap.size := by
  obtain ⟨i0, hi, hz0, hz1, hz2⟩ := info_parts E.hi
  subst hz1 hz2
  have hsmall : n + m ≤ 9223372036854775807 := by simp only [maxLen] at h63; omega
  have hnews : ∀ j u, news[j]? = some u → w.cell? (a.add j) = some u := fun j u hj => by obtain ⟨_, e, hc⟩ := hr j u hj; cases e; exact hc
  rcases hown.2 with ⟨rfl, rfl⟩ | ⟨g, cap, cur, rfl, hbg, hg, hnc, hcm, hcs, htake⟩
  · have hr := run_append_nil (P := P) w t ty e i0 z E.ht hi hz0 a m c news hl hnews hm (by omega) (by have hb := hbytes; simp only [Nat.zero_add] at hb; omega)
    rw [hr] at h
    cases h
    exact .inr rfl
  · by_cases hroom : n + m ≤ cap
    · have hr := run_append_room (P := P) w t ty e i0 E.ht hi g n cap cur hg a m c news hl hnews h1 hroom (by rw [hl, hcs, ← Nat.add_mul]; exact Nat.mul_le_mul_right _ hroom)
      rw [hr] at h
      cases h
      exact .inl rfl
    · have hr := run_append_grow (P := P) w t ty e i0 z E.ht hi hz0 ⟨g, 0, none⟩ n cap xs hown.1 (hown.cells (g := g) rfl) a m c news hl hnews (by omega) (by omega) (growslice_fits (by omega) hbytes)
      rw [hr] at h
      cases h
      exact .inr rfl
/-- A Sink with the bytes xs, in block g, its row beyond g. -/
def SinkAt (g : Nat) (v : Value) (xs : List UInt8) (W : World) : Prop := W.heap[g]? = some (.cells #[v] 72 (0, 0)) ∧ W.ownsRow (g + 1) 5 1 v xs.length (u8v xs)
/-- All but what is told lies as it lay. -/
structure Kept (ex : Nat → Prop) (w w' : World) : Prop where
  os : w'.os = w.os
  tape : w'.tape = w.tape
  output : w'.output = w.output
  size : w.heap.size ≤ w'.heap.size
  block : ∀ k, k < w.heap.size → ¬ ex k → w'.heap[k]? = w.heap[k]?
end Go.Proofs.Ytfifbjlmbdgmjaa
