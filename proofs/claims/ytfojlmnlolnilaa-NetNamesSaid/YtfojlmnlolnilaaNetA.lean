/- net: a net as it lies, frames as values; the small functions. -/
import Derived.Test.YtfojlmnlolnilaaProg
import Derived.Test.YtfojlmnlolnilaaB
import Derived.Test.YtfojlmnlolnilaaOpen
import Derived.Deep.DeepCutAuto
import Derived.Deep.CutBlock
import Derived.Deep.LoopGhost
import Derived.LaidEqlPtr
import Derived.WalkSmall
namespace Go.Proofs.Ytfojlmnlolnilaa
open Go.RowKit
attribute [local go_sem] Oper.semAt_some

theorem info8 : (Try.prog.info? 5).map (fun i => (i.zero, i.size, i.bytes)) = some (some (.int .u8 0), 1, 1) := by kernel_rfl
theorem elt8 : Elt Try.prog 22 5 1 1 (.int .u8 0) := ⟨Try.underlying22, info8, rfl, by omega⟩
theorem lt_get {w : World} {g : Nat} {o : Obj} (h : w.heap[g]? = some o) : g < w.heap.size := (Array.getElem?_eq_some_iff.1 h).1
/-- All but what is told lies as it lay. -/
structure Kept (ex : Nat → Prop) (w w' : World) : Prop where
  os : w'.os = w.os
  tape : w'.tape = w.tape
  output : w'.output = w.output
  size : w.heap.size ≤ w'.heap.size
  block : ∀ k, k < w.heap.size → ¬ ex k → w'.heap[k]? = w.heap[k]?
theorem own_of_block {w w' : World} {B : Nat} {e : TypeId} {s n : Nat} {v : Value} {xs : List Value} (h : w.ownsRow B e s v n xs) (hk : ∀ k, v.ownBlock = some k → w'.heap[k]? = w.heap[k]?) : w'.ownsRow B e s v n xs := by
  refine ⟨h.1, ?_⟩
  rcases h.2 with hn | ⟨g, cap, cur, rfl, hb, hgg, rest⟩
  · exact .inl hn
  · exact .inr ⟨g, cap, cur, rfl, hb, by rw [hk g rfl]; exact hgg, rest⟩
theorem own_mono {w : World} {B B' : Nat} {e : TypeId} {s n : Nat} {v : Value} {xs : List Value} (h : w.ownsRow B e s v n xs) (hB : B' ≤ B) : w.ownsRow B' e s v n xs := by
  refine ⟨h.1, ?_⟩
  rcases h.2 with hn | ⟨g, cap, cur, rfl, hb, rest⟩
  · exact .inl hn
  · exact .inr ⟨g, cap, cur, rfl, Nat.le_trans hB hb, rest⟩
/-- Where what 'append' gives lies. -/
theorem app_origin {P : Program} {t e : TypeId} {size bytes : Nat} {z : Value} (E : Elt P t e size bytes z) (ty : TypeId) (w : World) (base : Nat) (v : Value) (n : Nat) (xs : List Value) (hown : w.ownsRow base e size v n xs) (a : Addr) (m c : Nat) (news : List Value)
    (hl : news.length = m * size) (hr : RdC w (some a) news) (h1 : ∀ u ∈ news, u.oneCell' = true) (h63 : n + m ≤ maxLen) (hbytes : (n + m) * bytes ≤ 140737488355328) (hm : 0 < m) (v' : Value) (w' : World)
    (h : (Builtin.append_ #[t, t] ty #[v, .slice (some a) m c]).run P w = .ok v' w') : v'.ownBlock = v.ownBlock ∨ v'.ownBlock = some w.heap.size := by
  obtain ⟨i0, hi, hz0, hz1, hz2⟩ := info_parts E.hi
  subst hz1 hz2
  have hsmall : n + m ≤ 9223372036854775807 := by simp only [maxLen] at h63; omega
  have hnews : ∀ j u, news[j]? = some u → w.cell? (a.add j) = some u := fun j u hj => by obtain ⟨_, e, hc⟩ := hr j u hj; cases e; exact hc
  rcases hown.2 with ⟨rfl, rfl⟩ | ⟨g, cap, cur, rfl, hbg, hg, hnc, hcm, hcs, htake⟩
  · have hr := run_append_nil (P := P) w t ty e i0 z E.ht hi hz0 a m c news hl hnews hm (by omega) (by have hb := hbytes; simp only [Nat.zero_add] at hb; omega)
    rw [hr] at h
    cases h
    exact .inr rfl
  · by_cases hroom : n + m ≤ cap
    · have hr := run_append_room (P := P) w t ty e i0 E.ht hi g n cap cur hg a m c news hl hnews h1 hroom (by rw [hl, hcs, ← Nat.add_mul]; exact Nat.mul_le_mul_right _ hroom)
      rw [hr] at h
      cases h
      exact .inl rfl
    · have hr := run_append_grow (P := P) w t ty e i0 z E.ht hi hz0 ⟨g, 0, none⟩ n cap xs hown.1 (hown.cells (g := g) rfl) a m c news hl hnews (by omega) (by omega) (growslice_fits (by omega) hbytes)
      rw [hr] at h
      cases h
      exact .inr rfl
section
variable {P : Program} {t e : TypeId} {size bytes : Nat} {z : Value}
theorem run_app2 (E : Elt P t e size bytes z) (ty : TypeId) (w : World) (base : Nat) (v : Value) (n : Nat) (xs : List Value) (hown : w.ownsRow base e size v n xs) (A : Option Addr) (m c : Nat) (news : List Value)
    (hl : news.length = m * size) (hr : RdC w A news) (h1 : ∀ u ∈ news, u.oneCell' = true) (h63 : n + m ≤ maxLen) (hbytes : (n + m) * bytes ≤ 140737488355328) (hbase : base ≤ w.heap.size) :
    ∃ v' w', (Builtin.append_ #[t, t] ty #[v, .slice A m c]).run P w = .ok v' w' ∧ w'.ownsRow base e size v' (n + m) (xs ++ news) ∧ w.grownBy w' v.ownBlock ∧ ∀ k, v'.ownBlock = some k → v.ownBlock = some k ∨ k = w.heap.size := by
  obtain ⟨i0, hi, hz0, hz1, hz2⟩ := info_parts E.hi
  rcases Nat.eq_zero_or_pos m with rfl | hm
  · have hn : news = [] := List.length_eq_zero_iff.1 (by rw [hl, Nat.zero_mul])
    subst hn
    refine ⟨v, w, ?_, by simpa using hown, World.grownBy.refl _ _, fun k hk => .inl hk⟩
    rcases hown.2 with ⟨rfl, rfl⟩ | ⟨g, cap, cur, rfl, _, _, hnc, _⟩
    · cases A <;> simp [Builtin.append_, run_underlying E.ht, sizeOf, typeInfo, hi, Builtin.lenOf, Builtin.firstCells, storeCells, loadCells, loadCellsFrom]
    · cases A <;> simp [Builtin.append_, run_underlying E.ht, sizeOf, typeInfo, hi, Builtin.lenOf, Builtin.firstCells, hnc, storeCells, loadCells, loadCellsFrom]
  · obtain ⟨v', w', h2, h3, h4⟩ := run_app E ty w base v n xs hown A m c news hl hr h1 h63 hbytes hbase
    cases A with
    | some a =>
      refine ⟨v', w', h2, h3, h4, fun k hk => ?_⟩
      rcases app_origin E ty w base v n xs hown a m c news hl hr h1 h63 hbytes hm v' w' h2 with h | h
      · exact .inl (by rw [← h]; exact hk)
      · rw [h] at hk; exact .inr (Option.some.inj hk).symm
    | none =>
      exfalso
      have hp : 0 < news.length := by rw [hl]; exact Nat.mul_pos hm E.hsz
      obtain ⟨_, e, _⟩ := hr 0 news[0] (List.getElem?_eq_getElem hp)
      cases e
theorem wpList_app2 (E : Elt P t e size bytes z) {w : World} {ops : Array Oper} {rest : List Oper} {o : Oper} {a : Act} {Q : Exit → Act → World → Prop} (hgd : o.guard = none) (s x : Operand)
    (ho : o.op = .call { callee := .builtin .append, args := #[s, x], argTypes := #[t, t] })
    (base : Nat) (v : Value) (n : Nat) (xs : List Value) (hs : a.eval s = v) (hown : w.ownsRow base e size v n xs) (A : Option Addr) (m c : Nat) (news : List Value) (hx : a.eval x = .slice A m c)
    (hl : news.length = m * size) (hr : RdC w A news) (h1 : ∀ u ∈ news, u.oneCell' = true) (h63 : n + m ≤ maxLen) (hbytes : (n + m) * bytes ≤ 140737488355328) (hbase : base ≤ w.heap.size)
    (h : ∀ v' w', w'.ownsRow base e size v' (n + m) (xs ++ news) → w.grownBy w' v.ownBlock → (∀ k, v'.ownBlock = some k → v.ownBlock = some k ∨ k = w.heap.size) → wpList P ops Q rest (a.put o.dst v') w') : wpList P ops Q (o :: rest) a w :=
  wpList_plain hgd fun _ hK => by
    obtain ⟨v', w', hrun, h2, h3, h4⟩ := run_app2 E o.type w base v n xs hown A m c news hl hr h1 h63 hbytes hbase
    unfold Oper.wp
    simp [execOp, ho, resolve, invoke, builtin, hs, hx, hrun, Result.andThen]
    exact hK _ _ (h v' w' h2 h3 h4)
end
theorem own_ne {W : World} {B : Nat} {e t : TypeId} {s k n : Nat} {v : Value} {xs : List Value} {cs : Array Value} {fr : Nat × Nat} (h : W.ownsRow B e s v n xs) (hk : W.heap[k]? = some (.cells cs t fr)) (ht : t ≠ e) : v.ownBlock ≠ some k := fun hb => by
  rcases h.2 with ⟨rfl, _⟩ | ⟨g, cap, cur, rfl, _, hg, _⟩
  · cases hb
  · obtain rfl : g = k := by simpa [Value.ownBlock] using hb
    rw [hg] at hk
    cases hk
    exact ht rfl
theorem Kept.of_below {ex : Nat → Prop} {w w' : World} (h : Below w.heap.size w w') : Kept ex w w' := ⟨h.os, h.tape, h.output, h.size, fun k hk _ => h.block k hk⟩
theorem Kept.trans {ex : Nat → Prop} {a b c : World} (h : Kept ex a b) (k : Kept ex b c) : Kept ex a c :=
  ⟨k.os.trans h.os, k.tape.trans h.tape, k.output.trans h.output, Nat.le_trans h.size k.size, fun j hj he => (k.block j (Nat.lt_of_lt_of_le hj h.size) he).trans (h.block j hj he)⟩
theorem Kept.mono {ex ex' : Nat → Prop} {a b : World} (h : Kept ex a b) (hx : ∀ k, ex k → ex' k) : Kept ex' a b := ⟨h.os, h.tape, h.output, h.size, fun k hk he => h.block k hk fun e => he (hx k e)⟩
theorem Kept.refl (ex : Nat → Prop) (W : World) : Kept ex W W := ⟨rfl, rfl, rfl, Nat.le_refl _, fun _ _ _ => rfl⟩
theorem Kept.set {ex : Nat → Prop} {W W1 : World} {g k : Nat} {v : Value} (h : Kept ex W W1) (hg : ex g ∨ W.heap.size ≤ g) : Kept ex W (W1.setCell ⟨g, k, none⟩ v) :=
  ⟨h.os, h.tape, h.output, by simpa using h.size, fun j hj he => by rw [heap_setCell_other _ _ _ _ (fun e => by have e2 : j = g := e; subst e2; exact hg.elim he (fun h => by omega))]; exact h.block j hj he⟩
theorem Kept.below {ex : Nat → Prop} {w W W' : World} (h : Kept ex w W) (hb : Below W.heap.size W W') : Kept ex w W' := h.trans (Kept.of_below hb)
theorem below_kept {ex : Nat → Prop} {w0 W W' : World} (h : Below w0.heap.size w0 W) (hk : Kept ex W W') (hx : ∀ k, ex k → w0.heap.size ≤ k) : Below w0.heap.size w0 W' :=
  ⟨hk.os.trans h.os, hk.tape.trans h.tape, hk.output.trans h.output, Nat.le_trans h.size hk.size, fun k hkk => (hk.block k (by have := h.size; omega) fun e => by have := hx k e; omega).trans (h.block k hkk)⟩
/-- A frame, as it lies. -/
structure Fl where
  f : Int
  t : Int
  A : Option Addr
  n : Nat
  c : Nat
  l : List UInt8
  bad : Bool
def Fl.cs (x : Fl) : List Value := [.int .i64 x.f, .int .i64 x.t, .slice x.A x.n x.c, .bool x.bad]
def flC (L : List Fl) : List Value := (L.map Fl.cs).flatten
theorem flC_length (L : List Fl) : (flC L).length = L.length * 4 := by
  induction L with
  | nil => rfl
  | cons x L ih => simp only [flC, List.map_cons, List.flatten_cons, List.length_append, List.length_cons] at ih ⊢; rw [ih]; simp [Fl.cs]; omega
theorem flC_append (L M : List Fl) : flC (L ++ M) = flC L ++ flC M := by simp [flC]
/-- A net's own cells. -/
def NetC (g : Nat) (room : Int) (v : Value) (s d x : Int) (W : World) : Prop := W.heap[g]? = some (.cells #[.int .i64 room, v, .int .i64 s, .int .i64 d, .int .i64 x] 70 (0, 0))
section
variable {g : Nat} {room : Int} {v : Value} {s d x : Int} {W : World}
theorem NetC.c0 (h : NetC g room v s d x W) : W.cell? ⟨g, 0, none⟩ = some (.int .i64 room) := by rw [cell_of_row _ _ _ _ _ _ h]; rfl
theorem NetC.c1 (h : NetC g room v s d x W) : W.cell? ⟨g, 1, none⟩ = some v := by rw [cell_of_row _ _ _ _ _ _ h]; rfl
theorem NetC.c2 (h : NetC g room v s d x W) : W.cell? ⟨g, 2, none⟩ = some (.int .i64 s) := by rw [cell_of_row _ _ _ _ _ _ h]; rfl
theorem NetC.c3 (h : NetC g room v s d x W) : W.cell? ⟨g, 3, none⟩ = some (.int .i64 d) := by rw [cell_of_row _ _ _ _ _ _ h]; rfl
theorem NetC.c4 (h : NetC g room v s d x W) : W.cell? ⟨g, 4, none⟩ = some (.int .i64 x) := by rw [cell_of_row _ _ _ _ _ _ h]; rfl
theorem NetC.fr (h : NetC g room v s d x W) (j : Nat) : W.frozen? ⟨g, j, none⟩ = false := frozen_of_row _ _ j _ _ h
end
set_option maxHeartbeats 1000000 in
theorem none_any (g : Nat) (room : Int) (v : Value) (s d x : Int) (w : World) (h : NetC g room v s d x w) (hr : 1 ≤ room) :
    Calls Try.prog 31 #[.pointer (some ⟨g, 0, none⟩)] w fun e w' => e = .returned (.bool false) ∧ w' = w := by
  have c0 := h.c0
  have h0 : (room == 0) = false := by rw [beq_eq_false_iff_ne]; omega
  go_enter Try.func31, Try.ntmps31
  go_wp2
  go_ret
  exact ⟨rfl, rfl⟩
theorem none_nil (w : World) : Calls Try.prog 31 #[.pointer none] w fun e w' => e = .returned (.bool true) ∧ w' = w := by
  go_enter Try.func31, Try.ntmps31
  go_wp2
  go_ret
  exact ⟨rfl, rfl⟩
def readyE (n : Nat) (i : Int) : Int := if i < 0 ∨ (n : Int) ≤ i then 280 else 0
set_option maxHeartbeats 1000000 in
theorem ready_any (g : Nat) (room : Int) (A : Option Addr) (n c : Nat) (s d x : Int) (w : World) (h : NetC g room (.slice A n c) s d x w) (hr : 1 ≤ room) (i : Int) (hn : (n : Int) ≤ 9223372036854775807) :
    Calls Try.prog 34 #[.pointer (some ⟨g, 0, none⟩), .int .i64 i] w fun e w' => e = .returned (.int .i64 (readyE n i)) ∧ w' = w := by
  have c1 := h.c1
  have hno := none_any g room _ s d x w h hr
  unfold readyE
  by_cases h1 : i < 0
  · rw [if_pos (.inl h1)]
    go_enter Try.func34, Try.ntmps34
    go_wp2_with (go_at_call 31; refine hno.mono ?_; rintro e w' ⟨rfl, hw'⟩; rw [hw']; clear hw')
    go_ret
    exact ⟨rfl, rfl⟩
  · by_cases h2 : (n : Int) ≤ i
    · rw [if_pos (.inr h2)]
      go_enter Try.func34, Try.ntmps34
      go_wp2_with (go_at_call 31; refine hno.mono ?_; rintro e w' ⟨rfl, hw'⟩; rw [hw']; clear hw')
      go_ret
      exact ⟨rfl, rfl⟩
    · rw [if_neg (fun h => h.elim h1 h2)]
      go_enter Try.func34, Try.ntmps34
      go_wp2_with (go_at_call 31; refine hno.mono ?_; rintro e w' ⟨rfl, hw'⟩; rw [hw']; clear hw')
      go_ret
      exact ⟨rfl, rfl⟩
set_option maxHeartbeats 1000000 in
theorem clip_any (A : Option Addr) (n c : Nat) (hn : n ≤ c) (hc : c ≤ maxLen) (w : World) :
    Calls Try.prog 32 #[.slice A n c] w fun e w' => e = .returned (.slice A n n) ∧ w' = w := by
  have hcm : (c : Int) ≤ 9223372036854775807 := by unfold maxLen at hc; omega
  go_enter Try.func32, Try.ntmps32
  go_wp2
  go_ret
  exact ⟨rfl, rfl⟩
theorem new_low (room : Int) (h1 : room < 1) (w : World) : Calls Try.prog 11 #[.int .i64 room] w fun e w' => e = .returned (.tuple #[.pointer none, .int .i64 280]) ∧ w' = w := by
  go_enter Try.func11, Try.ntmps11
  go_wp2
  go_ret2
  exact ⟨rfl, rfl⟩
theorem new_high (room : Int) (h2 : 4096 < room) (w : World) : Calls Try.prog 11 #[.int .i64 room] w fun e w' => e = .returned (.tuple #[.pointer none, .int .i64 280]) ∧ w' = w := by
  have h1 : ¬ room < 1 := by omega
  go_enter Try.func11, Try.ntmps11
  go_wp2
  go_ret2
  exact ⟨rfl, rfl⟩
theorem new_ok (room : Int) (h1 : 1 ≤ room) (h2 : room ≤ 4096) (w : World) : Calls Try.prog 11 #[.int .i64 room] w fun e w' => e = .returned (.tuple #[.pointer (some ⟨w.heap.size, 0, none⟩), .int .i64 0]) ∧ w' = w.alloc (.cells #[.int .i64 room, .slice none 0 0, .int .i64 0, .int .i64 0, .int .i64 0] 70) := by
  go_enter Try.func11, Try.ntmps11
  go_wp2
  go_ret2
  exact ⟨rfl, rfl⟩
set_option maxHeartbeats 1000000 in
theorem len_any (g : Nat) (room : Int) (A : Option Addr) (n c : Nat) (s d x : Int) (w : World) (h : NetC g room (.slice A n c) s d x w) (hr : 1 ≤ room) :
    Calls Try.prog 16 #[.pointer (some ⟨g, 0, none⟩)] w fun e w' => e = .returned (.int .i64 (n : Int)) ∧ w' = w := by
  have c1 := h.c1
  have hno := none_any g room _ s d x w h hr
  go_enter Try.func16, Try.ntmps16
  go_wp2_with (go_at_call 31; refine hno.mono ?_; rintro e w' ⟨rfl, hw'⟩; rw [hw']; clear hw')
  go_ret
  exact ⟨rfl, rfl⟩
set_option maxHeartbeats 1000000 in
theorem count_any (g : Nat) (room : Int) (v : Value) (s d x : Int) (w : World) (h : NetC g room v s d x w) (hr : 1 ≤ room) :
    Calls Try.prog 18 #[.pointer (some ⟨g, 0, none⟩)] w fun e w' => e = .returned (.tuple #[.int .i64 s, .int .i64 d, .int .i64 x]) ∧ ∃ n, w' = w.drewN n := by
  have c2 := h.c2
  have c3 := h.c3
  have c4 := h.c4
  have hno := none_any g room _ s d x w h hr
  go_enter Try.func18, Try.ntmps18
  go_wp2_with (go_at_call 31; refine hno.mono ?_; rintro e w' ⟨rfl, hw'⟩; rw [hw']; clear hw')
  go_quiet (fail)
  go_wp2
  go_ret3
  exact ⟨rfl, _, rfl⟩
/-- A row of bytes that is new. -/
def NewRow (w w' : World) (v : Value) (l : List UInt8) : Prop := w'.ownsRow w.heap.size 5 1 v l.length (u8v l) ∧ Below w.heap.size w w'
set_option maxHeartbeats 1000000 in
theorem bclone_any (A : Option Addr) (n c : Nat) (l : List UInt8) (hl : l.length = n) (hn : n ≤ 100000000) (w : World) (hr : RdC w A (u8v l)) : Calls Try.prog 30 #[.slice A n c] w fun e w' => ∃ v, e = .returned v ∧ NewRow w w' v l := by
  subst hl
  have q : ∀ (w : World) (a : Option Addr) (n c n' c' : Nat), (binOp .eql 22 (.slice a n c) (.slice none n' c')).run Try.prog w = .ok (.bool a.isNone) w := fun w a n c n' c' => Lib.run_eql_slice_nil w _ _ a n c n' c' Try.underlying22
  cases A with
  | none =>
    have : l = [] := by
      cases l with
      | nil => rfl
      | cons b l => obtain ⟨_, e, _⟩ := hr 0 _ (u8v_get (b :: l) 0 (by simp)); cases e
    subst this
    go_enter Try.func30, Try.ntmps30
    go_wp2
    go_ret
    exact ⟨_, rfl, World.ownsRow_nil .., Below.refl _ _⟩
  | some a =>
    have ho0 : (w.alloc (.cells #[] 5)).ownsRow w.heap.size 5 1 (.slice (some ⟨w.heap.size, 0, none⟩) 0 0) 0 [] := World.ownsRow_made w #[] 0 (Nat.le_refl _) (by unfold maxLen; omega) rfl
    go_enter Try.func30, Try.ntmps30
    go_wp2_with (at_builtin; refine wpList_app elt8 rfl (.tmp 5) (.tmp 6) rfl w.heap.size (.slice (some ⟨w.heap.size, 0, none⟩) 0 0) 0 [] rfl ho0 (some a) l.length c (u8v l) rfl (by rw [u8v_length]; omega) (hr.alloc _) (u8v_one l) (by unfold maxLen; omega) (by omega) (by simp) ?_; intro v' w' ho hg)
    go_ret
    rw [Nat.zero_add, List.nil_append] at ho
    exact ⟨v', rfl, ho, below_grown ((Below.refl _ w).alloc (Nat.le_refl _) _) ho0 hg (by simp) (Nat.le_refl _)⟩
/-- A frame in a block of its own. -/
def FlAt (b : Nat) (f t : Int) (v : Value) (bad : Bool) (W : World) : Prop := W.heap[b]? = some (.cells #[.int .i64 f, .int .i64 t, v, .bool bad] 74 (0, 0))
section
variable {b : Nat} {f t : Int} {v : Value} {bad : Bool} {W W' : World}
theorem FlAt.c0 (h : FlAt b f t v bad W) : W.cell? ⟨b, 0, none⟩ = some (.int .i64 f) := by rw [cell_of_row _ _ _ _ _ _ h]; rfl
theorem FlAt.c1 (h : FlAt b f t v bad W) : W.cell? ⟨b, 1, none⟩ = some (.int .i64 t) := by rw [cell_of_row _ _ _ _ _ _ h]; rfl
theorem FlAt.c2 (h : FlAt b f t v bad W) : W.cell? ⟨b, 2, none⟩ = some v := by rw [cell_of_row _ _ _ _ _ _ h]; rfl
theorem FlAt.c3 (h : FlAt b f t v bad W) : W.cell? ⟨b, 3, none⟩ = some (.bool bad) := by rw [cell_of_row _ _ _ _ _ _ h]; rfl
theorem FlAt.fr (h : FlAt b f t v bad W) (j : Nat) : W.frozen? ⟨b, j, none⟩ = false := frozen_of_row _ _ j _ _ h
theorem FlAt.below (h : FlAt b f t v bad W) (hb : Below W.heap.size W W') : FlAt b f t v bad W' := (hb.block b (lt_get h)).trans h
end
set_option maxHeartbeats 2000000 in
theorem twin_fl (x : Fl) (hn : x.n ≤ 100000000) (hl : x.l.length = x.n) (w : World) (hr : RdC w x.A (u8v x.l)) :
    Calls Try.prog 33 #[.agg x.cs.toArray] w fun e w' => ∃ v, e = .returned (.agg #[.int .i64 x.f, .int .i64 x.t, v, .bool x.bad]) ∧ NewRow w w' v x.l := by
  obtain ⟨f, t, A, n, c, l, bad⟩ := x
  simp only [Fl.cs] at hn hl hr ⊢
  subst hl
  obtain ⟨W1, hW1⟩ : ∃ W1, W1 = (w.alloc (.cells #[.int .i64 f, .int .i64 t, .slice A l.length c, .bool bad] 74)).alloc (.cells #[.int .i64 0, .int .i64 0, .slice none 0 0, .bool false] 74) := ⟨_, rfl⟩
  have hb1 : Below w.heap.size w W1 := by rw [hW1]; exact ((Below.refl _ w).alloc (Nat.le_refl _) _).alloc (by simp) _
  have hcl := bclone_any A l.length c l rfl hn W1 (hr.below hb1)
  go_enter Try.func33, Try.ntmps33
  go_wp2_with fail
  rw [← hW1]
  refine hcl.mono ?_
  rintro e w2 ⟨v, rfl, ho, hb2⟩
  obtain ⟨A2, c2, rfl, _⟩ := RdC.of_own ho
  have h1 : FlAt w.heap.size f t (.slice A l.length c) bad W1 := by rw [hW1]; exact heap_alloc2_old _ _ _
  have h2 : FlAt (w.heap.size + 1) 0 0 (.slice none 0 0) false W1 := by rw [hW1]; exact heap_alloc2_new _ _ _
  have h1' := h1.below hb2
  have h2' := h2.below hb2
  have a0 := h1'.c0
  have a1 := h1'.c1
  have a2 := h1'.c2
  have a3 := h1'.c3
  have b0 := h2'.c0
  have b1 := h2'.c1
  have b2 := h2'.c2
  have b3 := h2'.c3
  have fa2 := h1'.fr 2
  have fb0 := h2'.fr 0
  have fb1 := h2'.fr 1
  have fb2 := h2'.fr 2
  have fb3 := h2'.fr 3
  have hs := hb1.size
  have hW1s : W1.heap.size = w.heap.size + 2 := by rw [hW1, World.size_alloc, World.size_alloc]
  have HW1 := Lib.hid hW1s
  clear hW1s
  clear hcl hr hW1
  go_wp2_with fail
  refine bodyPost_ret (v := .agg #[.int .i64 f, .int .i64 t, .slice A2 l.length c2, .bool bad]) (by simp [results, Try.results33, go_sem, a0, a1, a2, a3, b0, b1, b2, b3]) rfl ?_
  refine ⟨_, rfl, ?_, (((((below_then hb1 hb2 (Nat.le_refl _)).setCell (by simp) _).setCell (by simp) _).setCell (by simp) _).setCell (by simp) _).setCell (by simp) _⟩
  refine own_mono (own_of_block ho fun k hk => ?_) hs
  have hk2 := (ho.lt k hk).1
  have hW1s := HW1.out
  rw [hW1s] at hk2
  rw [heap_setCell_other _ _ _ _ (show k ≠ w.heap.size + 1 by omega), heap_setCell_other _ _ _ _ (show k ≠ w.heap.size + 1 by omega), heap_setCell_other _ _ _ _ (show k ≠ w.heap.size + 1 by omega), heap_setCell_other _ _ _ _ (show k ≠ w.heap.size + 1 by omega), heap_setCell_other _ _ _ _ (show k ≠ w.heap.size by omega)]
theorem info74 : (Try.prog.info? 74).map (fun i => (i.zero, i.size, i.bytes)) = some (some (.agg #[.int .i64 0, .int .i64 0, .slice none 0 0, .bool false]), 4, 48) := by kernel_rfl
theorem elt74 : Elt Try.prog 67 74 4 48 (.agg #[.int .i64 0, .int .i64 0, .slice none 0 0, .bool false]) := ⟨Try.underlying67, info74, rfl, by omega⟩
theorem size_fl3 {a b c : Value} : (Try.prog.info? 38).map (·.size) = some (#[a, b, c] : Array Value).size := by kernel_rfl
theorem size_fl4 {a b c d : Value} : (Try.prog.info? 74).map (·.size) = some (#[a, b, c, d] : Array Value).size := by kernel_rfl
theorem rd_fl {W : World} {b : Nat} {a0 a1 a2 a3 : Value} {t : TypeId} {fr : Nat × Nat} (h : W.heap[b]? = some (.cells #[a0, a1, a2, a3] t fr)) : RdC W (some ⟨b, 0, none⟩) [a0, a1, a2, a3] := fun j u hj => by
  refine ⟨_, rfl, ?_⟩
  rw [addr_add_plain, Nat.zero_add, cell_of_row _ _ j _ _ _ h, ← hj, ← Array.getElem?_toList]
end Go.Proofs.Ytfojlmnlolnilaa
