/- Plain lemmas that the walks of this seat lean on: bytes as values, a slice that reads as a list of cells, and how such facts live on in later worlds. No program is in sight but for the tables of types. -/
import Derived.WalkKit
import Derived.WalkSpells
import Derived.WalkLawsBesides
import Derived.KernelRfl
import Derived.Lib.Hide
import Derived.Laws.CopyOwn
import Derived.Laws.AppendOwnNone
import Derived.Deep.RegionHeld3
import Derived.Deep.QuietTactic
import Derived.BigQuiet
namespace Go.Proofs.Ytcdnbidenaljlaa
open Go.RowKit

/-! ### Bytes, and cells that a slice reads -/
def u8v (l : List UInt8) : List Value := l.map fun b => .int .u8 (b.toNat : Int)
theorem u8v_length (l : List UInt8) : (u8v l).length = l.length := by simp [u8v]
theorem u8v_append (l m : List UInt8) : u8v (l ++ m) = u8v l ++ u8v m := by simp [u8v]
theorem u8v_take (l : List UInt8) (k : Nat) : (u8v l).take k = u8v (l.take k) := by simp [u8v, List.map_take]
theorem u8v_drop (l : List UInt8) (k : Nat) : (u8v l).drop k = u8v (l.drop k) := by simp [u8v, List.map_drop]
theorem u8v_get (l : List UInt8) (j : Nat) (h : j < l.length) : (u8v l)[j]? = some (.int .u8 (l[j].toNat : Int)) := by simp [u8v, h]
theorem u8v_one (l : List UInt8) : ∀ u ∈ u8v l, u.oneCell' = true := by
  intro u hu
  obtain ⟨_, _, rfl⟩ := List.mem_map.1 hu
  rfl
theorem u8v_inj {l m : List UInt8} (h : u8v l = u8v m) : l = m := by
  induction l generalizing m with
  | nil => cases m with
    | nil => rfl
    | cons b m => simp [u8v] at h
  | cons a l ih => cases m with
    | nil => simp [u8v] at h
    | cons b m =>
      simp only [u8v, List.map_cons, List.cons.injEq] at h
      obtain ⟨h1, h2⟩ := h
      injection h1 with _ h1
      rw [ih h2]
      congr 1
      exact UInt8.toNat_inj.1 (by omega)

/-- From the address A on the cells cs lie (A is whatever where there is none). -/
def RdC (w : World) (A : Option Addr) (cs : List Value) : Prop := ∀ (j : Nat) (u : Value), cs[j]? = some u → ∃ ad, A = some ad ∧ w.cell? (ad.add j) = some u
theorem RdC.nil (w : World) (A : Option Addr) : RdC w A [] := fun j u h => by simp at h
theorem RdC.below {w w1 : World} {A : Option Addr} {cs : List Value} (h : RdC w A cs) (hb : Below w.heap.size w w1) : RdC w1 A cs := fun j u hj => by
  obtain ⟨ad, e, hc⟩ := h j u hj
  exact ⟨ad, e, (hb.cell (World.block_lt_of_cell? w _ hc)).trans hc⟩
theorem RdC.alloc {w : World} {A : Option Addr} {cs : List Value} (h : RdC w A cs) (o : Obj) : RdC (w.alloc o) A cs := h.below ((Below.refl _ _).alloc (Nat.le_refl _) o)
theorem RdC.drew {w : World} {A : Option Addr} {cs : List Value} (h : RdC w A cs) : RdC w.drew A cs := h
theorem RdC.drewN {w : World} {A : Option Addr} {cs : List Value} (h : RdC w A cs) (n : Nat) : RdC (w.drewN n) A cs := fun j u hj => by
  obtain ⟨ad, e, hc⟩ := h j u hj
  exact ⟨ad, e, by rw [World.cell?_drewN]; exact hc⟩
theorem RdC.take {w : World} {A : Option Addr} {cs : List Value} (h : RdC w A cs) (k : Nat) : RdC w A (cs.take k) := fun j u hj => by
  rw [List.getElem?_take] at hj
  split at hj
  · exact h j u hj
  · cases hj
theorem addr_add_zero (a : Addr) : a.add 0 = a := by simp [Addr.add]
theorem addr_add_block (a : Addr) (j : Nat) : (a.add j).block = a.block := by unfold Addr.add; split <;> rfl
theorem addr_add_add (a : Addr) (j k : Nat) : (a.add j).add k = a.add (j + k) := by
  unfold Addr.add
  by_cases hj : j = 0
  · subst hj; simp
  · by_cases hk : k = 0
    · subst hk; simp [hj]
    · simp [hj, hk, Nat.add_assoc]
/-- The address of 's[k:]' (c: the capacity; z: an element's cells). -/
def subA (A : Option Addr) (c k z : Nat) : Option Addr := if c = k then A else A.map (·.add (k * z))
theorem RdC.drop {w : World} {A : Option Addr} {cs : List Value} (h : RdC w A cs) (c k z : Nat) (hc : cs.length ≤ c * z) : RdC w (subA A c k z) (cs.drop (k * z)) := fun j u hj => by
  rw [List.getElem?_drop] at hj
  obtain ⟨ad, rfl, hcell⟩ := h _ u hj
  unfold subA
  by_cases e : c = k
  · subst e
    have hl := (List.getElem?_eq_some_iff.1 hj).1
    omega
  · exact ⟨ad.add (k * z), by simp [e], by rw [addr_add_add]; exact hcell⟩

theorem subA_lt {A : Option Addr} {c k z N : Nat} (h : ∀ ad, A = some ad → ad.block < N) : ∀ ad, subA A c k z = some ad → ad.block < N := fun ad e => by
  unfold subA at e
  split at e
  · exact h ad e
  · cases A with
    | none => cases e
    | some a0 =>
      simp only [Option.map_some, Option.some.injEq] at e
      subst e
      rw [addr_add_block]
      exact h a0 rfl
theorem cell_of_rd {w : World} {A : Option Addr} {l : List UInt8} (h : RdC w A (u8v l)) (j : Nat) (hj : j < l.length) : ∃ ad, A = some ad ∧ w.cell? (ad.add j) = some (.int .u8 (l[j].toNat : Int)) := h j _ (u8v_get l j hj)

/-! ### '[]byte' to string -/
def bstr (l : List UInt8) : ByteArray := ⟨l.toArray⟩
theorem bstr_toList (l : List UInt8) : (bstr l).toList = l := by rw [ByteArray.toList_eq]; rfl
theorem bstr_inj {l m : List UInt8} (h : bstr l = bstr m) : l = m := by rw [← bstr_toList l, h, bstr_toList]
theorem bstr_size (l : List UInt8) : (bstr l).size = l.length := rfl
theorem strOfNums_u8 (l : List UInt8) : strOfNums (l.map fun b => (b.toNat : Int)) = bstr l := by
  unfold strOfNums bstr
  congr 2
  rw [List.map_map]
  exact (List.map_congr_left fun b _ => by simp).trans (List.map_id l)
section
variable {P : Program}
theorem run_loadCells_rd (w : World) (ad : Addr) (cs : List Value) (h : ∀ (j : Nat) (u : Value), cs[j]? = some u → w.cell? (ad.add j) = some u) : (loadCells ad cs.length).run P w = .ok cs.toArray w := by
  have := run_loadCells_list (P := P) w ad cs h
  simpa using this
theorem run_string_of (w : World) (src dst e : TypeId) (hs : P.underlying src = some (.slice e)) (he : P.underlying e = some (.int .u8)) (hd : P.underlying dst = some .string) (A : Option Addr) (l : List UInt8) (c : Nat) (h : RdC w A (u8v l)) :
    (convert src dst (.slice A l.length c)).run P w = .ok (.string (bstr l)) w := by
  cases A with
  | none =>
    have : l = [] := by
      cases l with
      | nil => rfl
      | cons b l => obtain ⟨_, e, _⟩ := h 0 _ (u8v_get (b :: l) 0 (by simp)); cases e
    subst this
    exact run_convert_bytes_nil w src e hs he 0 c dst hd
  | some ad =>
    have hl : (loadCells ad l.length).run P w = .ok ((l.map fun b => (b.toNat : Int)).map (Value.int .u8)).toArray w := by
      have := run_loadCells_rd (P := P) w ad (u8v l) (fun j u hj => by obtain ⟨_, e, hc⟩ := h j u hj; cases e; exact hc)
      rw [u8v_length] at this
      rw [this]
      simp [u8v, List.map_map, Function.comp_def]
    rw [run_convert_bytes_string w src dst e _ l.length c hs he hd, run_bytesToString w _ l.length c (l.map fun b => (b.toNat : Int)) hl, foldl_push_bytes, ← strOfNums_u8]
    simp [strOfNums, ByteArray.empty, ByteArray.emptyWithCapacity]
    rfl
end

/-! ### Bytes in memory of the call's own -/
/-- v is a slice of the bytes l, in blocks from B on, none frozen. -/
def Fresh (B : Nat) (w : World) (v : Value) (l : List UInt8) : Prop :=
  ∃ (A : Option Addr) (c : Nat), v = .slice A l.length c ∧ l.length ≤ c ∧ c ≤ maxLen ∧ RdC w A (u8v l) ∧ ∀ ad, A = some ad → 0 < l.length → B ≤ ad.block ∧ ad.spot = none ∧ ∀ j, j < l.length → w.frozen? (ad.add j) = false
theorem addr_add_plain (g o j : Nat) : (⟨g, o, none⟩ : Addr).add j = ⟨g, o + j, none⟩ := by unfold Addr.add; split <;> simp_all
theorem Fresh.of_own {B : Nat} {w : World} {e : TypeId} {v : Value} {l : List UInt8} (h : w.ownsRow B e 1 v l.length (u8v l)) : Fresh B w v l := by
  rcases h.2 with ⟨rfl, h0⟩ | ⟨g, cap, cur, rfl, hB, hg, hn, hm, hs, ht⟩
  · obtain rfl : l = [] := List.eq_nil_of_length_eq_zero h0
    exact ⟨none, 0, rfl, Nat.le_refl _, by unfold maxLen; omega, RdC.nil _ _, fun ad e => by cases e⟩
  · refine ⟨_, cap, rfl, hn, hm, fun j u hj => ⟨_, rfl, h.cells (g := g) rfl j u hj⟩, fun ad e _ => ?_⟩
    cases e
    refine ⟨hB, rfl, fun j _ => ?_⟩
    rw [addr_add_plain]
    exact h.frozenAt _
theorem Fresh.below {B : Nat} {w w1 : World} {v : Value} {l : List UInt8} (h : Fresh B w v l) (hb : Below w.heap.size w w1) : Fresh B w1 v l := by
  obtain ⟨A, c, rfl, hl, hm, hr, hf⟩ := h
  refine ⟨A, c, rfl, hl, hm, hr.below hb, fun ad e h0 => ?_⟩
  obtain ⟨h1, h2, h3⟩ := hf ad e h0
  refine ⟨h1, h2, fun j hj => ?_⟩
  obtain ⟨ad', e', hc⟩ := cell_of_rd hr j hj
  rw [e] at e'
  cases e'
  rw [hb.frozen (World.block_lt_of_cell? w _ hc)]
  exact h3 j hj
theorem Fresh.mono {B B' : Nat} {w : World} {v : Value} {l : List UInt8} (h : Fresh B w v l) (hB : B' ≤ B) : Fresh B' w v l := by
  obtain ⟨A, c, rfl, hl, hm, hr, hf⟩ := h
  exact ⟨A, c, rfl, hl, hm, hr, fun ad e h0 => ⟨Nat.le_trans hB (hf ad e h0).1, (hf ad e h0).2⟩⟩
/-! ### Slices of slices, their address behind one name -/
section
variable {P : Program} (w : World) (t : TypeId) (A : Option Addr) (n c z : Nat) (ht : P.underlying t = some (.slice (P.elem t))) (hz : (sizeOf (P.elem t)).run P w = .ok z w)
include ht hz
theorem run_sub_l (k : Int) (kn : Nat) (hk : k = kn) (h : kn ≤ n) : (Instr.slice t (.slice A n c) (some (.int .i64 k)) none none).run P w = .ok (.slice (subA A c kn z) (n - kn) (c - kn)) w := by
  subst hk
  rw [run_slice_l w t A n c ht .i64 _ (by omega) (by omega), hz]
  simp [Result.andThen, sliced, subA]
theorem run_sub_lh (k h : Int) (kn hn : Nat) (hk : k = kn) (hh : h = hn) (h1 : kn ≤ hn) (h2 : hn ≤ c) : (Instr.slice t (.slice A n c) (some (.int .i64 k)) (some (.int .i64 h)) none).run P w = .ok (.slice (subA A c kn z) (hn - kn) (c - kn)) w := by
  subst hk hh
  rw [run_slice_lh w t A n c ht .i64 .i64 _ _ (by omega) (by omega) (by omega), hz]
  simp [Result.andThen, sliced, subA]
theorem run_sub_h (h : Int) (hn : Nat) (hh : h = hn) (h2 : hn ≤ c) : (Instr.slice t (.slice A n c) none (some (.int .i64 h)) none).run P w = .ok (.slice A hn c) w := by
  subst hh
  rw [run_slice_h w t A n c ht .i64 _ (by omega) (by omega), hz]
  simp [Result.andThen, sliced, addr_add_zero]
end
theorem below_then {B : Nat} {w w1 w2 : World} (h : Below B w w1) (k : Below w1.heap.size w1 w2) (hB : B ≤ w.heap.size) : Below B w w2 :=
  h.trans (k.mono (Nat.le_trans hB h.size))

theorem grownBy_of_below {w w1 : World} (h : Below w.heap.size w w1) (row : Option Nat) : w.grownBy w1 row := ⟨h.os, h.tape, h.output, h.size, fun i hi _ => h.block i hi⟩
theorem own_below {w w1 : World} {B : Nat} {e : TypeId} {s n : Nat} {v : Value} {xs : List Value} (h : w.ownsRow B e s v n xs) (hb : Below w.heap.size w w1) : w1.ownsRow B e s v n xs := h.kept (grownBy_of_below hb none) (by cases v.ownBlock <;> simp)

/-! ### 'append(x, y...)': x in memory of the call's own, y wherever it lies -/
/-- A slice type, its element type, an element's cells and bytes. -/
structure Elt (P : Program) (t e : TypeId) (size bytes : Nat) (z : Value) : Prop where
  ht : P.underlying t = some (.slice e)
  hi : (P.info? e).map (fun i => (i.zero, i.size, i.bytes)) = some (some z, size, bytes)
  hz : z.cells.size = size
  hsz : 0 < size
section
variable {P : Program} {t e : TypeId} {size bytes : Nat} {z : Value}
theorem run_app (E : Elt P t e size bytes z) (ty : TypeId) (w : World) (base : Nat) (v : Value) (n : Nat) (xs : List Value) (hown : w.ownsRow base e size v n xs) (A : Option Addr) (m c : Nat) (news : List Value)
    (hl : news.length = m * size) (hr : RdC w A news) (h1 : ∀ u ∈ news, u.oneCell' = true) (h63 : n + m ≤ maxLen) (hbytes : (n + m) * bytes ≤ 140737488355328) (hbase : base ≤ w.heap.size) :
    ∃ v' w', (Builtin.append_ #[t, t] ty #[v, .slice A m c]).run P w = .ok v' w' ∧ w'.ownsRow base e size v' (n + m) (xs ++ news) ∧ w.grownBy w' v.ownBlock := by
  obtain ⟨i0, hi, hz0, hz1, hz2⟩ := info_parts E.hi
  cases A with
  | some ad =>
    obtain ⟨v', w', h1, h2, h3, _⟩ := run_append_own (P := P) (w := w) base t ty e i0 z size bytes E.ht hi hz0 hz1 hz2 E.hz E.hsz v n xs hown ad m c news hl (fun j u hj => by obtain ⟨_, e, hc⟩ := hr j u hj; cases e; exact hc) h1 h63 hbytes hbase
    exact ⟨v', w', h1, h2, h3⟩
  | none =>
    have hn : news = [] := by
      cases news with
      | nil => rfl
      | cons u r => obtain ⟨_, e, _⟩ := hr 0 u rfl; cases e
    subst hn
    have hm : m = 0 := by
      rcases Nat.eq_zero_or_pos m with h | h
      · exact h
      · have := Nat.mul_pos h E.hsz
        simp only [List.length_nil] at hl
        omega
    subst hm
    refine ⟨v, w, ?_, by simpa using hown, World.grownBy.refl _ _⟩
    rcases hown.2 with ⟨rfl, rfl⟩ | ⟨g, cap, cur, rfl, _, _, hnc, _⟩
    · simp [Builtin.append_, run_underlying E.ht, sizeOf, typeInfo, hi, Builtin.lenOf, Builtin.firstCells]
    · simp [Builtin.append_, run_underlying E.ht, sizeOf, typeInfo, hi, Builtin.lenOf, Builtin.firstCells, hnc, storeCells]
theorem wp_app (E : Elt P t e size bytes z) {w : World} {o : Oper} {a : Act} {K : Act → World → Prop} {Q : Exit → Act → World → Prop} (s x : Operand)
    (ho : o.op = .call { callee := .builtin .append, args := #[s, x], argTypes := #[t, t] })
    (base : Nat) (v : Value) (n : Nat) (xs : List Value) (hs : a.eval s = v) (hown : w.ownsRow base e size v n xs) (A : Option Addr) (m c : Nat) (news : List Value) (hx : a.eval x = .slice A m c)
    (hl : news.length = m * size) (hr : RdC w A news) (h1 : ∀ u ∈ news, u.oneCell' = true) (h63 : n + m ≤ maxLen) (hbytes : (n + m) * bytes ≤ 140737488355328) (hbase : base ≤ w.heap.size)
    (h : ∀ v' w', w'.ownsRow base e size v' (n + m) (xs ++ news) → w.grownBy w' v.ownBlock → K (a.put o.dst v') w') : o.wp P a w K Q := by
  obtain ⟨v', w', hrun, h2, h3⟩ := run_app E o.type w base v n xs hown A m c news hl hr h1 h63 hbytes hbase
  unfold Oper.wp
  simp [execOp, ho, resolve, invoke, builtin, hs, hx, hrun, Result.andThen]
  exact h v' w' h2 h3
theorem wpList_app (E : Elt P t e size bytes z) {w : World} {ops : Array Oper} {rest : List Oper} {o : Oper} {a : Act} {Q : Exit → Act → World → Prop} (hgd : o.guard = none) (s x : Operand)
    (ho : o.op = .call { callee := .builtin .append, args := #[s, x], argTypes := #[t, t] })
    (base : Nat) (v : Value) (n : Nat) (xs : List Value) (hs : a.eval s = v) (hown : w.ownsRow base e size v n xs) (A : Option Addr) (m c : Nat) (news : List Value) (hx : a.eval x = .slice A m c)
    (hl : news.length = m * size) (hr : RdC w A news) (h1 : ∀ u ∈ news, u.oneCell' = true) (h63 : n + m ≤ maxLen) (hbytes : (n + m) * bytes ≤ 140737488355328) (hbase : base ≤ w.heap.size)
    (h : ∀ v' w', w'.ownsRow base e size v' (n + m) (xs ++ news) → w.grownBy w' v.ownBlock → wpList P ops Q rest (a.put o.dst v') w') : wpList P ops Q (o :: rest) a w :=
  wpList_plain hgd fun _ hK => wp_app E s x ho base v n xs hs hown A m c news hx hl hr h1 h63 hbytes hbase fun v' w' h2 h3 => hK _ _ (h v' w' h2 h3)
/-- The same in a region that draws its order. -/
theorem step_app (E : Elt P t e size bytes z) {w : World} {ops : Array Oper} {o : Oper} {a : Act} {K : Act → World → Prop} {Q : Exit → Act → World → Prop} {X : Prop} (hgd : o.guard = none) (s x : Operand)
    (ho : o.op = .call { callee := .builtin .append, args := #[s, x], argTypes := #[t, t] })
    (base : Nat) (v : Value) (n : Nat) (xs : List Value) (hs : a.eval s = v) (hown : w.ownsRow base e size v n xs) (A : Option Addr) (m c : Nat) (news : List Value) (hx : a.eval x = .slice A m c)
    (hl : news.length = m * size) (hr : RdC w A news) (h1 : ∀ u ∈ news, u.oneCell' = true) (h63 : n + m ≤ maxLen) (hbytes : (n + m) * bytes ≤ 140737488355328) (hbase : base ≤ w.heap.size)
    (h : ∀ v' w', w'.ownsRow base e size v' (n + m) (xs ++ news) → w.grownBy w' v.ownBlock → K (a.put o.dst v') w') : if Region.wanted o (yielded ops a.tmps) = true then o.wp P a w K Q else X := by
  have hw : Region.wanted o (yielded ops a.tmps) = true := by simp [Region.wanted, hgd]
  rw [if_pos hw]
  exact wp_app E s x ho base v n xs hs hown A m c news hx hl hr h1 h63 hbytes hbase h
end
/-- What is read in blocks that an append did not touch reads on. -/
theorem RdC.grown {w w' : World} {row : Option Nat} {A : Option Addr} {cs : List Value} (h : RdC w A cs) (hg : w.grownBy w' row) (hne : ∀ ad, A = some ad → some ad.block ≠ row) : RdC w' A cs := fun j u hj => by
  obtain ⟨ad, e, hc⟩ := h j u hj
  exact ⟨ad, e, hg.cell hc (by rw [addr_add_block]; exact hne ad e)⟩
theorem RdC.lt {w : World} {A : Option Addr} {cs : List Value} (h : RdC w A cs) (h0 : 0 < cs.length) : ∀ ad, A = some ad → ad.block < w.heap.size := fun ad e => by
  obtain ⟨_, e', hc⟩ := h 0 cs[0] (by simp [h0])
  rw [e] at e'
  cases e'
  have := World.block_lt_of_cell? w _ hc
  rwa [addr_add_block] at this
theorem RdC.of_own {w : World} {B : Nat} {e : TypeId} {s n : Nat} {v : Value} {xs : List Value} (h : w.ownsRow B e s v n xs) : ∃ A c, v = .slice A n c ∧ n ≤ c ∧ c ≤ maxLen ∧ RdC w A xs ∧ ∀ ad, A = some ad → B ≤ ad.block := by
  rcases h.2 with ⟨rfl, h0⟩ | ⟨g, cap, cur, rfl, hB, hg, hn, hm, hs, ht⟩
  · subst h0
    have hx : xs = [] := List.eq_nil_of_length_eq_zero (by simpa using h.1)
    subst hx
    exact ⟨none, 0, rfl, Nat.le_refl _, by unfold maxLen; omega, RdC.nil _ _, fun ad e => by cases e⟩
  · exact ⟨_, cap, rfl, hn, hm, fun j u hj => ⟨_, rfl, h.cells (g := g) rfl j u hj⟩, fun ad e => by cases e; exact hB⟩
/-- What was read as the call began reads on where what is written is the call's own. -/
theorem RdC.grown_own {w w' w0 : World} {B : Nat} {e : TypeId} {s n : Nat} {v : Value} {xs : List Value} {A : Option Addr} {cs : List Value} (h : RdC w A cs) (ho : w.ownsRow B e s v n xs) (hg : w.grownBy w' v.ownBlock) (h0 : RdC w0 A cs) (hB : w0.heap.size ≤ B) : RdC w' A cs := by
  rcases Nat.eq_zero_or_pos cs.length with hz | hz
  · rw [List.eq_nil_of_length_eq_zero hz]
    exact RdC.nil _ _
  · refine h.grown hg fun ad e hb => ?_
    have := (ho.lt ad.block hb.symm).1
    have := h0.lt hz ad e
    omega
theorem below_grown {B B' : Nat} {w0 w w' : World} {e : TypeId} {s n : Nat} {v : Value} {xs : List Value} (hb : Below B w0 w) (ho : w.ownsRow B' e s v n xs) (hg : w.grownBy w' v.ownBlock) (hB : B ≤ w.heap.size) (hB' : B ≤ B') : Below B w0 w' :=
  hb.grown hg hB fun k hk => Nat.le_trans hB' (ho.lt k hk).1
end Go.Proofs.Ytcdnbidenaljlaa
