/- Texts of this proof, laid into one: B, A, Arr, Reg, RegR, StoAt, ShaP, App. -/
import Derived.WalkKit
import Derived.WalkSpells
import Derived.WalkLawsBesides
import Derived.KernelRfl
import Derived.Lib.Hide
import Derived.Laws.CopyOwn
import Derived.Laws.AppendOwnNone
import Derived.Deep.RegionHeld3
import Derived.Deep.QuietTactic
import Derived.BigQuiet
import Derived.Deep.MidRow
import Derived.ChangeKeysEq
import Derived.Orders
import Derived.Laws.CopyRow
/- Plain lemmas that the walks of this seat lean on: bytes as values, a slice that reads as a list of cells, and how such facts live on in later worlds. No program is in sight but for the tables of types. -/
namespace Go.Proofs.YtcdnbidenaljlaaDoor
open Go.RowKit

/-! ### Bytes, and cells that a slice reads -/
def u8v (l : List UInt8) : List Value := l.map fun b => .int .u8 (b.toNat : Int)
theorem u8v_length (l : List UInt8) : (u8v l).length = l.length := by simp [u8v]
theorem u8v_append (l m : List UInt8) : u8v (l ++ m) = u8v l ++ u8v m := by simp [u8v]
theorem u8v_take (l : List UInt8) (k : Nat) : (u8v l).take k = u8v (l.take k) := by simp [u8v, List.map_take]
theorem u8v_drop (l : List UInt8) (k : Nat) : (u8v l).drop k = u8v (l.drop k) := by simp [u8v, List.map_drop]
theorem u8v_get (l : List UInt8) (j : Nat) (h : j < l.length) : (u8v l)[j]? = some (.int .u8 (l[j].toNat : Int)) := by simp [u8v, h]
theorem u8v_one (l : List UInt8) : ∀ u ∈ u8v l, u.oneCell' = true := by
  intro u hu
  obtain ⟨_, _, rfl⟩ := List.mem_map.1 hu
  rfl
theorem u8v_inj {l m : List UInt8} (h : u8v l = u8v m) : l = m := by
  induction l generalizing m with
  | nil => cases m with
    | nil => rfl
    | cons b m => simp [u8v] at h
  | cons a l ih => cases m with
    | nil => simp [u8v] at h
    | cons b m =>
      simp only [u8v, List.map_cons, List.cons.injEq] at h
      obtain ⟨h1, h2⟩ := h
      injection h1 with _ h1
      rw [ih h2]
      congr 1
      exact UInt8.toNat_inj.1 (by omega)

/-- From the address A on the cells cs lie (A is whatever where there is none). -/
def RdC (w : World) (A : Option Addr) (cs : List Value) : Prop := ∀ (j : Nat) (u : Value), cs[j]? = some u → ∃ ad, A = some ad ∧ w.cell? (ad.add j) = some u
theorem RdC.nil (w : World) (A : Option Addr) : RdC w A [] := fun j u h => by simp at h
theorem RdC.below {w w1 : World} {A : Option Addr} {cs : List Value} (h : RdC w A cs) (hb : Below w.heap.size w w1) : RdC w1 A cs := fun j u hj => by
  obtain ⟨ad, e, hc⟩ := h j u hj
  exact ⟨ad, e, (hb.cell (World.block_lt_of_cell? w _ hc)).trans hc⟩
theorem RdC.alloc {w : World} {A : Option Addr} {cs : List Value} (h : RdC w A cs) (o : Obj) : RdC (w.alloc o) A cs := h.below ((Below.refl _ _).alloc (Nat.le_refl _) o)
theorem RdC.drew {w : World} {A : Option Addr} {cs : List Value} (h : RdC w A cs) : RdC w.drew A cs := h
theorem RdC.drewN {w : World} {A : Option Addr} {cs : List Value} (h : RdC w A cs) (n : Nat) : RdC (w.drewN n) A cs := fun j u hj => by
  obtain ⟨ad, e, hc⟩ := h j u hj
  exact ⟨ad, e, by rw [World.cell?_drewN]; exact hc⟩
theorem RdC.take {w : World} {A : Option Addr} {cs : List Value} (h : RdC w A cs) (k : Nat) : RdC w A (cs.take k) := fun j u hj => by
  rw [List.getElem?_take] at hj
  split at hj
  · exact h j u hj
  · cases hj
theorem addr_add_zero (a : Addr) : a.add 0 = a := by simp [Addr.add]
theorem addr_add_block (a : Addr) (j : Nat) : (a.add j).block = a.block := by unfold Addr.add; split <;> rfl
theorem addr_add_add (a : Addr) (j k : Nat) : (a.add j).add k = a.add (j + k) := by
  unfold Addr.add
  by_cases hj : j = 0
  · subst hj; simp
  · by_cases hk : k = 0
    · subst hk; simp [hj]
    · simp [hj, hk, Nat.add_assoc]
/-- The address of 's[k:]' (c: the capacity; z: an element's cells). -/
def subA (A : Option Addr) (c k z : Nat) : Option Addr := if c = k then A else A.map (·.add (k * z))
theorem RdC.drop {w : World} {A : Option Addr} {cs : List Value} (h : RdC w A cs) (c k z : Nat) (hc : cs.length ≤ c * z) : RdC w (subA A c k z) (cs.drop (k * z)) := fun j u hj => by
  rw [List.getElem?_drop] at hj
  obtain ⟨ad, rfl, hcell⟩ := h _ u hj
  unfold subA
  by_cases e : c = k
  · subst e
    have hl := (List.getElem?_eq_some_iff.1 hj).1
    omega
  · exact ⟨ad.add (k * z), by simp [e], by rw [addr_add_add]; exact hcell⟩

theorem subA_lt {A : Option Addr} {c k z N : Nat} (h : ∀ ad, A = some ad → ad.block < N) : ∀ ad, subA A c k z = some ad → ad.block < N := fun ad e => by
  unfold subA at e
  split at e
  · exact h ad e
  · cases A with
    | none => cases e
    | some a0 =>
      simp only [Option.map_some, Option.some.injEq] at e
      subst e
      rw [addr_add_block]
      exact h a0 rfl
theorem cell_of_rd {w : World} {A : Option Addr} {l : List UInt8} (h : RdC w A (u8v l)) (j : Nat) (hj : j < l.length) : ∃ ad, A = some ad ∧ w.cell? (ad.add j) = some (.int .u8 (l[j].toNat : Int)) := h j _ (u8v_get l j hj)

/-! ### '[]byte' to string -/
def bstr (l : List UInt8) : ByteArray := ⟨l.toArray⟩
theorem bstr_toList (l : List UInt8) : (bstr l).toList = l := by rw [ByteArray.toList_eq]; rfl
theorem bstr_inj {l m : List UInt8} (h : bstr l = bstr m) : l = m := by rw [← bstr_toList l, h, bstr_toList]
theorem bstr_size (l : List UInt8) : (bstr l).size = l.length := rfl
theorem strOfNums_u8 (l : List UInt8) : strOfNums (l.map fun b => (b.toNat : Int)) = bstr l := by
  unfold strOfNums bstr
  congr 2
  rw [List.map_map]
  exact (List.map_congr_left fun b _ => by simp).trans (List.map_id l)
section
variable {P : Program}
theorem run_loadCells_rd (w : World) (ad : Addr) (cs : List Value) (h : ∀ (j : Nat) (u : Value), cs[j]? = some u → w.cell? (ad.add j) = some u) : (loadCells ad cs.length).run P w = .ok cs.toArray w := by
  have := run_loadCells_list (P := P) w ad cs h
  simpa using this
theorem run_string_of (w : World) (src dst e : TypeId) (hs : P.underlying src = some (.slice e)) (he : P.underlying e = some (.int .u8)) (hd : P.underlying dst = some .string) (A : Option Addr) (l : List UInt8) (c : Nat) (h : RdC w A (u8v l)) :
    (convert src dst (.slice A l.length c)).run P w = .ok (.string (bstr l)) w := by
  cases A with
  | none =>
    have : l = [] := by
      cases l with
      | nil => rfl
      | cons b l => obtain ⟨_, e, _⟩ := h 0 _ (u8v_get (b :: l) 0 (by simp)); cases e
    subst this
    exact run_convert_bytes_nil w src e hs he 0 c dst hd
  | some ad =>
    have hl : (loadCells ad l.length).run P w = .ok ((l.map fun b => (b.toNat : Int)).map (Value.int .u8)).toArray w := by
      have := run_loadCells_rd (P := P) w ad (u8v l) (fun j u hj => by obtain ⟨_, e, hc⟩ := h j u hj; cases e; exact hc)
      rw [u8v_length] at this
      rw [this]
      simp [u8v, List.map_map, Function.comp_def]
    rw [run_convert_bytes_string w src dst e _ l.length c hs he hd, run_bytesToString w _ l.length c (l.map fun b => (b.toNat : Int)) hl, foldl_push_bytes, ← strOfNums_u8]
    simp [strOfNums, ByteArray.empty, ByteArray.emptyWithCapacity]
    rfl
end

/-! ### Bytes in memory of the call's own -/
/-- v is a slice of the bytes l, in blocks from B on, none frozen. -/
def Fresh (B : Nat) (w : World) (v : Value) (l : List UInt8) : Prop :=
  ∃ (A : Option Addr) (c : Nat), v = .slice A l.length c ∧ l.length ≤ c ∧ c ≤ maxLen ∧ RdC w A (u8v l) ∧ ∀ ad, A = some ad → 0 < l.length → B ≤ ad.block ∧ ad.spot = none ∧ ∀ j, j < l.length → w.frozen? (ad.add j) = false
theorem addr_add_plain (g o j : Nat) : (⟨g, o, none⟩ : Addr).add j = ⟨g, o + j, none⟩ := by unfold Addr.add; split <;> simp_all
theorem Fresh.of_own {B : Nat} {w : World} {e : TypeId} {v : Value} {l : List UInt8} (h : w.ownsRow B e 1 v l.length (u8v l)) : Fresh B w v l := by
  rcases h.2 with ⟨rfl, h0⟩ | ⟨g, cap, cur, rfl, hB, hg, hn, hm, hs, ht⟩
  · obtain rfl : l = [] := List.eq_nil_of_length_eq_zero h0
    exact ⟨none, 0, rfl, Nat.le_refl _, by unfold maxLen; omega, RdC.nil _ _, fun ad e => by cases e⟩
  · refine ⟨_, cap, rfl, hn, hm, fun j u hj => ⟨_, rfl, h.cells (g := g) rfl j u hj⟩, fun ad e _ => ?_⟩
    cases e
    refine ⟨hB, rfl, fun j _ => ?_⟩
    rw [addr_add_plain]
    exact h.frozenAt _
theorem Fresh.below {B : Nat} {w w1 : World} {v : Value} {l : List UInt8} (h : Fresh B w v l) (hb : Below w.heap.size w w1) : Fresh B w1 v l := by
  obtain ⟨A, c, rfl, hl, hm, hr, hf⟩ := h
  refine ⟨A, c, rfl, hl, hm, hr.below hb, fun ad e h0 => ?_⟩
  obtain ⟨h1, h2, h3⟩ := hf ad e h0
  refine ⟨h1, h2, fun j hj => ?_⟩
  obtain ⟨ad', e', hc⟩ := cell_of_rd hr j hj
  rw [e] at e'
  cases e'
  rw [hb.frozen (World.block_lt_of_cell? w _ hc)]
  exact h3 j hj
theorem Fresh.mono {B B' : Nat} {w : World} {v : Value} {l : List UInt8} (h : Fresh B w v l) (hB : B' ≤ B) : Fresh B' w v l := by
  obtain ⟨A, c, rfl, hl, hm, hr, hf⟩ := h
  exact ⟨A, c, rfl, hl, hm, hr, fun ad e h0 => ⟨Nat.le_trans hB (hf ad e h0).1, (hf ad e h0).2⟩⟩
/-! ### Slices of slices, their address behind one name -/
section
variable {P : Program} (w : World) (t : TypeId) (A : Option Addr) (n c z : Nat) (ht : P.underlying t = some (.slice (P.elem t))) (hz : (sizeOf (P.elem t)).run P w = .ok z w)
include ht hz
theorem run_sub_l (k : Int) (kn : Nat) (hk : k = kn) (h : kn ≤ n) : (Instr.slice t (.slice A n c) (some (.int .i64 k)) none none).run P w = .ok (.slice (subA A c kn z) (n - kn) (c - kn)) w := by
  subst hk
  rw [run_slice_l w t A n c ht .i64 _ (by omega) (by omega), hz]
  simp [Result.andThen, sliced, subA]
theorem run_sub_lh (k h : Int) (kn hn : Nat) (hk : k = kn) (hh : h = hn) (h1 : kn ≤ hn) (h2 : hn ≤ c) : (Instr.slice t (.slice A n c) (some (.int .i64 k)) (some (.int .i64 h)) none).run P w = .ok (.slice (subA A c kn z) (hn - kn) (c - kn)) w := by
  subst hk hh
  rw [run_slice_lh w t A n c ht .i64 .i64 _ _ (by omega) (by omega) (by omega), hz]
  simp [Result.andThen, sliced, subA]
theorem run_sub_h (h : Int) (hn : Nat) (hh : h = hn) (h2 : hn ≤ c) : (Instr.slice t (.slice A n c) none (some (.int .i64 h)) none).run P w = .ok (.slice A hn c) w := by
  subst hh
  rw [run_slice_h w t A n c ht .i64 _ (by omega) (by omega), hz]
  simp [Result.andThen, sliced, addr_add_zero]
end
theorem below_then {B : Nat} {w w1 w2 : World} (h : Below B w w1) (k : Below w1.heap.size w1 w2) (hB : B ≤ w.heap.size) : Below B w w2 :=
  h.trans (k.mono (Nat.le_trans hB h.size))

theorem grownBy_of_below {w w1 : World} (h : Below w.heap.size w w1) (row : Option Nat) : w.grownBy w1 row := ⟨h.os, h.tape, h.output, h.size, fun i hi _ => h.block i hi⟩
theorem own_below {w w1 : World} {B : Nat} {e : TypeId} {s n : Nat} {v : Value} {xs : List Value} (h : w.ownsRow B e s v n xs) (hb : Below w.heap.size w w1) : w1.ownsRow B e s v n xs := h.kept (grownBy_of_below hb none) (by cases v.ownBlock <;> simp)

/-! ### 'append(x, y...)': x in memory of the call's own, y wherever it lies -/
/-- A slice type, its element type, an element's cells and bytes. -/
structure Elt (P : Program) (t e : TypeId) (size bytes : Nat) (z : Value) : Prop where
  ht : P.underlying t = some (.slice e)
  hi : (P.info? e).map (fun i => (i.zero, i.size, i.bytes)) = some (some z, size, bytes)
  hz : z.cells.size = size
  hsz : 0 < size
section
variable {P : Program} {t e : TypeId} {size bytes : Nat} {z : Value}
theorem run_app (E : Elt P t e size bytes z) (ty : TypeId) (w : World) (base : Nat) (v : Value) (n : Nat) (xs : List Value) (hown : w.ownsRow base e size v n xs) (A : Option Addr) (m c : Nat) (news : List Value)
    (hl : news.length = m * size) (hr : RdC w A news) (h1 : ∀ u ∈ news, u.oneCell' = true) (h63 : n + m ≤ maxLen) (hbytes : (n + m) * bytes ≤ 140737488355328) (hbase : base ≤ w.heap.size) :
    ∃ v' w', (Builtin.append_ #[t, t] ty #[v, .slice A m c]).run P w = .ok v' w' ∧ w'.ownsRow base e size v' (n + m) (xs ++ news) ∧ w.grownBy w' v.ownBlock := by
  obtain ⟨i0, hi, hz0, hz1, hz2⟩ := info_parts E.hi
  cases A with
  | some ad =>
    obtain ⟨v', w', h1, h2, h3, _⟩ := run_append_own (P := P) (w := w) base t ty e i0 z size bytes E.ht hi hz0 hz1 hz2 E.hz E.hsz v n xs hown ad m c news hl (fun j u hj => by obtain ⟨_, e, hc⟩ := hr j u hj; cases e; exact hc) h1 h63 hbytes hbase
    exact ⟨v', w', h1, h2, h3⟩
  | none =>
    have hn : news = [] := by
      cases news with
      | nil => rfl
      | cons u r => obtain ⟨_, e, _⟩ := hr 0 u rfl; cases e
    subst hn
    have hm : m = 0 := by
      rcases Nat.eq_zero_or_pos m with h | h
      · exact h
      · have := Nat.mul_pos h E.hsz
        simp only [List.length_nil] at hl
        omega
    subst hm
    refine ⟨v, w, ?_, by simpa using hown, World.grownBy.refl _ _⟩
    rcases hown.2 with ⟨rfl, rfl⟩ | ⟨g, cap, cur, rfl, _, _, hnc, _⟩
    · simp [Builtin.append_, run_underlying E.ht, sizeOf, typeInfo, hi, Builtin.lenOf, Builtin.firstCells]
    · simp [Builtin.append_, run_underlying E.ht, sizeOf, typeInfo, hi, Builtin.lenOf, Builtin.firstCells, hnc, storeCells]
theorem wp_app (E : Elt P t e size bytes z) {w : World} {o : Oper} {a : Act} {K : Act → World → Prop} {Q : Exit → Act → World → Prop} (s x : Operand)
    (ho : o.op = .call { callee := .builtin .append, args := #[s, x], argTypes := #[t, t] })
    (base : Nat) (v : Value) (n : Nat) (xs : List Value) (hs : a.eval s = v) (hown : w.ownsRow base e size v n xs) (A : Option Addr) (m c : Nat) (news : List Value) (hx : a.eval x = .slice A m c)
    (hl : news.length = m * size) (hr : RdC w A news) (h1 : ∀ u ∈ news, u.oneCell' = true) (h63 : n + m ≤ maxLen) (hbytes : (n + m) * bytes ≤ 140737488355328) (hbase : base ≤ w.heap.size)
    (h : ∀ v' w', w'.ownsRow base e size v' (n + m) (xs ++ news) → w.grownBy w' v.ownBlock → K (a.put o.dst v') w') : o.wp P a w K Q := by
  obtain ⟨v', w', hrun, h2, h3⟩ := run_app E o.type w base v n xs hown A m c news hl hr h1 h63 hbytes hbase
  unfold Oper.wp
  simp [execOp, ho, resolve, invoke, builtin, hs, hx, hrun, Result.andThen]
  exact h v' w' h2 h3
theorem wpList_app (E : Elt P t e size bytes z) {w : World} {ops : Array Oper} {rest : List Oper} {o : Oper} {a : Act} {Q : Exit → Act → World → Prop} (hgd : o.guard = none) (s x : Operand)
    (ho : o.op = .call { callee := .builtin .append, args := #[s, x], argTypes := #[t, t] })
    (base : Nat) (v : Value) (n : Nat) (xs : List Value) (hs : a.eval s = v) (hown : w.ownsRow base e size v n xs) (A : Option Addr) (m c : Nat) (news : List Value) (hx : a.eval x = .slice A m c)
    (hl : news.length = m * size) (hr : RdC w A news) (h1 : ∀ u ∈ news, u.oneCell' = true) (h63 : n + m ≤ maxLen) (hbytes : (n + m) * bytes ≤ 140737488355328) (hbase : base ≤ w.heap.size)
    (h : ∀ v' w', w'.ownsRow base e size v' (n + m) (xs ++ news) → w.grownBy w' v.ownBlock → wpList P ops Q rest (a.put o.dst v') w') : wpList P ops Q (o :: rest) a w :=
  wpList_plain hgd fun _ hK => wp_app E s x ho base v n xs hs hown A m c news hx hl hr h1 h63 hbytes hbase fun v' w' h2 h3 => hK _ _ (h v' w' h2 h3)
/-- The same in a region that draws its order. -/
theorem step_app (E : Elt P t e size bytes z) {w : World} {ops : Array Oper} {o : Oper} {a : Act} {K : Act → World → Prop} {Q : Exit → Act → World → Prop} {X : Prop} (hgd : o.guard = none) (s x : Operand)
    (ho : o.op = .call { callee := .builtin .append, args := #[s, x], argTypes := #[t, t] })
    (base : Nat) (v : Value) (n : Nat) (xs : List Value) (hs : a.eval s = v) (hown : w.ownsRow base e size v n xs) (A : Option Addr) (m c : Nat) (news : List Value) (hx : a.eval x = .slice A m c)
    (hl : news.length = m * size) (hr : RdC w A news) (h1 : ∀ u ∈ news, u.oneCell' = true) (h63 : n + m ≤ maxLen) (hbytes : (n + m) * bytes ≤ 140737488355328) (hbase : base ≤ w.heap.size)
    (h : ∀ v' w', w'.ownsRow base e size v' (n + m) (xs ++ news) → w.grownBy w' v.ownBlock → K (a.put o.dst v') w') : if Region.wanted o (yielded ops a.tmps) = true then o.wp P a w K Q else X := by
  have hw : Region.wanted o (yielded ops a.tmps) = true := by simp [Region.wanted, hgd]
  rw [if_pos hw]
  exact wp_app E s x ho base v n xs hs hown A m c news hx hl hr h1 h63 hbytes hbase h
end
/-- What is read in blocks that an append did not touch reads on. -/
theorem RdC.grown {w w' : World} {row : Option Nat} {A : Option Addr} {cs : List Value} (h : RdC w A cs) (hg : w.grownBy w' row) (hne : ∀ ad, A = some ad → some ad.block ≠ row) : RdC w' A cs := fun j u hj => by
  obtain ⟨ad, e, hc⟩ := h j u hj
  exact ⟨ad, e, hg.cell hc (by rw [addr_add_block]; exact hne ad e)⟩
theorem RdC.lt {w : World} {A : Option Addr} {cs : List Value} (h : RdC w A cs) (h0 : 0 < cs.length) : ∀ ad, A = some ad → ad.block < w.heap.size := fun ad e => by
  obtain ⟨_, e', hc⟩ := h 0 cs[0] (by simp [h0])
  rw [e] at e'
  cases e'
  have := World.block_lt_of_cell? w _ hc
  rwa [addr_add_block] at this
theorem RdC.of_own {w : World} {B : Nat} {e : TypeId} {s n : Nat} {v : Value} {xs : List Value} (h : w.ownsRow B e s v n xs) : ∃ A c, v = .slice A n c ∧ n ≤ c ∧ c ≤ maxLen ∧ RdC w A xs ∧ ∀ ad, A = some ad → B ≤ ad.block := by
  rcases h.2 with ⟨rfl, h0⟩ | ⟨g, cap, cur, rfl, hB, hg, hn, hm, hs, ht⟩
  · subst h0
    have hx : xs = [] := List.eq_nil_of_length_eq_zero (by simpa using h.1)
    subst hx
    exact ⟨none, 0, rfl, Nat.le_refl _, by unfold maxLen; omega, RdC.nil _ _, fun ad e => by cases e⟩
  · exact ⟨_, cap, rfl, hn, hm, fun j u hj => ⟨_, rfl, h.cells (g := g) rfl j u hj⟩, fun ad e => by cases e; exact hB⟩
/-- What was read as the call began reads on where what is written is the call's own. -/
theorem RdC.grown_own {w w' w0 : World} {B : Nat} {e : TypeId} {s n : Nat} {v : Value} {xs : List Value} {A : Option Addr} {cs : List Value} (h : RdC w A cs) (ho : w.ownsRow B e s v n xs) (hg : w.grownBy w' v.ownBlock) (h0 : RdC w0 A cs) (hB : w0.heap.size ≤ B) : RdC w' A cs := by
  rcases Nat.eq_zero_or_pos cs.length with hz | hz
  · rw [List.eq_nil_of_length_eq_zero hz]
    exact RdC.nil _ _
  · refine h.grown hg fun ad e hb => ?_
    have := (ho.lt ad.block hb.symm).1
    have := h0.lt hz ad e
    omega
theorem below_grown {B B' : Nat} {w0 w w' : World} {e : TypeId} {s n : Nat} {v : Value} {xs : List Value} (hb : Below B w0 w) (ho : w.ownsRow B' e s v n xs) (hg : w.grownBy w' v.ownBlock) (hB : B ≤ w.heap.size) (hB' : B ≤ B') : Below B w0 w' :=
  hb.grown hg hB fun k hk => Nat.le_trans hB' (ho.lt k hk).1
end Go.Proofs.YtcdnbidenaljlaaDoor

/- Arrays and whole variables in memory: laws for the walk in which the cells stay behind a name. No program is in sight but for the tables of types. -/
namespace Go.Proofs.YtcdnbidenaljlaaDoor
open Go.RowKit

section
variable {P : Program} {ops : Array Oper} {rest : List Oper} {o : Oper} {a : Act} {w : World} {Q : Exit → Act → World → Prop}

/-- 'var x T': its zero cells stay behind a name. -/
theorem wpList_alloc_z (hgd : o.guard = none) (ty : TypeId) (ho : o.op = .alloc ty) (Z : Array Value) (hz : (P.info? ty).bind (fun i => i.zero.map Value.cells) = some Z)
    (h : wpList P ops Q rest (a.put o.dst (.pointer (some ⟨w.heap.size, 0, none⟩))) (w.alloc (.cells Z ty))) : wpList P ops Q (o :: rest) a w := by
  refine wpList_plain hgd fun K hK => ?_
  cases hq : P.info? ty with
  | none => simp [hq] at hz
  | some i =>
    cases hq2 : i.zero with
    | none => simp [hq, hq2] at hz
    | some v =>
      have hv : v.cells = Z := by simpa [hq, hq2] using hz
      unfold Oper.wp execOp
      simp only [ho, Instr.alloc, zeroValue, typeInfo, Sem.run_bind, Sem.run_pure, hq]
      simp [hq, hq2, newVar, newRow, hv]
      exact hK _ _ h

/-- A whole variable is stored into its block. -/
theorem wpList_store_z (hgd : o.guard = none) (ty : TypeId) (x y : Operand) (ho : o.op = .store ty x y) (g : Nat) (hx : a.eval x = .pointer (some ⟨g, 0, none⟩)) (cs : Array Value) (hy : a.eval y = .agg cs)
    (cur : Array Value) (t : TypeId) (hg : w.heap[g]? = some (.cells cur t (0, 0))) (hs : cs.size = cur.size) (hi : (P.info? ty).map (·.size) = some cs.size) (h1 : ∀ u ∈ cs.toList, u.oneCell' = true)
    (h : wpList P ops Q rest (a.put o.dst undef) (w.setRow g cs)) : wpList P ops Q (o :: rest) a w := by
  refine wpList_plain hgd fun K hK => ?_
  have hrun : (storeCells ⟨g, 0, none⟩ cs.toList 0).run P w = .ok () (w.setRow g cs) := by
    have := run_storeCells_at P g 0 t cs.toList 0 cur w hg (by simp [hs]) h1
    rw [this]
    congr 2
    apply Array.ext'
    simp [hs]
  cases hq : P.info? ty with
  | none => simp [hq] at hi
  | some i =>
    have hsz : cs.size = i.size := by simp [hq] at hi; omega
    unfold Oper.wp execOp
    simp only [ho, hx, hy, Instr.storeAt, Instr.sureAddr, Sem.run_bind, Sem.run_pure, Result.andThen_ok, storeVar, sizeOf, typeInfo, hq]
    simp [hq, Value.cells, hsz, hrun]
    exact hK _ _ h
end

/-- An element of an array value, read by an index. -/
theorem run_index_agg {P : Program} (w : World) (T e : TypeId) (n : Nat) (k : IntKind) (i : Int) (cs : Array Value) (v : Value) (ht : P.underlying T = some (.array n e)) (hs : (P.info? e).map (·.size) = some 1) (ha : (isAgg e).run P w = .ok false w)
    (h0 : 0 ≤ i) (h1 : i < n) (hv : cs[i.toNat]? = some v) : (Instr.index T (.agg cs) (.int k i)).run P w = .ok v w := by
  cases hq : P.info? e with
  | none => simp [hq] at hs
  | some inf =>
    have hsz : inf.size = 1 := by simpa [hq] using hs
    simp [Instr.index, asIntOf, run_underlying ht, h0, h1, part, ha, sizeOf, typeInfo, hq, hsz, hv]
end Go.Proofs.YtcdnbidenaljlaaDoor

/- Arrays of integers as values: two are the same. No program is in sight but for the tables of types. -/
namespace Go.Proofs.YtcdnbidenaljlaaDoor
open Go.RowKit Go.ChangeMaps

def intsC (k : IntKind) (xs : List Int) : Array Value := (xs.map (Value.int k)).toArray
theorem intsC_get (k : IntKind) (xs : List Int) (i : Nat) (h : i < xs.length) : (intsC k xs)[i]? = some (.int k (xs.getD i 0)) := by simp [intsC, h]
section
variable {P : Program} (w : World)
theorem run_part_int (e : TypeId) (hag : (isAgg e).run P w = .ok false w) (k : IntKind) (xs : List Int) (i : Nat) (h : i < xs.length) : (part e (intsC k xs) i).run P w = .ok (.int k (xs.getD i 0)) w := by
  unfold part
  simp only [Sem.run_bind, hag, Result.andThen_ok, Bool.false_eq_true, if_false]
  rw [intsC_get k xs i h]
  rfl
theorem run_eqItems_ints (d : Nat) (e : TypeId) (k k' : IntKind) (he : P.underlying e = some (.int k')) (hag : (isAgg e).run P w = .ok false w) (xs ys : List Int) : ∀ (is : List Nat), (∀ i ∈ is, i < xs.length ∧ i < ys.length) →
    (Op.eqItems (d + 1) e 1 (intsC k xs) (intsC k ys) is).run P w = .ok (is.all fun i => xs.getD i 0 == ys.getD i 0) w
  | [], _ => by simp [Op.eqItems]
  | i :: is, h => by
    have h0 := h i (List.mem_cons_self ..)
    have ih := run_eqItems_ints d e k k' he hag xs ys is fun j hj => h j (List.mem_cons_of_mem _ hj)
    simp only [Op.eqItems, Sem.run_bind, Nat.mul_one, run_part_int w e hag k xs i h0.1, run_part_int w e hag k ys i h0.2, Result.andThen_ok, run_equalIn_int w d e k k' _ _ he, List.all_cons]
    cases xs.getD i 0 == ys.getD i 0 with
    | false => simp
    | true => simpa using ih
theorem run_eq_ints (d : Nat) (T e : TypeId) (n : Nat) (k k' : IntKind) (ht : P.underlying T = some (.array n e)) (he : P.underlying e = some (.int k')) (hi : (P.info? e).map (·.size) = some 1) (hag : (isAgg e).run P w = .ok false w)
    (xs ys : List Int) (hx : xs.length = n) (hy : ys.length = n) : (Op.equalIn (d + 2) T (.agg (intsC k xs)) (.agg (intsC k ys))).run P w = .ok (decide (xs = ys)) w := by
  cases hq : P.info? e with
  | none => simp [hq] at hi
  | some i =>
    have hs : P.cellsOf e = 1 := by unfold Program.cellsOf; rw [hq]; simpa [hq] using hi
    rw [run_equalIn_array w (d + 1) _ _ ht hq, hs, run_eqItems_ints w d e k k' he hag xs ys _ fun j hj => by rw [hx, hy]; exact ⟨List.mem_range.1 hj, List.mem_range.1 hj⟩]
    congr 1
    rw [Bool.eq_iff_iff, List.all_eq_true, decide_eq_true_iff]
    constructor
    · intro h
      apply List.ext_getElem (by omega)
      intro j h1 h2
      have := h j (List.mem_range.2 (by omega))
      simpa [h1, h2] using this
    · rintro rfl j _
      simp
end
end Go.Proofs.YtcdnbidenaljlaaDoor

/- Regions that draw their order, and hold allocations beside calls: one obligation an operation, whatever the order. What an operation leaves is told by a relation between its value and the world that lives on while memory grows. No program in sight. -/
namespace Go.Proofs.YtcdnbidenaljlaaDoor
open Go.RowKit

namespace Reg
def dst (ops : Array Oper) (i : Nat) : Option Tmp := (ops[i]?).bind (·.dst)
def dp (ops : Array Oper) (i : Nat) : List Nat := match ops[i]? with
  | none => []
  | some o => (o.after.toList.filter fun e => Region.binds .any e).map (·.on)
def maskOf (T : List Nat) (ds : List Nat) (m : Nat) : Nat := ds.foldl (fun m d => m ||| 2 ^ d ||| T.getD d 0) m
def anc (ops : Array Oper) : Nat → List Nat
  | 0 => []
  | k + 1 => anc ops k ++ [maskOf (anc ops k) (dp ops k) 0]
theorem mask_bit (T : List Nat) (ds : List Nat) (m u : Nat) (h : (maskOf T ds m).testBit u = true) : m.testBit u = true ∨ ∃ d ∈ ds, u = d ∨ (T.getD d 0).testBit u = true := by
  induction ds generalizing m with
  | nil => exact .inl h
  | cons d ds ih =>
    rcases ih _ h with h1 | ⟨x, hx, h1⟩
    · rw [Nat.testBit_or, Nat.testBit_or, Bool.or_eq_true, Bool.or_eq_true] at h1
      rcases h1 with (h1 | h1) | h1
      · exact .inl h1
      · rw [Nat.testBit_two_pow] at h1
        exact .inr ⟨d, List.mem_cons_self .., .inl (by simpa using h1 : d = u).symm⟩
      · exact .inr ⟨d, List.mem_cons_self .., .inr h1⟩
    · exact .inr ⟨x, List.mem_cons_of_mem _ hx, h1⟩
theorem anc_length (ops : Array Oper) (k : Nat) : (anc ops k).length = k := by
  induction k with
  | zero => rfl
  | succ k ih => simp [anc, ih]
theorem anc_spec {ops : Array Oper} {L : Nat → Prop} (hd : ∀ i, L i → ∀ j ∈ dp ops i, L j) : ∀ (k i u : Nat), i < k → L i → ((anc ops k).getD i 0).testBit u = true → L u := by
  intro k
  induction k with
  | zero => intro i u h; omega
  | succ k ih =>
    intro i u h hi hb
    rcases Nat.lt_or_ge i k with hlt | hge
    · rw [anc, List.getD_eq_getElem?_getD, List.getElem?_append_left (by rw [anc_length]; exact hlt), ← List.getD_eq_getElem?_getD] at hb
      exact ih i u hlt hi hb
    · obtain rfl : i = k := by omega
      rw [anc, List.getD_eq_getElem?_getD, List.getElem?_append_right (by rw [anc_length]; exact Nat.le_refl _), anc_length, Nat.sub_self] at hb
      rcases mask_bit _ _ _ _ hb with h0 | ⟨d, hdm, h1⟩
      · simp at h0
      · have hL := hd i hi d hdm
        rcases h1 with rfl | h1
        · exact hL
        · rcases Nat.lt_or_ge d i with hdi | hdi
          · exact ih d u hdi hL h1
          · rw [List.getD_eq_getElem?_getD, List.getElem?_eq_none (by rw [anc_length]; exact hdi)] at h1
            simp at h1
def notSel (o : Oper) : Bool := match o.op with
  | .select _ _ => false
  | _ => true
def dstOk (n : Nat) (o : Oper) : Bool := match o.dst with
  | some d => decide (d < n)
  | none => false
/-- What the text of the region has to be like: each of U leaves a value in a slot of its own, waits for what it reads, and for none but U; the others wait for all of U. -/
def chk (ops : Array Oper) (n : Nat) (U : List Nat) : Bool :=
  (U.all fun i => match ops[i]? with
    | none => false
    | some o => dstOk n o && notSel o && (dp ops i).all (fun j => U.contains j && decide (j < i)) &&
        (o.looksAt ops).all fun t => U.all fun j => !(dst ops j == some t) || (dp ops i).contains j || ((anc ops ops.size).getD j 0).testBit i) &&
  (U.all fun i => U.all fun j => i == j || !(dst ops i == dst ops j)) &&
  (List.range ops.size).all fun k => U.contains k || U.all fun u => ((anc ops ops.size).getD k 0).testBit u
/-- The frame with the values of some. -/
def gfr (ops : Array Oper) (a0 : Act) (v : Nat → Value) : List Nat → Act
  | [] => a0
  | j :: r => (gfr ops a0 v r).put (dst ops j) (v j)
def val (ops : Array Oper) (a : Act) (i : Nat) : Value := match dst ops i with
  | some d => a.tmps.getD d undef
  | none => undef
section
variable {ops : Array Oper} {a0 : Act} {v : Nat → Value}
theorem put_size (a : Act) (d : Option Tmp) (u : Value) : (a.put d u).tmps.size = a.tmps.size := by cases d <;> simp [Act.put]
theorem put_defers (a : Act) (d : Option Tmp) (u : Value) : (a.put d u).defers = a.defers := by cases d <;> rfl
theorem put_other (a : Act) (d : Option Tmp) (u : Value) (t : Nat) (h : d ≠ some t) : (a.put d u).tmps[t]? = a.tmps[t]? := by
  cases d with
  | none => rfl
  | some x => simp only [Act.put]; rw [Array.getElem?_setIfInBounds_ne (fun e => h (by rw [e]))]
theorem put_same (a : Act) (t : Nat) (u : Value) (h : t < a.tmps.size) : (a.put (some t) u).tmps[t]? = some u := by simp [Act.put, h]
theorem gfr_size (L : List Nat) : (gfr ops a0 v L).tmps.size = a0.tmps.size := by
  induction L with
  | nil => rfl
  | cons j L ih => rw [gfr, put_size, ih]
theorem gfr_defers (L : List Nat) : (gfr ops a0 v L).defers = a0.defers := by
  induction L with
  | nil => rfl
  | cons j L ih => rw [gfr, put_defers, ih]
theorem gfr_out (L : List Nat) (t : Nat) (h : ∀ j ∈ L, dst ops j ≠ some t) : (gfr ops a0 v L).tmps[t]? = a0.tmps[t]? := by
  induction L with
  | nil => rfl
  | cons j L ih => rw [gfr, put_other _ _ _ _ (h j (List.mem_cons_self ..)), ih fun x hx => h x (List.mem_cons_of_mem _ hx)]
theorem gfr_in (L : List Nat) (j t : Nat) (hn : ∀ x ∈ L, dst ops x = some t → x = j) (hj : j ∈ L) (hd : dst ops j = some t) (ht : t < a0.tmps.size) : (gfr ops a0 v L).tmps[t]? = some (v j) := by
  induction L with
  | nil => cases hj
  | cons x L ih =>
    rw [gfr]
    by_cases hx : dst ops x = some t
    · obtain rfl := hn x (List.mem_cons_self ..) hx
      rw [hx, put_same _ _ _ (by rw [gfr_size]; exact ht)]
    · rw [put_other _ _ _ _ hx]
      rcases List.mem_cons.1 hj with rfl | hj
      · exact absurd hd hx
      · exact ih (fun y hy => hn y (List.mem_cons_of_mem _ hy)) hj
theorem act_ext {a b : Act} (h1 : a.defers = b.defers) (h2 : ∀ t : Nat, a.tmps[t]? = b.tmps[t]?) : a = b := by
  cases a
  cases b
  simp only at h1 h2
  subst h1
  congr 1
  exact Array.ext_getElem? h2
end
/-- What is asked of operation number i. -/
def OpOK (P : Program) (ops : Array Oper) (a0 : Act) (w0 : World) (R : Nat → Value → World → Prop) (D : Nat → Nat → Value → Value → Prop) (i : Nat) : Prop :=
  ∀ (v : Nat → Value) (w : World), Below w0.heap.size w0 w → (∀ j ∈ dp ops i, R j (v j) w) → ∀ o, ops[i]? = some o →
    ∀ K : Act → World → Prop, (∀ u w', Below w.heap.size w w' → R i u w' → (∀ j x, j ≠ i → R j x w → D i j u x ∧ D j i x u) → K ((gfr ops a0 v (dp ops i)).put o.dst u) w') →
      if Region.wanted o (yielded ops (gfr ops a0 v (dp ops i)).tmps) = true then o.wp P (gfr ops a0 v (dp ops i)) w K (fun _ _ _ => False) else K ((gfr ops a0 v (dp ops i)).put o.dst undef) w
structure J (ops : Array Oper) (U : List Nat) (a0 : Act) (w0 : World) (R : Nat → Value → World → Prop) (D : Nat → Nat → Value → Value → Prop) (listed : Array Bool) (a : Act) (w : World) : Prop where
  sz : listed.size = ops.size
  down : ∀ i, listed.getD i false = true → ∀ j ∈ dp ops i, listed.getD j false = true
  inU : ∀ i, listed.getD i false = true → i ∈ U
  dfr : a.defers = a0.defers
  len : a.tmps.size = a0.tmps.size
  old : ∀ t, (∀ i ∈ U, listed.getD i false = true → dst ops i ≠ some t) → a.tmps[t]? = a0.tmps[t]?
  rel : ∀ i ∈ U, listed.getD i false = true → R i (val ops a i) w
  dis : ∀ i ∈ U, ∀ j ∈ U, i ≠ j → listed.getD i false = true → listed.getD j false = true → D i j (val ops a i) (val ops a j)
  s : Below w0.heap.size w0 w

section
variable {P : Program} {ops : Array Oper} {Q : Exit → Act → World → Prop} {U : List Nat} {a0 : Act} {w0 : World} {R : Nat → Value → World → Prop} {D : Nat → Nat → Value → Value → Prop}

/-- An operation carried out in a frame that looks the same to it. -/
theorem wp_transfer {o : Oper} {a G : Act} {w : World} {post : Value → World → Prop} {K : Act → World → Prop} (he : execOp a.eval o = execOp G.eval o) {d : Nat} (hd : o.dst = some d) (hlt : d < G.tmps.size) (hdf : G.defers = a0.defers)
    (h : ∀ K' : Act → World → Prop, (∀ u w', post u w' → K' (G.put o.dst u) w') → o.wp P G w K' (fun _ _ _ => False)) (hK : ∀ u w', post u w' → K (a.put o.dst u) w') : o.wp P a w K Q := by
  have h1 := h (fun a' w' => a'.defers = a0.defers ∧ post (a'.tmps.getD d undef) w') (fun u w' hp => ⟨by rw [put_defers]; exact hdf, by
    rw [hd]
    have := put_same G d u hlt
    rw [Array.getD_eq_getD_getElem?, this]
    exact hp⟩)
  have key : ∀ u w', (G.put o.dst u).defers = a0.defers ∧ post ((G.put o.dst u).tmps.getD d undef) w' → post u w' := fun u w' hp => by
    have h2 := hp.2
    rw [hd, Array.getD_eq_getD_getElem?, put_same G d u hlt] at h2
    exact h2
  unfold Oper.wp at *
  rw [he]
  generalize (execOp G.eval o).run P w = r at *
  cases r with
  | ok n w' =>
    cases n <;> simp only [Oper.upon] at h1 ⊢
    case value u => exact hK u w' (key u w' h1)
    case skip => exact hK _ w' (key _ w' h1)
    case defer d' =>
      have := h1.1
      rw [put_defers] at this
      simp only [hdf] at this
      exact absurd this (by simp)
    case enter f args =>
      refine Calls.mono h1 fun e w'' hh => ?_
      cases e with
      | returned u => exact hK u w'' (key u w'' hh)
      | panicked c => exact hh.elim
      | outgrown => obtain ⟨_, _, hh⟩ := hh; exact hh.elim
    case row row args => exact Rows.mono h1 fun u w'' hh => hK u w'' (key u w'' hh)
    all_goals exact h1
  | halt x w' => cases x <;> simp only [Oper.upon] at h1 ⊢

theorem chk_spec {n : Nat} (h : chk ops n U = true) :
    (∀ i ∈ U, ∃ o d, ops[i]? = some o ∧ o.dst = some d ∧ d < n ∧ notSel o = true ∧ (∀ j ∈ dp ops i, j ∈ U ∧ j < i) ∧ ∀ t ∈ o.looksAt ops, ∀ j ∈ U, dst ops j = some t → j ∈ dp ops i ∨ ((anc ops ops.size).getD j 0).testBit i = true) ∧
    (∀ i ∈ U, ∀ j ∈ U, i ≠ j → dst ops i ≠ dst ops j) ∧
    (∀ k, k < ops.size → k ∉ U → ∀ u ∈ U, ((anc ops ops.size).getD k 0).testBit u = true) := by
  unfold chk at h
  rw [Bool.and_eq_true, Bool.and_eq_true, List.all_eq_true, List.all_eq_true, List.all_eq_true] at h
  obtain ⟨⟨h1, h2⟩, h3⟩ := h
  refine ⟨fun i hi => ?_, fun i hi j hj hne he => ?_, fun k hk hn u hu => ?_⟩
  · have := h1 i hi
    cases ho : ops[i]? with
    | none => rw [ho] at this; cases this
    | some o =>
      rw [ho] at this
      simp only [Bool.and_eq_true, List.all_eq_true] at this
      obtain ⟨⟨⟨g1, g2⟩, g3⟩, g4⟩ := this
      unfold dstOk at g1
      cases hd : o.dst with
      | none => rw [hd] at g1; cases g1
      | some d =>
        rw [hd] at g1
        refine ⟨o, d, rfl, hd, by simpa using g1, g2, fun j hj => by simpa using g3 j hj, fun t ht j hj hjt => ?_⟩
        have := g4 t ht j hj
        simp only [Bool.or_eq_true, Bool.not_eq_true', beq_eq_false_iff_ne, ne_eq] at this
        rcases this with (h | h) | h
        · exact absurd hjt h
        · exact .inl (by simpa using h)
        · exact .inr h
  · have := List.all_eq_true.1 (h2 i hi) j hj
    simp only [Bool.or_eq_true, beq_iff_eq, Bool.not_eq_true', beq_eq_false_iff_ne, ne_eq] at this
    exact this.elim hne (fun h => h he)
  · have := h3 k (List.mem_range.2 hk)
    simp only [Bool.or_eq_true, List.all_eq_true] at this
    rcases this with h | h
    · exact absurd (by simpa using h) hn
    · exact h u hu
theorem dp_of {i : Nat} {o : Oper} (ho : ops[i]? = some o) (j : Nat) : j ∈ dp ops i ↔ ∃ e ∈ o.after, Region.binds .any e = true ∧ e.on = j := by
  unfold dp
  rw [ho]
  simp [and_assoc]
theorem val_of {a : Act} {i t : Nat} (h : dst ops i = some t) : val ops a i = (a.tmps[t]?).getD undef := by
  unfold val
  rw [h]
  simp only [Array.getD_eq_getD_getElem?]
theorem dst_of {i : Nat} {o : Oper} (ho : ops[i]? = some o) : dst ops i = o.dst := by unfold dst; rw [ho]; rfl
/-- One step: whichever of U comes up. -/
theorem J.step {listed : Array Bool} {a : Act} {w : World} (hc : chk ops a0.tmps.size U = true) (hst : ∀ i u w w', R i u w → Below w.heap.size w w' → R i u w') (hop : ∀ i ∈ U, OpOK P ops a0 w0 R D i)
    (h : J ops U a0 w0 R D listed a w) {i : Nat} (hr : i ∈ Region.ready .any ops listed) (hi : i ∈ U) : wpOp P ops Q i (fun a' w' => J ops U a0 w0 R D (listed.setIfInBounds i true) a' w') a w := by
  obtain ⟨c1, c2, c3⟩ := chk_spec hc
  obtain ⟨hun, o, ho, hall⟩ := mem_ready.1 hr
  obtain ⟨o', d, ho', hd, hlt, hsel, hdU', hlook⟩ := c1 i hi
  have hdU : ∀ j ∈ dp ops i, j ∈ U := fun j hj => (hdU' j hj).1
  rw [ho] at ho'
  cases ho'
  have hsz : i < listed.size := by
    rcases Nat.lt_or_ge i listed.size with h' | h'
    · exact h'
    · simp [Array.getElem?_eq_none h'] at hun
  have hunf : listed.getD i false = false := by
    simp [hsz] at hun ⊢
    exact hun
  have hdl : ∀ j ∈ dp ops i, listed.getD j false = true := fun j hj => by
    obtain ⟨e, he, hb, rfl⟩ := (dp_of ho j).1 hj
    exact hall e he hb
  have hsel' : ∀ cs b, o.op ≠ .select cs b := fun cs b e => by unfold notSel at hsel; rw [e] at hsel; cases hsel
  -- the slots that o looks at
  have hsame : ∀ t ∈ o.looksAt ops, a.tmps[t]? = (gfr ops a0 (val ops a) (dp ops i)).tmps[t]? := fun t ht => by
    by_cases hex : ∃ j ∈ U, dst ops j = some t
    · obtain ⟨j, hj, hjt⟩ := hex
      have huniq : ∀ x ∈ U, dst ops x = some t → x = j := fun x hx hxt => Classical.byContradiction fun hne => c2 x hx j hj hne (by rw [hxt, hjt])
      by_cases hjd : j ∈ dp ops i
      · obtain ⟨oj, dj, hoj, hdj, hltj, _⟩ := c1 j hj
        have hdj' : dst ops j = some dj := by rw [dst_of hoj, hdj]
        rw [hjt] at hdj'
        cases hdj'
        rw [gfr_in _ j t (fun x hx => huniq x (hdU x hx)) hjd hjt hltj]
        unfold val
        rw [hjt]
        have : t < a.tmps.size := by rw [h.len]; exact hltj
        simp [this]
      · have hb := (hlook t ht j hj hjt).resolve_left hjd
        have hjn : listed.getD j false = false := by
          cases hjl : listed.getD j false with
          | false => rfl
          | true =>
            have hjs : j < ops.size := by
              rcases Nat.lt_or_ge j ops.size with h' | h'
              · exact h'
              · obtain ⟨oj, _, hoj, _⟩ := c1 j hj
                rw [Array.getElem?_eq_none h'] at hoj
                cases hoj
            have := anc_spec (L := fun x => listed.getD x false = true) h.down ops.size j i hjs hjl hb
            rw [hunf] at this
            cases this
        rw [h.old t (fun x hx hxl hxt => by rw [huniq x hx hxt, hjn] at hxl; cases hxl), gfr_out _ t (fun x hx hxt => hjd (huniq x (hdU x hx) hxt ▸ hx))]
    · rw [h.old t (fun x hx _ hxt => hex ⟨x, hx, hxt⟩), gfr_out _ t (fun x hx hxt => hex ⟨x, hdU x hx, hxt⟩)]
  have hex : execOp a.eval o = execOp (gfr ops a0 (val ops a) (dp ops i)).eval o := execOp_congr o hsel' fun x hx => by
    cases x with
    | tmp t =>
      have := hsame t (List.mem_append_left _ (List.mem_filterMap.2 ⟨.tmp t, by simpa using hx, rfl⟩))
      simp only [Act.eval, Array.getD_eq_getD_getElem?, this]
    | _ => rfl
  have hwant : Region.wanted o (yielded ops a.tmps) = Region.wanted o (yielded ops (gfr ops a0 (val ops a) (dp ops i)).tmps) := by
    unfold Region.wanted
    cases hg : o.guard with
    | none => rfl
    | some gw =>
      obtain ⟨g, want⟩ := gw
      have hy : yielded ops a.tmps g = yielded ops (gfr ops a0 (val ops a) (dp ops i)).tmps g := by
        unfold yielded
        cases ht : (ops[g]?).bind (·.dst) with
        | none => rfl
        | some t =>
          have := hsame t (List.mem_append_right _ (by simp [hg, ht]))
          simp only [Option.bind_some, this]
      simp only [hy]
  have hdsti : dst ops i = some d := by rw [dst_of ho, hd]
  have hop' := hop i hi (val ops a) w h.s (fun j hj => h.rel j (hdU j hj) (hdl j hj)) o ho
  -- what comes behind
  have hend : ∀ u w', (Below w.heap.size w w' ∧ R i u w' ∧ ∀ j x, j ≠ i → R j x w → D i j u x ∧ D j i x u) → J ops U a0 w0 R D (listed.setIfInBounds i true) (a.put o.dst u) w' := fun u w' ⟨hb, hR, hD⟩ => by
    have hvi : val ops (a.put o.dst u) i = u := by
      rw [val_of hdsti, hd, put_same a d u (by rw [h.len]; exact hlt)]
      rfl
    have hvj : ∀ j ∈ U, j ≠ i → val ops (a.put o.dst u) j = val ops a j := fun j hj hne => by
      obtain ⟨oj, t, hoj, hdj0, _⟩ := c1 j hj
      have hdj : dst ops j = some t := by rw [dst_of hoj, hdj0]
      rw [val_of hdj, val_of hdj, put_other a o.dst u t (by rw [hd, ← hdsti, ← hdj]; exact c2 i hi j hj (Ne.symm hne))]
    have hset : ∀ j, (listed.setIfInBounds i true).getD j false = true ↔ j = i ∨ listed.getD j false = true := fun j => by
      by_cases hji : j = i
      · subst hji
        simp [hsz]
      · rw [getD_set_ne false (Ne.symm hji)]
        simp [hji]
    refine ⟨by rw [Array.size_setIfInBounds]; exact h.sz, fun j hj k hk => ?_, fun j hj => ?_, by rw [put_defers]; exact h.dfr, by rw [put_size]; exact h.len, fun t ht => ?_, fun j hj hjl => ?_, fun j hj k hk hne hjl hkl => ?_, below_then h.s hb (Nat.le_refl _)⟩
    · rcases (hset j).1 hj with rfl | hj
      · exact (hset k).2 (.inr (hdl k hk))
      · exact (hset k).2 (.inr (h.down j hj k hk))
    · rcases (hset j).1 hj with rfl | hj
      · exact hi
      · exact h.inU j hj
    · rw [put_other a o.dst u t (by rw [hd, ← hdsti]; exact ht i hi ((hset i).2 (.inl rfl))), h.old t fun j hj hjl => ht j hj ((hset j).2 (.inr hjl))]
    · by_cases hji : j = i
      · subst hji
        rw [hvi]
        exact hR
      · rw [hvj j hj hji]
        exact hst j _ w w' (h.rel j hj (((hset j).1 hjl).resolve_left hji)) hb
    · by_cases hji : j = i
      · subst hji
        rw [hvi, hvj k hk (Ne.symm hne)]
        exact (hD k _ (Ne.symm hne) (h.rel k hk (((hset k).1 hkl).resolve_left (Ne.symm hne)))).1
      · by_cases hki : k = i
        · subst hki
          rw [hvi, hvj j hj hji]
          exact (hD j _ hji (h.rel j hj (((hset j).1 hjl).resolve_left hji))).2
        · rw [hvj j hj hji, hvj k hk hki]
          exact h.dis j hj k hk hne (((hset j).1 hjl).resolve_left hji) (((hset k).1 hkl).resolve_left hki)
  unfold wpOp
  rw [ho]
  simp only
  rw [hwant]
  by_cases hw : Region.wanted o (yielded ops (gfr ops a0 (val ops a) (dp ops i)).tmps) = true
  · rw [if_pos hw]
    refine .inl (wp_transfer (a0 := a0) (post := fun u w' => Below w.heap.size w w' ∧ R i u w' ∧ ∀ j x, j ≠ i → R j x w → D i j u x ∧ D j i x u) hex hd (by rw [gfr_size]; exact hlt) (gfr_defers _) (fun K' hK' => ?_) hend)
    have := hop' K' (fun u w' h1 h2 h3 => hK' u w' ⟨h1, h2, h3⟩)
    rwa [if_pos hw] at this
  · rw [if_neg hw]
    -- not wanted: the slot is told nothing of; so it must be told to be so
    have h0 := hop' (fun a' w' => (Below w.heap.size w w' ∧ R i (a'.tmps.getD d undef) w' ∧ ∀ j x, j ≠ i → R j x w → D i j (a'.tmps.getD d undef) x ∧ D j i x (a'.tmps.getD d undef))) (fun u w' h1 h2 h3 => by
      have : ((gfr ops a0 (val ops a) (dp ops i)).put o.dst u).tmps.getD d undef = u := by
        rw [hd, Array.getD_eq_getD_getElem?, put_same _ d u (by rw [gfr_size]; exact hlt)]
        rfl
      rw [this]
      exact ⟨h1, h2, h3⟩)
    rw [if_neg hw] at h0
    have : ((gfr ops a0 (val ops a) (dp ops i)).put o.dst undef).tmps.getD d undef = undef := by
      rw [hd, Array.getD_eq_getD_getElem?, put_same _ d undef (by rw [gfr_size]; exact hlt)]
      rfl
    rw [this] at h0
    exact hend undef w h0
def cnt (l : List Nat) (listed : Array Bool) : Nat := (l.filter fun i => !listed.getD i false).length
theorem cnt_set (l : List Nat) (listed : Array Bool) (i : Nat) : cnt l (listed.setIfInBounds i true) ≤ cnt l listed ∧ (i ∈ l → i < listed.size → listed.getD i false = false → cnt l (listed.setIfInBounds i true) < cnt l listed) := by
  induction l with
  | nil => exact ⟨Nat.le_refl _, fun h => by cases h⟩
  | cons x l ih =>
    unfold cnt at *
    by_cases hx : x = i
    · subst hx
      have h1 : x < listed.size → (listed.setIfInBounds x true).getD x false = true := fun h => by simp [h]
      by_cases hs : x < listed.size
      · rw [List.filter_cons_of_neg (by rw [h1 hs]; simp)]
        cases hl : listed.getD x false with
        | true =>
          rw [List.filter_cons_of_neg (by rw [hl]; simp)]
          exact ⟨ih.1, fun _ _ h => by cases h⟩
        | false =>
          rw [List.filter_cons_of_pos (by rw [hl]; rfl), List.length_cons]
          exact ⟨by omega, fun _ _ _ => by omega⟩
      · have : listed.setIfInBounds x true = listed := by simp [Array.setIfInBounds, hs]
        rw [this]
        exact ⟨Nat.le_refl _, fun _ h => absurd h hs⟩
    · have h1 : (listed.setIfInBounds i true).getD x false = listed.getD x false := getD_set_ne false (Ne.symm hx)
      cases hl : listed.getD x false with
      | true =>
        rw [List.filter_cons_of_neg (by rw [h1, hl]; simp), List.filter_cons_of_neg (by rw [hl]; simp)]
        exact ⟨ih.1, fun hm hs hf => ih.2 ((List.mem_cons.1 hm).resolve_left (Ne.symm hx)) hs hf⟩
      | false =>
        rw [List.filter_cons_of_pos (by rw [h1, hl]; rfl), List.filter_cons_of_pos (by rw [hl]; rfl), List.length_cons, List.length_cons]
        exact ⟨by omega, fun hm hs hf => by have := ih.2 ((List.mem_cons.1 hm).resolve_left (Ne.symm hx)) hs hf; omega⟩
/-- The array of what has come up once U is through. -/
def lst (ops : Array Oper) (U : List Nat) : Array Bool := (List.map (fun i => U.contains i) (List.range ops.size)).toArray
theorem J.ready_in {listed : Array Bool} {a : Act} {w : World} (h : J ops U a0 w0 R D listed a w) {i : Nat} (hi : i < ops.size) (hd : ∀ j ∈ dp ops i, listed.getD j false = true) (h0 : Region.ready .any ops listed = []) : listed.getD i false = true := by
  cases hl : listed.getD i false with
  | true => rfl
  | false =>
    exfalso
    have ho : ops[i]? = some ops[i] := Array.getElem?_eq_getElem hi
    have : i ∈ Region.ready .any ops listed := mem_ready.2 ⟨by
      have hs : i < listed.size := by rw [h.sz]; exact hi
      simp [hs] at hl ⊢
      exact hl, _, ho, fun e he hb => hd _ ((dp_of ho _).2 ⟨e, he, hb, rfl⟩)⟩
    rw [h0] at this
    cases this
theorem J.fin {listed : Array Bool} {a : Act} {w : World} (hc : chk ops a0.tmps.size U = true) (h : J ops U a0 w0 R D listed a w) (hall : ∀ u ∈ U, listed.getD u false = true)
    (hend : ∀ (v : Nat → Value) (w : World), Below w0.heap.size w0 w → (∀ i ∈ U, R i (v i) w) → (∀ i ∈ U, ∀ j ∈ U, i ≠ j → D i j (v i) (v j)) → ∀ fuel, cnt (List.range ops.size) (lst ops U) ≤ fuel → wpAny P .any ops Q fuel (lst ops U) (gfr ops a0 v U) w)
    {fuel : Nat} (hf : cnt (List.range ops.size) listed ≤ fuel) : wpAny P .any ops Q fuel listed a w := by
  obtain ⟨c1, c2, c3⟩ := chk_spec hc
  have hl : listed = lst ops U := by
    apply Array.ext (by rw [h.sz]; simp [lst])
    intro i h1 h2
    have h3 : (lst ops U)[i] = U.contains i := by simp [lst]
    rw [h3]
    cases hu : listed[i] with
    | true => exact (by have := h.inU i (by simp [h1, hu]); simp [this] : true = U.contains i)
    | false =>
      refine Eq.symm (Bool.eq_false_iff.2 fun hm => ?_)
      have := hall i (by simpa using hm)
      simp [h1, hu] at this
  have ha : a = gfr ops a0 (val ops a) U := act_ext (by rw [gfr_defers, h.dfr]) fun t => by
    by_cases hex : ∃ j ∈ U, dst ops j = some t
    · obtain ⟨j, hj, hjt⟩ := hex
      obtain ⟨oj, dj, hoj, hdj, hltj, _⟩ := c1 j hj
      have hdj' : dst ops j = some dj := by rw [dst_of hoj, hdj]
      rw [hjt] at hdj'
      cases hdj'
      rw [gfr_in _ j t (fun x hx hxt => Classical.byContradiction fun hne => c2 x hx j hj hne (by rw [hxt, hjt])) hj hjt hltj, val_of hjt]
      have : t < a.tmps.size := by rw [h.len]; exact hltj
      simp [this]
    · rw [h.old t (fun x hx _ hxt => hex ⟨x, hx, hxt⟩), gfr_out _ t (fun x hx hxt => hex ⟨x, hx, hxt⟩)]
  have hrel : ∀ i ∈ U, R i (val ops a i) w := fun i hi => h.rel i hi (hall i hi)
  have hdis : ∀ i ∈ U, ∀ j ∈ U, i ≠ j → D i j (val ops a i) (val ops a j) := fun i hi j hj hne => h.dis i hi j hj hne (hall i hi) (hall j hj)
  rw [hl] at hf ⊢
  generalize val ops a = v at *
  subst ha
  exact hend v w h.s hrel hdis fuel hf
theorem region_go (hc : chk ops a0.tmps.size U = true) (hst : ∀ i u w w', R i u w → Below w.heap.size w w' → R i u w') (hop : ∀ i ∈ U, OpOK P ops a0 w0 R D i)
    (hend : ∀ (v : Nat → Value) (w : World), Below w0.heap.size w0 w → (∀ i ∈ U, R i (v i) w) → (∀ i ∈ U, ∀ j ∈ U, i ≠ j → D i j (v i) (v j)) → ∀ fuel, cnt (List.range ops.size) (lst ops U) ≤ fuel → wpAny P .any ops Q fuel (lst ops U) (gfr ops a0 v U) w) :
    ∀ (fuel : Nat) (listed : Array Bool) (a : Act) (w : World), J ops U a0 w0 R D listed a w → cnt (List.range ops.size) listed ≤ fuel → wpAny P .any ops Q fuel listed a w := by
  obtain ⟨c1, c2, c3⟩ := chk_spec hc
  have hUs : ∀ u ∈ U, u < ops.size := fun u hu => by
    obtain ⟨o, _, ho, _⟩ := c1 u hu
    rcases Nat.lt_or_ge u ops.size with h' | h'
    · exact h'
    · rw [Array.getElem?_eq_none h'] at ho; cases ho
  intro fuel
  induction fuel with
  | zero =>
    intro listed a w h hf
    have hall : ∀ u ∈ U, listed.getD u false = true := fun u hu => by
      cases hl : listed.getD u false with
      | true => rfl
      | false =>
        exfalso
        have : u ∈ (List.range ops.size).filter fun i => !listed.getD i false := List.mem_filter.2 ⟨List.mem_range.2 (hUs u hu), by rw [hl]; rfl⟩
        have := List.length_pos_of_mem this
        unfold cnt at hf
        omega
    exact J.fin hc h hall hend hf
  | succ fuel ih =>
    intro listed a w h hf
    by_cases hall : ∀ u ∈ U, listed.getD u false = true
    · exact J.fin hc h hall hend hf
    have hex : ∃ u, u ∈ U ∧ listed.getD u false = false := by
      refine Classical.byContradiction fun hn => hall fun u hu => ?_
      cases hl : listed.getD u false with
      | true => rfl
      | false => exact absurd ⟨u, hu, hl⟩ hn
    refine ⟨fun h0 => ?_, fun i hi => ?_⟩
    · exfalso
      obtain ⟨u, hu, hul⟩ := hex
      have key : ∀ n u, u ≤ n → u ∈ U → listed.getD u false = true := by
        intro n
        induction n with
        | zero =>
          intro u hun hu
          obtain rfl : u = 0 := by omega
          refine J.ready_in h (hUs _ hu) (fun j hj => ?_) h0
          obtain ⟨_, _, _, _, _, _, hd, _⟩ := c1 0 hu
          exact absurd (hd j hj).2 (by omega)
        | succ n ihn =>
          intro u hun hu
          refine J.ready_in h (hUs _ hu) (fun j hj => ?_) h0
          obtain ⟨_, _, _, _, _, _, hd, _⟩ := c1 u hu
          exact ihn j (by have := (hd j hj).2; omega) (hd j hj).1
      rw [key u u (Nat.le_refl _) hu] at hul
      cases hul
    · have hiU : i ∈ U := by
        refine Classical.byContradiction fun hn => ?_
        obtain ⟨u, hu, hul⟩ := hex
        obtain ⟨hun, o, ho, hdep⟩ := mem_ready.1 hi
        have his : i < ops.size := (Array.getElem?_eq_some_iff.1 ho).1
        have := anc_spec (ops := ops) (L := fun x => listed.getD x false = true ∨ x = i) (fun x hx j hj => by
          rcases hx with hx | rfl
          · exact .inl (h.down x hx j hj)
          · obtain ⟨e, he, hb, rfl⟩ := (dp_of ho j).1 hj
            exact .inl (hdep e he hb)) ops.size i u his (.inr rfl) (c3 i his hn u hu)
        rcases this with h1 | rfl
        · rw [h1] at hul; cases hul
        · exact hn hu
      refine wpOp_mono (fun a' w' h' => ih _ a' w' h' ?_) (J.step hc hst hop h hi hiU)
      have hsz : i < listed.size := by rw [h.sz]; exact hUs i hiU
      have hunf : listed.getD i false = false := by
        have := (mem_ready.1 hi).1
        simp [hsz] at this ⊢
        exact this
      have := (cnt_set (List.range ops.size) listed i).2 (List.mem_range.2 (hUs i hiU)) hsz hunf
      omega
theorem rep_false (n i : Nat) : (Array.replicate n false).getD i false = false := by
  rw [Array.getD_eq_getD_getElem?, Array.getElem?_replicate]
  split <;> rfl
/-- A REGION THAT DRAWS ITS ORDER, one obligation an operation. -/
theorem region_rel {id : Nat} (hm : P.follows .mixedOrders = true) (U : List Nat) (R : Nat → Value → World → Prop) (D : Nat → Nat → Value → Value → Prop) (hc : chk ops a0.tmps.size U = true) (hst : ∀ i u w w', R i u w → Below w.heap.size w w' → R i u w') (hop : ∀ i ∈ U, OpOK P ops a0 w0 R D i)
    (hend : ∀ (v : Nat → Value) (w : World), Below w0.heap.size w0 w → (∀ i ∈ U, R i (v i) w) → (∀ i ∈ U, ∀ j ∈ U, i ≠ j → D i j (v i) (v j)) → ∀ fuel, cnt (List.range ops.size) (lst ops U) ≤ fuel → wpAny P .any ops Q fuel (lst ops U) (gfr ops a0 v U) w) :
    (Code.region id ops true).wp P Q a0 w0 := by
  refine wp_region_any hm (region_go hc hst hop hend _ _ _ _ ⟨by simp, fun i hi => ?_, fun i hi => ?_, rfl, rfl, fun t _ => rfl, fun i _ hi => ?_, fun i _ j _ _ hi => ?_, (Below.refl _ w0).drew⟩ ?_)
  · rw [rep_false] at hi; cases hi
  · rw [rep_false] at hi; cases hi
  · rw [rep_false] at hi; cases hi
  · rw [rep_false] at hi; cases hi
  · unfold cnt
    have := List.length_filter_le (fun i => !(Array.replicate ops.size false).getD i false) (List.range ops.size)
    rwa [List.length_range] at this
/-- Where U is all of them. -/
theorem region_all {id : Nat} (hm : P.follows .mixedOrders = true) (R : Nat → Value → World → Prop) (hc : chk ops a0.tmps.size (List.range ops.size) = true) (hst : ∀ i u w w', R i u w → Below w.heap.size w w' → R i u w') (hop : ∀ i ∈ List.range ops.size, OpOK P ops a0 w0 R (fun _ _ _ _ => True) i)
    (hend : ∀ (v : Nat → Value) (w : World), Below w0.heap.size w0 w → (∀ i ∈ List.range ops.size, R i (v i) w) → Q .normal (gfr ops a0 v (List.range ops.size)) w) :
    (Code.region id ops true).wp P Q a0 w0 := by
  refine region_rel hm (List.range ops.size) R (fun _ _ _ _ => True) hc hst hop fun v w h1 h2 _ fuel _ => ?_
  have hr : Region.ready .any ops (lst ops (List.range ops.size)) = [] := by
    refine List.eq_nil_iff_forall_not_mem.2 fun i hi => ?_
    obtain ⟨h0, o, ho, _⟩ := mem_ready.1 hi
    have his : i < ops.size := (Array.getElem?_eq_some_iff.1 ho).1
    simp [lst, his] at h0
  cases fuel with
  | zero => exact ⟨hr, hend v w h1 h2⟩
  | succ fuel => exact ⟨fun _ => hend v w h1 h2, fun i hi => by rw [hr] at hi; cases hi⟩
end
end Reg
end Go.Proofs.YtcdnbidenaljlaaDoor

/- The rules by which the obligations of a drawn region are met: an operation in a frame that is told by its slots alone. No program in sight. -/
namespace Go.Proofs.YtcdnbidenaljlaaDoor
open Go.RowKit

namespace Reg
def look (ops : Array Oper) (L : List Nat) (t : Nat) : Option Nat := L.find? fun j => dst ops j == some t
section
variable {P : Program} {ops : Array Oper} {a0 : Act} {v : Nat → Value} {L : List Nat}
theorem gfr_eval (t j : Nat) (h : look ops L t = some j) (ht : t < a0.tmps.size) : (gfr ops a0 v L).eval (.tmp t) = v j := by
  induction L with
  | nil => cases h
  | cons x L ih =>
    unfold look at h ih
    rw [gfr]
    by_cases hx : dst ops x = some t
    · rw [List.find?_cons_of_pos (by simp [hx])] at h
      cases h
      simp only [Act.eval, Array.getD_eq_getD_getElem?]
      rw [hx, put_same _ t _ (by rw [gfr_size]; exact ht)]
      rfl
    · rw [List.find?_cons_of_neg (by simp [hx])] at h
      have := ih h
      simp only [Act.eval, Array.getD_eq_getD_getElem?] at this ⊢
      rw [put_other _ _ _ _ hx]
      exact this
theorem gfr_eval0 (t : Nat) (h : look ops L t = none) : (gfr ops a0 v L).eval (.tmp t) = a0.eval (.tmp t) := by
  simp only [Act.eval, Array.getD_eq_getD_getElem?]
  rw [gfr_out]
  intro j hj hd
  unfold look at h
  have := List.find?_eq_none.1 h j hj
  simp [hd] at this
theorem wanted_none {o : Oper} {tm : Nat → Option Bool} (h : o.guard = none) : Region.wanted o tm = true := by unfold Region.wanted; rw [h]
theorem wanted_of {o : Oper} {g t : Nat} {b : Bool} {G : Act} (h : o.guard = some (g, b)) (hd : dst ops g = some t) (he : G.eval (.tmp t) = .bool b) : Region.wanted o (yielded ops G.tmps) = true := by
  unfold Region.wanted
  rw [h]
  simp only
  unfold yielded
  unfold dst at hd
  rw [hd]
  simp only [Act.eval, Array.getD_eq_getD_getElem?, Option.bind_some] at he ⊢
  cases ht : G.tmps[t]? with
  | none => rw [ht] at he; cases he
  | some x =>
    rw [ht] at he
    simp only [Option.getD_some] at he
    rw [he]
    simp
def OpGo (P : Program) (o : Oper) (G : Act) (W : World) (post : Value → World → Prop) : Prop := ∀ K : Act → World → Prop, (∀ u w', post u w' → K (G.put o.dst u) w') → o.wp P G W K (fun _ _ _ => False)
theorem go_run {o : Oper} {G : Act} {W : World} {post : Value → World → Prop} (c : Value) (w' : World) (h : (execOp G.eval o).run P W = .ok (.value c) w') (hp : post c w') : OpGo P o G W post := fun K hK => by
  unfold Oper.wp
  rw [h]
  exact hK c w' hp
theorem go_call {o : Oper} {G : Act} {W : World} {post : Value → World → Prop} (f : FuncId) (args : Array Value) (h : (execOp G.eval o).run P W = .ok (.enter f args) W) (hc : Calls P f args W fun e w' => ∃ u, e = .returned u ∧ post u w') : OpGo P o G W post := fun K hK => by
  unfold Oper.wp
  rw [h]
  refine Calls.mono hc fun e w'' he => ?_
  obtain ⟨u, rfl, hp⟩ := he
  exact hK u w'' hp
variable {w0 : World} {R : Nat → Value → World → Prop} {D : Nat → Nat → Value → Value → Prop}
theorem op_ok {i : Nat} {o : Oper} (ho : ops[i]? = some o) (L : List Nat) (hdp : dp ops i = L)
    (h : ∀ (v : Nat → Value) (W : World), Below w0.heap.size w0 W → (∀ j ∈ L, R j (v j) W) → Region.wanted o (yielded ops (gfr ops a0 v L).tmps) = true ∧ OpGo P o (gfr ops a0 v L) W (fun u w' => Below W.heap.size W w' ∧ R i u w')) : OpOK P ops a0 w0 R (fun _ _ _ _ => True) i := fun v W hb hd o' ho' K hK => by
  rw [ho] at ho'
  cases ho'
  rw [hdp] at hd hK ⊢
  obtain ⟨hw, hg⟩ := h v W hb hd
  rw [if_pos hw]
  exact hg K fun u w' ⟨h1, h2⟩ => hK u w' h1 h2 fun _ _ _ _ => ⟨trivial, trivial⟩
/-- The same, where some values have to be unlike. -/
theorem op_okD {i : Nat} {o : Oper} (ho : ops[i]? = some o) (L : List Nat) (hdp : dp ops i = L)
    (h : ∀ (v : Nat → Value) (W : World), Below w0.heap.size w0 W → (∀ j ∈ L, R j (v j) W) → Region.wanted o (yielded ops (gfr ops a0 v L).tmps) = true ∧ OpGo P o (gfr ops a0 v L) W (fun u w' => Below W.heap.size W w' ∧ R i u w' ∧ ∀ j x, j ≠ i → R j x W → D i j u x ∧ D j i x u)) : OpOK P ops a0 w0 R D i := fun v W hb hd o' ho' K hK => by
  rw [ho] at ho'
  cases ho'
  rw [hdp] at hd hK ⊢
  obtain ⟨hw, hg⟩ := h v W hb hd
  rw [if_pos hw]
  exact hg K fun u w' ⟨h1, h2, h3⟩ => hK u w' h1 h2 h3
end
/-- The operations of a function's region. -/
def find (id : Nat) : Code → Option (Array Oper)
  | .region i ops _ => if i = id then some ops else none
  | .seq a b => (find id a).orElse fun _ => find id b
  | .cond _ a b => (find id a).orElse fun _ => find id b
  | .block _ a => find id a
  | .loop a => find id a
  | _ => none
def opsOf (f : Func) (id : Nat) : Array Oper := ((f.body.bind (find id))).getD #[]
/-- A block of one row, laid by the call. -/
def IsRow (t : TypeId) (cs : Array Value) (n : Nat) (u : Value) (w : World) : Prop := ∃ g, u = .slice (some ⟨g, 0, none⟩) n n ∧ w.heap[g]? = some (.cells cs t (0, 0))
theorem IsRow.below {t : TypeId} {cs : Array Value} {n : Nat} {u : Value} {w w' : World} (h : IsRow t cs n u w) (hb : Below w.heap.size w w') : IsRow t cs n u w' := by
  obtain ⟨g, e, h⟩ := h
  refine ⟨g, e, ?_⟩
  rw [hb.block g (by
    rcases Nat.lt_or_ge g w.heap.size with h' | h'
    · exact h'
    · rw [Array.getElem?_eq_none h'] at h; cases h)]
  exact h
end Reg
end Go.Proofs.YtcdnbidenaljlaaDoor

/- A store of several cells into the midst of a row. No program in sight. -/
namespace Go.Proofs.YtcdnbidenaljlaaDoor
open Go.RowKit

theorem wp_store_at {P : Program} {o : Oper} {a : Act} {w : World} {K : Act → World → Prop} {Q : Exit → Act → World → Prop} (ty : TypeId) (x y : Operand) (ho : o.op = .store ty x y) (g off : Nat) (hx : a.eval x = .pointer (some ⟨g, off, none⟩)) (vs : Array Value) (hy : a.eval y = .agg vs)
    (cur : Array Value) (t : TypeId) (hg : w.heap[g]? = some (.cells cur t (0, 0))) (hfit : off + vs.size ≤ cur.size) (h1 : ∀ v ∈ vs.toList, v.oneCell' = true) (hs : (P.info? ty).map (·.size) = some vs.size) (hd : o.dst = none)
    (hK : K a (w.setRow g (cur.toList.take off ++ vs.toList ++ cur.toList.drop (off + vs.size)).toArray)) : o.wp P a w K Q := by
  have hst := run_storeCells_at P g off t vs.toList 0 cur w hg (by simpa using hfit) h1
  cases hq : P.info? ty with
  | none => simp [hq] at hs
  | some i =>
    have hsz : i.size = vs.size := by simpa [hq] using hs
    unfold Oper.wp execOp
    simp only [ho, hx, hy, Instr.storeAt, Instr.sureAddr, Sem.run_bind, Sem.run_pure, Result.andThen_ok, storeVar, sizeOf, typeInfo, hq]
    simp only [Nat.add_zero, Array.length_toList] at hst
    simp [hq, hsz, Value.cells, go_sem, hst, Oper.upon, hd, Act.put]
    rw [List.append_assoc] at hK
    exact hK
end Go.Proofs.YtcdnbidenaljlaaDoor

/- SHA-256 over plain numbers: words, a block's words, a round, a state behind blocks, the hash of bytes. No program is in sight. -/
namespace Go.Proofs.YtcdnbidenaljlaaDoor

def rr (x k : Nat) : Nat := x * 2 ^ (32 - k) % 4294967296 ||| x / 2 ^ k
def add32 (a b : Nat) : Nat := (a + b) % 4294967296
def low0 (a : Nat) : Nat := rr a 7 ^^^ rr a 18 ^^^ a / 8
def high0 (b : Nat) : Nat := rr b 17 ^^^ rr b 19 ^^^ b / 1024
def nxt (p : List Nat) (i : Nat) : Nat := add32 (add32 (add32 (p.getD (i - 16) 0) (low0 (p.getD (i - 15) 0))) (p.getD (i - 7) 0)) (high0 (p.getD (i - 2) 0))
def beW (x : List UInt8) (i : Nat) : Nat := (x.getD (4 * i) 0).toNat * 16777216 + (x.getD (4 * i + 1) 0).toNat * 65536 + (x.getD (4 * i + 2) 0).toNat * 256 + (x.getD (4 * i + 3) 0).toNat
def wrd (x : List UInt8) (p : List Nat) (i : Nat) : Nat := if i < 16 then beW x i else nxt p i
def sched (x : List UInt8) : Nat → List Nat
  | 0 => []
  | i + 1 => sched x i ++ [wrd x (sched x i) i]
structure S8 where
  a : Nat
  b : Nat
  c : Nat
  d : Nat
  e : Nat
  f : Nat
  g : Nat
  h : Nat
def S8.l (s : S8) : List Nat := [s.a, s.b, s.c, s.d, s.e, s.f, s.g, s.h]
def S8.ok (s : S8) : Prop := s.a < 4294967296 ∧ s.b < 4294967296 ∧ s.c < 4294967296 ∧ s.d < 4294967296 ∧ s.e < 4294967296 ∧ s.f < 4294967296 ∧ s.g < 4294967296 ∧ s.h < 4294967296
def chW (e f g : Nat) : Nat := e &&& f ^^^ (4294967295 - e) &&& g
def majW (a b c : Nat) : Nat := a &&& b ^^^ a &&& c ^^^ b &&& c
def sig1 (e : Nat) : Nat := rr e 6 ^^^ rr e 11 ^^^ rr e 25
def sig0 (a : Nat) : Nat := rr a 2 ^^^ rr a 13 ^^^ rr a 22
def oneW (s : S8) (k w : Nat) : Nat := add32 (add32 (add32 (add32 s.h (sig1 s.e)) (chW s.e s.f s.g)) k) w
def twoW (s : S8) : Nat := add32 (sig0 s.a) (majW s.a s.b s.c)
def rnd (s : S8) (k w : Nat) : S8 := ⟨add32 (oneW s k w) (twoW s), s.a, s.b, s.c, add32 s.d (oneW s k w), s.e, s.f, s.g⟩
def ks : List Nat := [0x428a2f98, 0x71374491, 0xb5c0fbcf, 0xe9b5dba5, 0x3956c25b, 0x59f111f1, 0x923f82a4, 0xab1c5ed5,
  0xd807aa98, 0x12835b01, 0x243185be, 0x550c7dc3, 0x72be5d74, 0x80deb1fe, 0x9bdc06a7, 0xc19bf174,
  0xe49b69c1, 0xefbe4786, 0x0fc19dc6, 0x240ca1cc, 0x2de92c6f, 0x4a7484aa, 0x5cb0a9dc, 0x76f988da,
  0x983e5152, 0xa831c66d, 0xb00327c8, 0xbf597fc7, 0xc6e00bf3, 0xd5a79147, 0x06ca6351, 0x14292967,
  0x27b70a85, 0x2e1b2138, 0x4d2c6dfc, 0x53380d13, 0x650a7354, 0x766a0abb, 0x81c2c92e, 0x92722c85,
  0xa2bfe8a1, 0xa81a664b, 0xc24b8b70, 0xc76c51a3, 0xd192e819, 0xd6990624, 0xf40e3585, 0x106aa070,
  0x19a4c116, 0x1e376c08, 0x2748774c, 0x34b0bcb5, 0x391c0cb3, 0x4ed8aa4a, 0x5b9cca4f, 0x682e6ff3,
  0x748f82ee, 0x78a5636f, 0x84c87814, 0x8cc70208, 0x90befffa, 0xa4506ceb, 0xbef9a3f7, 0xc67178f2]
def rds (ws : List Nat) (s : S8) : Nat → S8
  | 0 => s
  | i + 1 => rnd (rds ws s i) (ks.getD i 0) (ws.getD i 0)
def add8 (s t : S8) : S8 := ⟨add32 t.a s.a, add32 t.b s.b, add32 t.c s.c, add32 t.d s.d, add32 t.e s.e, add32 t.f s.f, add32 t.g s.g, add32 t.h s.h⟩
def mixedS (s : S8) (x : List UInt8) : S8 := add8 s (rds (sched x 64) s 64)
def S8.begin : S8 := ⟨0x6a09e667, 0xbb67ae85, 0x3c6ef372, 0xa54ff53a, 0x510e527f, 0x9b05688c, 0x1f83d9ab, 0x5be0cd19⟩
/-- The state behind the first k blocks. -/
def hs (l : List UInt8) : Nat → S8
  | 0 => S8.begin
  | k + 1 => mixedS (hs l k) ((l.drop (64 * k)).take 64)
def be8 (n : Nat) : List UInt8 := [UInt8.ofNat (n / 72057594037927936), UInt8.ofNat (n / 281474976710656), UInt8.ofNat (n / 1099511627776), UInt8.ofNat (n / 4294967296), UInt8.ofNat (n / 16777216), UInt8.ofNat (n / 65536), UInt8.ofNat (n / 256), UInt8.ofNat n]
def noughts (n : Nat) : Nat := (119 - n % 64) % 64
def tailB (n : Nat) : List UInt8 := 128 :: List.replicate (noughts n) 0 ++ be8 (8 * n)
def padB (l : List UInt8) : List UInt8 := l ++ tailB l.length
def be4 (n : Nat) : List UInt8 := [UInt8.ofNat (n / 16777216), UInt8.ofNat (n / 65536), UInt8.ofNat (n / 256), UInt8.ofNat n]
def S8.bytes (s : S8) : List UInt8 := be4 s.a ++ be4 s.b ++ be4 s.c ++ be4 s.d ++ be4 s.e ++ be4 s.f ++ be4 s.g ++ be4 s.h
def sha (l : List UInt8) : List UInt8 := (hs (padB l) ((padB l).length / 64)).bytes

theorem rr_lt (x k : Nat) (hx : x < 4294967296) : rr x k < 4294967296 := by
  unfold rr
  have h1 : x / 2 ^ k < 2 ^ 32 := Nat.lt_of_le_of_lt (Nat.div_le_self _ _) hx
  have h2 : x * 2 ^ (32 - k) % 4294967296 < 2 ^ 32 := Nat.mod_lt _ (by omega)
  exact Nat.or_lt_two_pow h2 h1
theorem add32_lt (a b : Nat) : add32 a b < 4294967296 := Nat.mod_lt _ (by omega)
theorem xor_lt {a b : Nat} (ha : a < 4294967296) (hb : b < 4294967296) : a ^^^ b < 4294967296 := Nat.xor_lt_two_pow (n := 32) ha hb
theorem and_lt {a b : Nat} (ha : a < 4294967296) : a &&& b < 4294967296 := Nat.lt_of_le_of_lt Nat.and_le_left ha
theorem low0_lt (a : Nat) (h : a < 4294967296) : low0 a < 4294967296 := xor_lt (xor_lt (rr_lt _ _ h) (rr_lt _ _ h)) (Nat.lt_of_le_of_lt (Nat.div_le_self _ _) h)
theorem high0_lt (a : Nat) (h : a < 4294967296) : high0 a < 4294967296 := xor_lt (xor_lt (rr_lt _ _ h) (rr_lt _ _ h)) (Nat.lt_of_le_of_lt (Nat.div_le_self _ _) h)
theorem sig0_lt (a : Nat) (h : a < 4294967296) : sig0 a < 4294967296 := xor_lt (xor_lt (rr_lt _ _ h) (rr_lt _ _ h)) (rr_lt _ _ h)
theorem sig1_lt (a : Nat) (h : a < 4294967296) : sig1 a < 4294967296 := xor_lt (xor_lt (rr_lt _ _ h) (rr_lt _ _ h)) (rr_lt _ _ h)
theorem beW_lt (x : List UInt8) (i : Nat) : beW x i < 4294967296 := by
  unfold beW
  have := (x.getD (4 * i) 0).toNat_lt
  have := (x.getD (4 * i + 1) 0).toNat_lt
  have := (x.getD (4 * i + 2) 0).toNat_lt
  have := (x.getD (4 * i + 3) 0).toNat_lt
  omega
theorem wrd_lt (x : List UInt8) (p : List Nat) (i : Nat) : wrd x p i < 4294967296 := by
  unfold wrd
  split
  · exact beW_lt _ _
  · exact add32_lt _ _
theorem sched_length (x : List UInt8) (i : Nat) : (sched x i).length = i := by
  induction i with
  | zero => rfl
  | succ i ih => simp [sched, ih]
theorem sched_lt (x : List UInt8) (i : Nat) : ∀ n ∈ sched x i, n < 4294967296 := by
  induction i with
  | zero => intro n h; simp [sched] at h
  | succ i ih =>
    intro n h
    rcases List.mem_append.1 h with h | h
    · exact ih n h
    · rw [List.mem_singleton.1 h]; exact wrd_lt _ _ _
theorem sched_get (x : List UInt8) (n i : Nat) (h : i < n) : (sched x n).getD i 0 = wrd x (sched x i) i := by
  induction n with
  | zero => omega
  | succ n ih =>
    rw [List.getD_eq_getElem?_getD]
    by_cases e : i = n
    · subst e
      simp only [sched]
      rw [List.getElem?_append_right (by rw [sched_length]; omega), sched_length]
      simp
    · simp only [sched]
      rw [List.getElem?_append_left (by rw [sched_length]; omega), ← List.getD_eq_getElem?_getD]
      exact ih (by omega)
theorem rnd_ok (s : S8) (k w : Nat) (h : s.ok) : (rnd s k w).ok := by
  obtain ⟨h1, h2, h3, h4, h5, h6, h7, h8⟩ := h
  exact ⟨add32_lt _ _, h1, h2, h3, add32_lt _ _, h5, h6, h7⟩
theorem rds_ok (ws : List Nat) (s : S8) (n : Nat) (h : s.ok) : (rds ws s n).ok := by
  induction n with
  | zero => exact h
  | succ n ih => exact rnd_ok _ _ _ ih
theorem mixedS_ok (s : S8) (x : List UInt8) : (mixedS s x).ok := ⟨add32_lt _ _, add32_lt _ _, add32_lt _ _, add32_lt _ _, add32_lt _ _, add32_lt _ _, add32_lt _ _, add32_lt _ _⟩
theorem begin_ok : S8.begin.ok := ⟨by decide, by decide, by decide, by decide, by decide, by decide, by decide, by decide⟩
theorem hs_ok (l : List UInt8) (k : Nat) : (hs l k).ok := by
  cases k with
  | zero => exact begin_ok
  | succ k => exact mixedS_ok _ _
theorem bytes_length (s : S8) : s.bytes.length = 32 := rfl
theorem sha_length (l : List UInt8) : (sha l).length = 32 := rfl
theorem hs_app (l m : List UInt8) (k : Nat) (h : 64 * k ≤ l.length) : hs (l ++ m) k = hs l k := by
  induction k with
  | zero => rfl
  | succ k ih =>
    show mixedS (hs (l ++ m) k) _ = mixedS (hs l k) _
    rw [ih (by omega), List.drop_append_of_le_length (by omega), List.take_append_of_le_length (by rw [List.length_drop]; omega)]
theorem tailB_length (n : Nat) : (tailB n).length = 9 + noughts n := by simp [tailB, be8]; omega
theorem padB_mod (l : List UInt8) : (padB l).length % 64 = 0 := by
  simp only [padB, List.length_append, tailB_length]
  unfold noughts
  omega
end Go.Proofs.YtcdnbidenaljlaaDoor

/- 'append' on a slice without room: the row is new, whatever it was. No program in sight. -/
namespace Go.Proofs.YtcdnbidenaljlaaDoor
open Go.RowKit

section
variable {P : Program} {t e : TypeId} {size bytes : Nat} {z : Value}
theorem run_app_new (E : Elt P t e size bytes z) (ty : TypeId) (w : World) (A : Option Addr) (n cap : Nat) (olds : List Value) (hlo : olds.length = n * size) (hro : RdC w A olds) (hA : A = none → n = 0 ∧ cap = 0) (a : Addr) (m c : Nat) (news : List Value)
    (hl : news.length = m * size) (hr : RdC w (some a) news) (hg : cap < n + m) (h63 : n + m ≤ maxLen) (hbytes : (n + m) * bytes ≤ 140737488355328) :
    ∃ v' w', (Builtin.append_ #[t, t] ty #[.slice A n cap, .slice (some a) m c]).run P w = .ok v' w' ∧ w'.ownsRow w.heap.size e size v' (n + m) (olds ++ news) ∧ Below w.heap.size w w' := by
  obtain ⟨i, hi, hz, hz1, hz2⟩ := info_parts E.hi
  have hzs := E.hz
  subst hz1 hz2
  have hsmall : n + m ≤ 9223372036854775807 := by simp only [maxLen] at h63; omega
  have hlen : (olds ++ news).length = (n + m) * i.size := by rw [List.length_append, hlo, hl, Nat.add_mul]
  have hnews : ∀ j u, news[j]? = some u → w.cell? (a.add j) = some u := fun j u hj => by obtain ⟨_, e, hc⟩ := hr j u hj; cases e; exact hc
  have grown : ∀ (old : Nat), old < n + m →
      (w.drew.alloc (.cells (olds.toArray ++ news.toArray ++ Builtin.zeroCells z.cells (grownCap w (n + m) old e - (n + m))) e)).ownsRow w.heap.size e i.size
        (.slice (some ⟨w.heap.size, 0, none⟩) (n + m) (grownCap w (n + m) old e)) (n + m) (olds ++ news) ∧
      Below w.heap.size w (w.drew.alloc (.cells (olds.toArray ++ news.toArray ++ Builtin.zeroCells z.cells (grownCap w (n + m) old e - (n + m))) e)) := by
    intro old ho
    have hge := grownCap_ge w (n + m) old e
    have hcm : grownCap w (n + m) old e ≤ maxLen := grownCap_le_maxLen w (n + m) old e h63
    refine ⟨⟨hlen, .inr ⟨w.heap.size, _, _, rfl, Nat.le_refl _, heap_alloc_new w.drew _, hge, hcm, ?_, ?_⟩⟩, (Below.refl _ w).drew.alloc (Nat.le_refl _) _⟩
    · simp only [Array.size_append, List.size_toArray, size_zeroCells, hzs, hlo, hl, ← Nat.add_mul]
      congr 1
      omega
    · simp only [Array.toList_append, List.append_assoc]
      rw [← List.append_assoc, ← hlen]
      exact List.take_left
  cases A with
  | none =>
    obtain ⟨rfl, rfl⟩ := hA rfl
    have hx : olds = [] := List.eq_nil_of_length_eq_zero (by simpa using hlo)
    subst hx
    have hr := run_append_nil (P := P) w t ty e i z E.ht hi hz a m c news hl hnews (by omega) (by omega) (by have hb := hbytes; simp only [Nat.zero_add] at hb; omega)
    have hgr := grown 0 (by omega)
    simp only [Nat.zero_add, List.nil_append, Array.empty_append] at hgr ⊢
    exact ⟨_, _, hr, hgr.1, hgr.2⟩
  | some b =>
    have holds : ∀ j u, olds[j]? = some u → w.cell? (b.add j) = some u := fun j u hj => by obtain ⟨_, e, hc⟩ := hro j u hj; cases e; exact hc
    have hr := run_append_grow (P := P) w t ty e i z E.ht hi hz b n cap olds hlo holds a m c news hl hnews (by omega) (by omega) (growslice_fits (by omega) hbytes)
    have hgr := grown cap (by omega)
    exact ⟨_, _, hr, hgr.1, hgr.2⟩
/-- 'append', kept shut. -/
def appK (ts : Array TypeId) (t : TypeId) (vs : Array Value) : Sem Value := Builtin.append_ ts t vs
theorem appK_hide (ts : Array TypeId) (t : TypeId) (vs : Array Value) : Builtin.append_ ts t vs = appK ts t vs := rfl
theorem wpList_app_new (E : Elt P t e size bytes z) {w : World} {ops : Array Oper} {rest : List Oper} {o : Oper} {a : Act} {Q : Exit → Act → World → Prop} (hgd : o.guard = none) (s x : Operand)
    (ho : o.op = .call { callee := .builtin .append, args := #[s, x], argTypes := #[t, t] })
    (A : Option Addr) (n cap : Nat) (olds : List Value) (hs : a.eval s = .slice A n cap) (hlo : olds.length = n * size) (hro : RdC w A olds) (hA : A = none → n = 0 ∧ cap = 0) (b : Addr) (m c : Nat) (news : List Value) (hx : a.eval x = .slice (some b) m c)
    (hl : news.length = m * size) (hr : RdC w (some b) news) (hg : cap < n + m) (h63 : n + m ≤ maxLen) (hbytes : (n + m) * bytes ≤ 140737488355328)
    (h : ∀ v' w', w'.ownsRow w.heap.size e size v' (n + m) (olds ++ news) → Below w.heap.size w w' → wpList P ops Q rest (a.put o.dst v') w') : wpList P ops Q (o :: rest) a w :=
  wpList_plain hgd fun _ hK => by
    obtain ⟨v', w', hrun, h2, h3⟩ := run_app_new E o.type w A n cap olds hlo hro hA b m c news hl hr hg h63 hbytes
    unfold Oper.wp
    simp [execOp, ho, resolve, invoke, builtin, hs, hx, hrun, Result.andThen]
    exact hK _ _ (h v' w' h2 h3)
end
theorem wp_store_slc {P : Program} {o : Oper} {a : Act} {w : World} {K : Act → World → Prop} {Q : Exit → Act → World → Prop} (ty : TypeId) (x y : Operand) (ho : o.op = .store ty x y) (p : Addr) (hx : a.eval x = .pointer (some p)) (A : Option Addr) (n c : Nat) (hy : a.eval y = .slice A n c) (old : Value)
    (h1 : w.cell? p = some old) (h2 : w.frozen? p = false) (hs : (P.info? ty).map (·.size) = some 1) (hd : o.dst = none) (hK : K a (w.setCell p (.slice A n c))) : o.wp P a w K Q := by
  cases hq : P.info? ty with
  | none => simp [hq] at hs
  | some i =>
    have hsz : i.size = 1 := by simpa [hq] using hs
    unfold Oper.wp execOp
    simp only [ho, hx, hy, Instr.storeAt, Instr.sureAddr, Sem.run_bind, Sem.run_pure, Result.andThen_ok, storeVar, sizeOf, typeInfo, hq]
    simp [hq, hsz, Value.cells, storeCells, go_sem, h1, h2, addr_add_zero, Oper.upon, hd, Act.put]
    exact hK
end Go.Proofs.YtcdnbidenaljlaaDoor

