/- A []uint16 that came in; a running hash beside a list of parts that grows. -/
import Derived.Test.YtcdnbidenaljlaaDoorShaGc
import Derived.Test.YtcdnbidenaljlaaDoorOpen
import Derived.Maps.AppendAt
namespace Go.Proofs.YtcdnbidenaljlaaDoor
open Go.RowKit Go.ChangeShapes

def u16v (l : List Nat) : List Value := l.map fun x : Nat => .int .u16 (x : Int)
def U16Row (w : World) (a : Option Addr) (len : Nat) (l : List Nat) : Prop := l.length = len ∧ RdC w a (u16v l) ∧ ∀ x ∈ l, x < 65536
theorem u16s_of_wf (zs : List Int) (h : ∀ n ∈ zs, (Lit.int .u16 n).wf = true) : ∃ l : List Nat, zs = l.map (fun x : Nat => (x : Int)) ∧ ∀ x ∈ l, x < 65536 := by
  induction zs with
  | nil => exact ⟨[], rfl, fun x hx => by cases hx⟩
  | cons z zs ih =>
    obtain ⟨l, hl, hb⟩ := ih fun n hn => h n (List.mem_cons_of_mem _ hn)
    obtain ⟨x, hx, hx2⟩ := u16_of_wf (h z (List.mem_cons_self ..))
    refine ⟨x :: l, by rw [hl, hx]; rfl, fun y hy => ?_⟩
    rcases List.mem_cons.1 hy with rfl | hy
    · exact hx2
    · exact hb y hy
theorem u16Row_of {P : Program} {H : Type} {enc : TypeId × Value → H} {W : World} {t e : TypeId} {a : Option Addr} {len cap : Nat} {d : DataW H} {p : List MemPlace} (ht : P.underlying t = some (.slice e)) (he : P.underlying e = some (.int .u16)) (hc : P.cellsOf e = 1)
    (h : DataW.Trod enc P W 0 (fun _ => true) true t (.slice a len cap) d p) : ∃ l, U16Row W a len l := by
  obtain ⟨fuel, hf⟩ := h
  rcases open_ints ht he hc hf with ⟨hcs, _⟩ | ⟨x, l, c, zs, hcs, _, hl, hm, hz, _, hcell, hwz⟩
  · simp [Value.cells] at hcs
    obtain ⟨rfl, rfl, rfl⟩ := hcs
    exact ⟨[], rfl, RdC.nil _ _, fun x hx => by cases hx⟩
  · simp [Value.cells] at hcs
    obtain ⟨rfl, rfl, rfl⟩ := hcs
    obtain ⟨bs, rfl, hb⟩ := u16s_of_wf zs hwz
    have hz' : bs.length = cap := by simpa using hz
    refine ⟨bs.take len, by simp; omega, ?_, fun x hx => hb x (List.mem_of_mem_take hx)⟩
    have e : u16v (bs.take len) = (u16v bs).take len := by simp [u16v, List.map_take]
    rw [e]
    refine RdC.take (fun j u hj => ⟨_, rfl, ?_⟩) len
    have hjl : j < bs.length := by have := (List.getElem?_eq_some_iff.1 hj).1; simpa [u16v] using this
    rw [hcell j (by simpa using hjl)]
    rw [show (u16v bs)[j]? = some (.int .u16 (bs[j] : Int)) by simp [u16v, hjl]] at hj
    cases hj
    simp [hjl]
/-- A running hash in another world, where one block changed that is none of its own. -/
theorem RunAtF.move {F F' : Nat → Prop} {g : Nat} {b : Bool} {l : List UInt8} {w W : World} {row : Option Nat} (h : RunAtF F g b l w) (hg : w.grownBy W row) (h1 : some g ≠ row) (h2 : ∀ x, F x → some x ≠ row) (h3 : ∀ x, F x → x < w.heap.size → F' x) : RunAtF F' g b l W := by
  obtain ⟨hb, A, c, hK⟩ := h
  refine ⟨hb, A, c, (hg.block _ (lt_of_get hK.row) h1).trans hK.row, hK.le, hK.nc, hK.cm, ?_, hK.nil, fun ad e => ⟨fun hlt => ?_, (hK.far ad e).2⟩⟩
  · by_cases hlt : 64 * (l.length / 64) < l.length
    · exact hK.rd.grown hg (fun ad e h => h2 _ ((hK.far ad e).1 hlt) h)
    · rw [List.drop_of_length_le (by omega)]
      exact RdC.nil _ _
  · exact h3 _ ((hK.far ad e).1 hlt) (hK.rd.lt (by rw [u8v_length, List.length_drop]; omega) ad e)
theorem RunAtF.row {F : Nat → Prop} {g : Nat} {b : Bool} {l : List UInt8} {w : World} (h : RunAtF F g b l w) : ∃ s v, w.heap[g]? = some (.cells (runC b s v (l.length : Int)) 30 (0, 0)) := by
  obtain ⟨_, A, c, hK⟩ := h
  exact ⟨_, _, hK.row⟩
theorem flat_app (L : List SlB) (s : SlB) : flat (L ++ [s]) = flat L ++ s.l := by simp [flat]
theorem below_of_grown {B g : Nat} {w w1 w2 : World} (h : Below B w w1) (hg : w1.grownBy w2 (some g)) (hB : B ≤ w.heap.size) (hgB : B ≤ g) : Below B w w2 :=
  ⟨hg.os.trans h.os, hg.tape.trans h.tape, hg.output.trans h.output, Nat.le_trans h.size hg.size, fun j hj => (hg.block j (by have := h.size; omega) (by simp; omega)).trans (h.block j hj)⟩
theorem own_lt {w : World} {B : Nat} {e : TypeId} {s n : Nat} {v : Value} {xs : List Value} (h : w.ownsRow B e s v n xs) (x : Nat) (hx : v.ownBlock = some x) : B ≤ x ∧ x < w.heap.size := by
  rcases h.2 with ⟨rfl, _⟩ | ⟨g, cap, cur, rfl, h1, h2, _⟩
  · cases hx
  · cases hx
    exact ⟨h1, lt_of_get h2⟩
theorem elt22 : Elt Tryd.prog 39 22 1 24 (.slice none 0 0) := ⟨Tryd.underlying39, by kernel_rfl, rfl, by omega⟩
section
variable {P : Program} {t e : TypeId} {size bytes : Nat} {z : Value}
theorem wpList_app_at (E : Elt P t e size bytes z) {w : World} {ops : Array Oper} {rest : List Oper} {o : Oper} {a : Act} {Q : Exit → Act → World → Prop} (hgd : o.guard = none) (s x : Operand)
    (ho : o.op = .call { callee := .builtin .append, args := #[s, x], argTypes := #[t, t] })
    (base : Nat) (v : Value) (n : Nat) (xs : List Value) (hs : a.eval s = v) (hown : w.ownsRow base e size v n xs) (ad : Addr) (m c : Nat) (news : List Value) (hx : a.eval x = .slice (some ad) m c)
    (hl : news.length = m * size) (hr : RdC w (some ad) news) (h1 : ∀ u ∈ news, u.oneCell' = true) (h63 : n + m ≤ maxLen) (hbytes : (n + m) * bytes ≤ 140737488355328) (hbase : base ≤ w.heap.size)
    (h : ∀ v' w', w'.ownsRow base e size v' (n + m) (xs ++ news) → w.grownBy w' v.ownBlock → (v'.ownBlock = v.ownBlock ∨ v'.ownBlock = some w.heap.size) → wpList P ops Q rest (a.put o.dst v') w') : wpList P ops Q (o :: rest) a w := by
  obtain ⟨i0, hi, hz0, hz1, hz2⟩ := info_parts E.hi
  exact wpList_append_own_at (P := P) (w := w) hgd s x t ho base e i0 z size bytes E.ht hi hz0 hz1 hz2 E.hz E.hsz v n xs hs hown ad m c news hx hl (fun j u hj => by obtain ⟨_, e, hc⟩ := hr j u hj; cases e; exact hc) h1 h63 hbytes hbase fun v' w' a1 a2 _ a4 => h v' w' a1 a2 a4
end
end Go.Proofs.YtcdnbidenaljlaaDoor
