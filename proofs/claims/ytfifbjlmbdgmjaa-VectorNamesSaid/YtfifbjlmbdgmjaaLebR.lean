/- leb: the memory of LebWrites: a Sink, what is wanted, and one more row of bytes. -/
import Derived.Test.YtfifbjlmbdgmjaaLebP
import Derived.Test.YtfifbjlmbdgmjaaLebG
namespace Go.Proofs.Ytfifbjlmbdgmjaa
open Go.RowKit

structure Rows (w0 : World) (xs ys : List UInt8) (vs vw vo : Value) (l : List UInt8) (W : World) : Prop where
  sink : SinkAt w0.heap.size vs xs W
  want : W.ownsRow (w0.heap.size + 1) 5 1 vw ys.length (u8v ys)
  own : W.ownsRow (w0.heap.size + 1) 5 1 vo l.length (u8v l)
  d1 : ∀ b, vs.ownBlock = some b → vw.ownBlock ≠ some b
  d2 : ∀ b, vo.ownBlock = some b → vs.ownBlock ≠ some b ∧ vw.ownBlock ≠ some b
  bel : Below w0.heap.size w0 W
section
variable {w0 W W' : World} {xs ys l : List UInt8} {vs vw vo : Value}
theorem Rows.glt (h : Rows w0 xs ys vs vw vo l W) : w0.heap.size < W.heap.size := lt_get h.sink.1
theorem Rows.below (h : Rows w0 xs ys vs vw vo l W) (hb : Below W.heap.size W W') : Rows w0 xs ys vs vw vo l W' :=
  ⟨h.sink.below hb, own_below h.want hb, own_below h.own hb, h.d1, h.d2, below_then h.bel hb (Nat.le_refl _)⟩
theorem Rows.newOwn (h : Rows w0 xs ys vs vw vo l W) {vo' : Value} {l' : List UInt8} (hn : NewRow W W' vo' l') : Rows w0 xs ys vs vw vo' l' W' := by
  have h2 := h.below hn.2
  refine ⟨h2.sink, h2.want, own_mono hn.1 h.glt, h2.d1, fun b hb => ?_, h2.bel⟩
  have := (hn.1.lt b hb).1
  exact ⟨fun e => by have := (h.sink.2.lt b e).2; omega, fun e => by have := (h.want.lt b e).2; omega⟩
theorem Rows.wantOn (h : Rows w0 xs ys vs vw vo l W) {vw' : Value} {m : Nat} {l2 : List UInt8} (hm : l2.length = m) (ho : W'.ownsRow (w0.heap.size + 1) 5 1 vw' (ys.length + m) (u8v ys ++ u8v l2)) (hg : W.grownBy W' vw.ownBlock) (hor : ∀ k, vw'.ownBlock = some k → vw.ownBlock = some k ∨ k = W.heap.size) :
    Rows w0 xs (ys ++ l2) vs vw' vo l W' := by
  have hgl := h.glt
  have hns : ∀ k, vs.ownBlock = some k → W'.heap[k]? = W.heap[k]? := fun k hk => hg.block k (h.sink.2.lt k hk).2 fun e => h.d1 k hk e.symm
  have hno : ∀ k, vo.ownBlock = some k → W'.heap[k]? = W.heap[k]? := fun k hk => hg.block k (h.own.lt k hk).2 fun e => (h.d2 k hk).2 e.symm
  have hng : W'.heap[w0.heap.size]? = W.heap[w0.heap.size]? := hg.block _ hgl fun e => by have := (h.want.lt _ e.symm).1; omega
  refine ⟨⟨hng.trans h.sink.1, own_of_block h.sink.2 hns⟩, by rw [List.length_append, hm, u8v_append]; exact ho, own_of_block h.own hno, fun b hb e => ?_, fun b hb => ⟨(h.d2 b hb).1, fun e => ?_⟩, below_grown h.bel h.want hg (Nat.le_of_lt hgl) (Nat.le_succ _)⟩
  · rcases hor b e with h1 | h1
    · exact h.d1 b hb h1
    · have := (h.sink.2.lt b hb).2; omega
  · rcases hor b e with h1 | h1
    · exact (h.d2 b hb).2 h1
    · have := (h.own.lt b hb).2; omega
theorem Rows.sinkOn (h : Rows w0 xs ys vs vw vo l W) {vs' : Value} {xs' : List UInt8} (hs : SinkStep w0.heap.size vs W xs' vs' W') : Rows w0 xs' ys vs' vw vo l W' := by
  have hgl := h.glt
  have hnw : ∀ k, vw.ownBlock = some k → W'.heap[k]? = W.heap[k]? := fun k hk => hs.2.2.block k (h.want.lt k hk).2 fun e => e.elim (fun e => by have := (h.want.lt k hk).1; omega) fun e => h.d1 k e hk
  have hno : ∀ k, vo.ownBlock = some k → W'.heap[k]? = W.heap[k]? := fun k hk => hs.2.2.block k (h.own.lt k hk).2 fun e => e.elim (fun e => by have := (h.own.lt k hk).1; omega) fun e => (h.d2 k hk).1 e
  refine ⟨hs.1, own_of_block h.want hnw, own_of_block h.own hno, fun b hb e => ?_, fun b hb => ⟨fun e => ?_, (h.d2 b hb).2⟩, ?_⟩
  · exact h.d1 b (hs.2.1 b hb (h.want.lt b e).2) e
  · exact (h.d2 b hb).1 (hs.2.1 b e (h.own.lt b hb).2)
  · refine ⟨hs.2.2.os.trans h.bel.os, hs.2.2.tape.trans h.bel.tape, hs.2.2.output.trans h.bel.output, Nat.le_trans h.bel.size hs.2.2.size, fun k hk => ?_⟩
    rw [hs.2.2.block k (by omega) fun e => e.elim (fun e => by omega) fun e => by have := (h.sink.2.lt k e).1; omega]
    exact h.bel.block k hk
theorem Rows.ownGone (h : Rows w0 xs ys vs vw vo l W) (hk : Kept (fun k => vo.ownBlock = some k) W W') : Rows w0 xs ys vs vw (.slice none 0 0) [] W' := by
  have hgl := h.glt
  refine ⟨⟨(hk.block _ hgl fun e => by have := (h.own.lt _ e).1; omega).trans h.sink.1, own_of_block h.sink.2 fun k hs => hk.block k (h.sink.2.lt k hs).2 fun e => (h.d2 k e).1 hs⟩, own_of_block h.want fun k hw => hk.block k (h.want.lt k hw).2 fun e => (h.d2 k e).2 hw, World.ownsRow_nil .., h.d1, (fun b hb => by cases hb), ?_⟩
  refine ⟨hk.os.trans h.bel.os, hk.tape.trans h.bel.tape, hk.output.trans h.bel.output, Nat.le_trans h.bel.size hk.size, fun k hkk => ?_⟩
  rw [hk.block k (by omega) fun e => by have := (h.own.lt k e).1; omega]
  exact h.bel.block k hkk
theorem Rows.ownRd {A : Option Addr} {n c : Nat} (h : Rows w0 xs ys vs vw (.slice A n c) l W) : RdC W A (u8v l) ∧ ∀ ad, A = some ad → ad.block < W.heap.size ∧ ad.block ≠ w0.heap.size ∧ vs.ownBlock ≠ some ad.block := by
  obtain ⟨A2, c2, e, _, _, hr, _⟩ := RdC.of_own h.own
  injection e with e1 e2 e3
  subst e1
  refine ⟨hr, fun ad e => ?_⟩
  subst e
  have h1 := h.own.lt ad.block rfl
  exact ⟨h1.2, by omega, (h.d2 ad.block rfl).1⟩
theorem Rows.wantRd {A : Option Addr} {n c : Nat} (h : Rows w0 xs ys vs (.slice A n c) vo l W) : RdC W A (u8v ys) := by
  obtain ⟨A2, c2, e, _, _, hr, _⟩ := RdC.of_own h.want
  injection e with e1 e2 e3
  subst e1
  exact hr
end
theorem OpRow.below {W W' : World} {a : Option Addr} {len cap : Nat} {L : List OpV} (h : OpRow W a len cap L) (hb : Below W.heap.size W W') : OpRow W' a len cap L :=
  ⟨h.1, h.2.1, h.2.2.1, fun o ho => ⟨(h.2.2.2.1 o ho).1, (h.2.2.2.1 o ho).2.1, (h.2.2.2.1 o ho).2.2.1, ⟨(h.2.2.2.1 o ho).2.2.2.1.1, (h.2.2.2.1 o ho).2.2.2.1.2.1, (h.2.2.2.1 o ho).2.2.2.1.2.2.1, (h.2.2.2.1 o ho).2.2.2.1.2.2.2.below hb⟩, (h.2.2.2.1 o ho).2.2.2.2⟩, fun i hi h' => by
    obtain ⟨ad, e, hc⟩ := h.2.2.2.2 i hi h'
    refine ⟨ad, e, fun r u hu => ?_⟩
    have h1 := hc r u hu
    have h2 := World.block_lt_of_cell? W _ h1
    exact (hb.cell h2).trans h1⟩
/-- A row whose first n cells are bytes, whichever. -/
def IncAt (g n : Nat) (W : World) : Prop := ∃ cur : Array Value, W.heap[g]? = some (.cells cur 5 (0, 0)) ∧ ∀ j, j < n → ∃ b : UInt8, cur[j]? = some (.int .u8 (b.toNat : Int))
theorem IncAt.of_own {W : World} {B n c g : Nat} {l : List UInt8} (h : W.ownsRow B 5 1 (.slice (some ⟨g, 0, none⟩) n c) l.length (u8v l)) (hn : n = l.length) : IncAt g n W := by
  rcases h.2 with ⟨e, _⟩ | ⟨g', cap, cur, e, _, hg, hnc, _, hs, ht⟩
  · cases e
  · obtain ⟨rfl⟩ : g = g' := by injection e with e1 e2 e3; injection e1 with e1; injection e1
    refine ⟨cur, hg, fun j hj => ⟨l[j]'(by omega), ?_⟩⟩
    have h1 := u8v_get l j (by omega)
    rw [← ht, List.getElem?_take, if_pos (by omega)] at h1
    simpa using h1
theorem IncAt.step {W : World} {g n k : Nat} {b : UInt8} (h : IncAt g n W) : IncAt g n (W.setCell ⟨g, k, none⟩ (.int .u8 (b.toNat : Int))) := by
  obtain ⟨cur, h1, h2⟩ := h
  refine ⟨_, heap_setCell_same W g k cur _ _ h1, fun j hj => ?_⟩
  rw [Array.getElem?_setIfInBounds]
  by_cases e : k = j
  · subst e
    obtain ⟨b', hb'⟩ := h2 k hj
    have := (Array.getElem?_eq_some_iff.1 hb').1
    exact ⟨b, by simp [this]⟩
  · rw [if_neg e]; exact h2 j hj
theorem IncAt.cell {W : World} {g n : Nat} (h : IncAt g n W) (k : Nat) (hk : k < n) : W.frozen? ⟨g, k, none⟩ = false ∧ ∃ b : UInt8, W.cell? ⟨g, k, none⟩ = some (.int .u8 (b.toNat : Int)) := by
  obtain ⟨cur, h1, h2⟩ := h
  obtain ⟨b, hb⟩ := h2 k hk
  exact ⟨frozen_of_row W _ k cur _ h1, b, by rw [cell_of_row W _ k cur _ _ h1]; exact hb⟩
theorem Kept.set {ex : Nat → Prop} {W W1 : World} {g k : Nat} {v : Value} (h : Kept ex W W1) (hg : ex g) : Kept ex W (W1.setCell ⟨g, k, none⟩ v) :=
  ⟨h.os, h.tape, h.output, by simpa using h.size, fun j hj he => by rw [heap_setCell_other _ _ _ _ (fun e => he (by rw [show j = g from e]; exact hg))]; exact h.block j hj he⟩
theorem Kept.refl (ex : Nat → Prop) (W : World) : Kept ex W W := ⟨rfl, rfl, rfl, Nat.le_refl _, fun _ _ _ => rfl⟩
theorem u8_next (b : UInt8) : IntKind.u8.wrap ((b.toNat : Int) + 1) = ((b + 1).toNat : Int) := by
  rw [UInt8.toNat_add]
  have := b.toNat_lt
  show IntKind.u8.wrap _ = _
  simp [IntKind.wrap, IntKind.signed, IntKind.bits]
  try omega
end Go.Proofs.Ytfifbjlmbdgmjaa
